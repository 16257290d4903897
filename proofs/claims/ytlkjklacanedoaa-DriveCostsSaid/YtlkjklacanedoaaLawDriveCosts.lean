/- The law tapearchive/tapearchivelaw11.DriveCosts of the given program: called with any arguments that read as data it returns true, and each argument reads afterwards as it read before. Nothing is assumed beyond what the row says. -/
import Derived.Test.YtlkjklacanedoaaRows
import Derived.Test.YtlkjklacanedoaaDenG11o
import Derived.Test.YtlkjklacanedoaaDenP11DriveCosts
import Derived.WalkKit
import Derived.ProofKit
import Derived.OpenShut
import Derived.ShutString
import Derived.ChangeOld
import Derived.Below
import Derived.SizedLaws
import Derived.Carry
namespace Go.Proofs.Ytlkjklacanedoaa.driveCostsRow
open Go.ChangeShapes Go.WideShapes Go.ChangeAt Go.RowKit Go.Proofs.Ytlkjklacanedoaa.Den Go.Proofs.Ytlkjklacanedoaa.Den.G11
set_option linter.unusedVariables false
set_option linter.unusedSimpArgs false
theorem own : ownKnob Try.prog.godebug = none := by kernel_rfl
theorem laidOut : laidOutB Try.prog = true := by kernel_rfl
set_option maxRecDepth 100000 in
set_option maxHeartbeats 2000000 in
theorem lifted (os : Os) (started : os.Started) (H : Type) (enc : TypeId × Value → H) :
    ReturnsInHanded {} Try.checked os 6 .any (Rows.driveCostsSpec.pre6 enc Try.prog Try.f6 Rows.driveCostsRow.domain false) (Rows.driveCostsSpec.post enc Try.prog Try.f6 false true false false) := by
  refine returnsInHanded_of_change_sized (C := Try.checked) own started (by kernel_rfl) Try.func6
    (ChangeSpec.witness6 (enc := enc) (C := Try.checked) false ⟨#[], #[.agg #[.int .i64 0, .int .i64 0, .int .i64 0, .int .i64 0, .int .i64 0], .slice none 0 0, .slice none 0 0], []⟩ 8 (by kernel_rfl) (by kernel_rfl) (by kernel_rfl) (by kernel_rfl)) ?_
  intro W base args ds gs before hval0 hW hcnd hsz0 _
  have hval : ∀ (j : Nat) t v, Try.f6.params[j]? = some t → args[j]? = some v → Value.okWide Try.prog W .any base t v := hval0
  have hW' := hW
  obtain ⟨p, q, hA0, hV, rfl, hfz, hnd⟩ := hW
  have hA : DataW.TrodAll enc Try.prog W 0 (fun _ => true) true Try.f6.params.toList args.toList ds p := hA0
  rw [Try.params6] at hA hval
  obtain ⟨v0, vs0, d0, ds0, p0, q0, hargs, rfl, rfl, h0, r0⟩ := trodAll_cons hA
  obtain ⟨v1, vs1, d1, ds1, p1, q1, rfl, rfl, rfl, h1, r1⟩ := trodAll_cons r0
  obtain ⟨v2, vs2, d2, ds2, p2, q2, rfl, rfl, rfl, h2, r2⟩ := trodAll_cons r1
  obtain ⟨rfl, rfl, rfl⟩ := trodAll_nil r2
  obtain rfl : args = #[v0, v1, v2] := by cases args; simp_all
  obtain ⟨rfl, rfl⟩ := trodVars_none hV
  have k0 := h0
  have lt0 : ∀ x ∈ p0, x.block < W.heap.size := by obtain ⟨m, hm⟩ := k0; exact DataW.trod_lt m _ _ _ hm
  obtain ⟨a0, hK0, hok0⟩ : ∃ a : T kDriveModel, RC W (fun b => b < W.heap.size) kDriveModel a v0.cells.toList ∧ OkT kDriveModel a := by obtain ⟨m, hm⟩ := h0; exact opens23 H enc W 0 _ true m _ _ hm
  obtain ⟨cs0, rfl, _⟩ := okWide_struct Try.underlying23 (hval 0 23 v0 rfl rfl)
  have hv0 := VR_agg (k := kDriveModel) rfl hK0
  have k1 := h1
  have lt1 : ∀ x ∈ p1, x.block < W.heap.size := by obtain ⟨m, hm⟩ := k1; exact DataW.trod_lt m _ _ _ hm
  obtain ⟨a1, hK1, hok1⟩ : ∃ a : T (.slice kCartridge), RC W (fun b => b < W.heap.size) (.slice kCartridge) a v1.cells.toList ∧ OkT (.slice kCartridge) a := by obtain ⟨m, hm⟩ := h1; exact (opens_slice Try.underlying31 (by kernel_rfl) opens28) H enc W 0 _ true m _ _ hm
  obtain ⟨A1, len1, cap1, rfl⟩ := okWide_slice Try.underlying31 (hval 1 31 v1 rfl rfl)
  have hv1 := VR_one (k := (.slice kCartridge)) rfl rfl hK1
  have k2 := h2
  have lt2 : ∀ x ∈ p2, x.block < W.heap.size := by obtain ⟨m, hm⟩ := k2; exact DataW.trod_lt m _ _ _ hm
  obtain ⟨a2, hK2, hok2⟩ : ∃ a : T (.slice ktapearchivelaw11_Step), RC W (fun b => b < W.heap.size) (.slice ktapearchivelaw11_Step) a v2.cells.toList ∧ OkT (.slice ktapearchivelaw11_Step) a := by obtain ⟨m, hm⟩ := h2; exact (opens_slice Try.underlying34 (by kernel_rfl) opens33) H enc W 0 _ true m _ _ hm
  obtain ⟨A2, len2, cap2, rfl⟩ := okWide_slice Try.underlying34 (hval 2 34 v2 rfl rfl)
  have hv2 := VR_one (k := (.slice ktapearchivelaw11_Step)) rfl rfl hK2
  clear hA0 hval0 hsz0
  obtain ⟨d, hd⟩ := pure_DriveCosts a0 a1 a2 hok0 hok1 hok2
  refine ((tapearchivelaw11_DriveCosts_ok d).callsPure (a0, a1, a2) true hd W (fun b => b < W.heap.size) _ (fun b h => h) ⟨_, _, rfl, hv0, ⟨_, _, rfl, hv1, ⟨_, _, rfl, hv2, ⟨rfl, rfl⟩⟩⟩⟩).mono fun e W' he => ?_
  obtain ⟨v, rfl, bel, hrr⟩ := he
  have bel : Below W.heap.size W W' := bel
  obtain rfl := res_bool (b := true) hrr
  exact ⟨_, rfl, _, _, _, [], _, [], hW', trodAll_mk1 (shut_bool Try.underlying4 _), (trodAll_cons_mk (Below.trod laidOut (by kernel_rfl) (of_decide_eq_true (by kernel_rfl)) k0 bel lt0) (trodAll_cons_mk (Below.trod laidOut (by kernel_rfl) (of_decide_eq_true (by kernel_rfl)) k1 bel lt1) (trodAll_cons_mk (Below.trod laidOut (by kernel_rfl) (of_decide_eq_true (by kernel_rfl)) k2 bel lt2) trodAll_mk0))), rfl, bel.frame _, fun h => by cases h⟩
theorem over : Rows.driveCostsRow.holds Try.pinned (OpenSpec.ofChange Rows.driveCostsSpec) :=
  OpenClaim.holds_of_wide 6 Try.f6 rfl rfl rfl rfl rfl rfl rfl ⟨rfl, rfl, rfl, rfl, rfl⟩ rfl rfl rfl rfl rfl (by kernel_rfl) Try.func6 (by kernel_rfl)
    (of_decide_eq_true (by kernel_rfl)) (by unfold Func.isWrapper; first | (rw [if_pos (by decide +kernel)]; kernel_rfl) | (rw [if_neg (by decide +kernel)]; exact ⟨rfl, rfl⟩))
    (fun os started H enc _ => lifted os started H enc)
end Go.Proofs.Ytlkjklacanedoaa.driveCostsRow
namespace Go.Proofs.Ytlkjklacanedoaa
/-- The row, under a short name, for the claim. -/
theorem driveCosts_holds : Rows.DriveCostsSaid := driveCostsRow.over
end Go.Proofs.Ytlkjklacanedoaa
