/- The law tapearchive/tapearchivelaw11.DriveReads of the given program: called with any arguments that read as data it returns true, and each argument reads afterwards as it read before. Nothing is assumed beyond what the row says. -/
import Derived.Test.YtlkjklacanedoaaRows
import Derived.Test.YtlkjklacanedoaaDenG11o
import Derived.Test.YtlkjklacanedoaaDenP11DriveReads
import Derived.WalkKit
import Derived.ProofKit
import Derived.OpenShut
import Derived.ShutString
import Derived.ChangeOld
import Derived.Below
import Derived.SizedLaws
import Derived.Carry
namespace Go.Proofs.Ytlkjklacanedoaa.driveReadsRow
open Go.ChangeShapes Go.WideShapes Go.ChangeAt Go.RowKit Go.Proofs.Ytlkjklacanedoaa.Den Go.Proofs.Ytlkjklacanedoaa.Den.G11
set_option linter.unusedVariables false
set_option linter.unusedSimpArgs false
theorem own : ownKnob Try.prog.godebug = none := by kernel_rfl
theorem laidOut : laidOutB Try.prog = true := by kernel_rfl
set_option maxRecDepth 100000 in
set_option maxHeartbeats 2000000 in
theorem lifted (os : Os) (started : os.Started) (H : Type) (enc : TypeId × Value → H) :
    ReturnsInHanded {} Try.checked os 3 .any (Rows.driveReadsSpec.pre6 enc Try.prog Try.f3 Rows.driveReadsRow.domain false) (Rows.driveReadsSpec.post enc Try.prog Try.f3 false true false false) := by
  refine returnsInHanded_of_change_sized (C := Try.checked) own started (by kernel_rfl) Try.func3
    (ChangeSpec.witness6 (enc := enc) (C := Try.checked) false ⟨#[], #[.agg #[.int .i64 0, .int .i64 0, .int .i64 0, .int .i64 0, .int .i64 0], .agg #[.string ByteArray.empty, .int .i64 0, .int .i64 0, .int .i64 0, .int .i64 0, .int .i64 0, .int .i64 0, .bool false, .bool false, .slice none 0 0, .int .i64 0, .int .i64 0, .int .i64 0], .int .i64 0, .slice none 0 0], []⟩ 8 (by kernel_rfl) (by kernel_rfl) (by kernel_rfl) (by kernel_rfl)) ?_
  intro W base args ds gs before hval0 hW hcnd hsz0 _
  have hval : ∀ (j : Nat) t v, Try.f3.params[j]? = some t → args[j]? = some v → Value.okWide Try.prog W .any base t v := hval0
  have hW' := hW
  obtain ⟨p, q, hA0, hV, rfl, hfz, hnd⟩ := hW
  have hA : DataW.TrodAll enc Try.prog W 0 (fun _ => true) true Try.f3.params.toList args.toList ds p := hA0
  rw [Try.params3] at hA hval
  obtain ⟨v0, vs0, d0, ds0, p0, q0, hargs, rfl, rfl, h0, r0⟩ := trodAll_cons hA
  obtain ⟨v1, vs1, d1, ds1, p1, q1, rfl, rfl, rfl, h1, r1⟩ := trodAll_cons r0
  obtain ⟨v2, vs2, d2, ds2, p2, q2, rfl, rfl, rfl, h2, r2⟩ := trodAll_cons r1
  obtain ⟨v3, vs3, d3, ds3, p3, q3, rfl, rfl, rfl, h3, r3⟩ := trodAll_cons r2
  obtain ⟨rfl, rfl, rfl⟩ := trodAll_nil r3
  obtain rfl : args = #[v0, v1, v2, v3] := by cases args; simp_all
  obtain ⟨rfl, rfl⟩ := trodVars_none hV
  have k0 := h0
  have lt0 : ∀ x ∈ p0, x.block < W.heap.size := by obtain ⟨m, hm⟩ := k0; exact DataW.trod_lt m _ _ _ hm
  obtain ⟨a0, hK0, hok0⟩ : ∃ a : T kDriveModel, RC W (fun b => b < W.heap.size) kDriveModel a v0.cells.toList ∧ OkT kDriveModel a := by obtain ⟨m, hm⟩ := h0; exact opens23 H enc W 0 _ true m _ _ hm
  obtain ⟨cs0, rfl, _⟩ := okWide_struct Try.underlying23 (hval 0 23 v0 rfl rfl)
  have hv0 := VR_agg (k := kDriveModel) rfl hK0
  have k1 := h1
  have lt1 : ∀ x ∈ p1, x.block < W.heap.size := by obtain ⟨m, hm⟩ := k1; exact DataW.trod_lt m _ _ _ hm
  obtain ⟨a1, hK1, hok1⟩ : ∃ a : T kCartridge, RC W (fun b => b < W.heap.size) kCartridge a v1.cells.toList ∧ OkT kCartridge a := by obtain ⟨m, hm⟩ := h1; exact opens28 H enc W 0 _ true m _ _ hm
  obtain ⟨cs1, rfl, _⟩ := okWide_struct Try.underlying28 (hval 1 28 v1 rfl rfl)
  have hv1 := VR_agg (k := kCartridge) rfl hK1
  have k2 := h2
  have lt2 : ∀ x ∈ p2, x.block < W.heap.size := by obtain ⟨m, hm⟩ := k2; exact DataW.trod_lt m _ _ _ hm
  obtain ⟨a2, hK2, hok2⟩ : ∃ a : T (.int .i64), RC W (fun b => b < W.heap.size) (.int .i64) a v2.cells.toList ∧ OkT (.int .i64) a := by obtain ⟨m, hm⟩ := h2; exact (opens_int Try.underlying3) H enc W 0 _ true m _ _ hm
  obtain ⟨n2, rfl⟩ := okWide_int Try.underlying3 (hval 2 3 v2 rfl rfl)
  have hv2 := VR_one (k := (.int .i64)) rfl rfl hK2
  have k3 := h3
  have lt3 : ∀ x ∈ p3, x.block < W.heap.size := by obtain ⟨m, hm⟩ := k3; exact DataW.trod_lt m _ _ _ hm
  obtain ⟨a3, hK3, hok3⟩ : ∃ a : T (.slice kBlock), RC W (fun b => b < W.heap.size) (.slice kBlock) a v3.cells.toList ∧ OkT (.slice kBlock) a := by obtain ⟨m, hm⟩ := h3; exact (opens_slice Try.underlying26 (by kernel_rfl) opens61) H enc W 0 _ true m _ _ hm
  obtain ⟨A3, len3, cap3, rfl⟩ := okWide_slice Try.underlying26 (hval 3 26 v3 rfl rfl)
  have hv3 := VR_one (k := (.slice kBlock)) rfl rfl hK3
  clear hA0 hval0 hsz0
  obtain ⟨d, hd⟩ := pure_DriveReads a0 a1 a2 a3 hok0 hok1 hok2 hok3
  refine ((tapearchivelaw11_DriveReads_ok d).callsPure (a0, a1, a2, a3) true hd W (fun b => b < W.heap.size) _ (fun b h => h) ⟨_, _, rfl, hv0, ⟨_, _, rfl, hv1, ⟨_, _, rfl, hv2, ⟨_, _, rfl, hv3, ⟨rfl, rfl⟩⟩⟩⟩⟩).mono fun e W' he => ?_
  obtain ⟨v, rfl, bel, hrr⟩ := he
  have bel : Below W.heap.size W W' := bel
  obtain rfl := res_bool (b := true) hrr
  exact ⟨_, rfl, _, _, _, [], _, [], hW', trodAll_mk1 (shut_bool Try.underlying4 _), (trodAll_cons_mk (Below.trod laidOut (by kernel_rfl) (of_decide_eq_true (by kernel_rfl)) k0 bel lt0) (trodAll_cons_mk (Below.trod laidOut (by kernel_rfl) (of_decide_eq_true (by kernel_rfl)) k1 bel lt1) (trodAll_cons_mk (Below.trod laidOut (by kernel_rfl) (of_decide_eq_true (by kernel_rfl)) k2 bel lt2) (trodAll_cons_mk (Below.trod laidOut (by kernel_rfl) (of_decide_eq_true (by kernel_rfl)) k3 bel lt3) trodAll_mk0)))), rfl, bel.frame _, fun h => by cases h⟩
theorem over : Rows.driveReadsRow.holds Try.pinned (OpenSpec.ofChange Rows.driveReadsSpec) :=
  OpenClaim.holds_of_wide 3 Try.f3 rfl rfl rfl rfl rfl rfl rfl ⟨rfl, rfl, rfl, rfl, rfl⟩ rfl rfl rfl rfl rfl (by kernel_rfl) Try.func3 (by kernel_rfl)
    (of_decide_eq_true (by kernel_rfl)) (by unfold Func.isWrapper; first | (rw [if_pos (by decide +kernel)]; kernel_rfl) | (rw [if_neg (by decide +kernel)]; exact ⟨rfl, rfl⟩))
    (fun os started H enc _ => lifted os started H enc)
end Go.Proofs.Ytlkjklacanedoaa.driveReadsRow
namespace Go.Proofs.Ytlkjklacanedoaa
/-- The row, under a short name, for the claim. -/
theorem driveReads_holds : Rows.DriveReadsSaid := driveReadsRow.over
end Go.Proofs.Ytlkjklacanedoaa
