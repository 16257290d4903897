/- The law tapearchive/tapearchivelaw10.CartridgeCounts of the given program: called with any arguments that read as data it returns true, and each argument reads afterwards as it read before. Nothing is assumed beyond what the row says. -/
import Derived.Test.YtiaafpihoikeeaaRows
import Derived.Test.YtiaafpihoikeeaaDenG10o
import Derived.Test.YtiaafpihoikeeaaDenP10CartridgeCounts
import Derived.WalkKit
import Derived.ProofKit
import Derived.OpenShut
import Derived.ShutString
import Derived.ChangeOld
import Derived.Below
import Derived.SizedLaws
import Derived.Carry
namespace Go.Proofs.Ytiaafpihoikeeaa.cartridgeCountsRow
open Go.ChangeShapes Go.WideShapes Go.ChangeAt Go.RowKit Go.Proofs.Ytiaafpihoikeeaa.Den Go.Proofs.Ytiaafpihoikeeaa.Den.G10
set_option linter.unusedVariables false
set_option linter.unusedSimpArgs false
theorem own : ownKnob Try.prog.godebug = none := by kernel_rfl
theorem laidOut : laidOutB Try.prog = true := by kernel_rfl
set_option maxRecDepth 100000 in
set_option maxHeartbeats 2000000 in
theorem lifted (os : Os) (started : os.Started) (H : Type) (enc : TypeId × Value → H) :
    ReturnsInHanded {} Try.checked os 8 .any (Rows.cartridgeCountsSpec.pre6 enc Try.prog Try.f8 Rows.cartridgeCountsRow.domain false) (Rows.cartridgeCountsSpec.post enc Try.prog Try.f8 false true false false) := by
  refine returnsInHanded_of_change_sized (C := Try.checked) own started (by kernel_rfl) Try.func8
    (ChangeSpec.witness6 (enc := enc) (C := Try.checked) false ⟨#[], #[.agg #[.string ByteArray.empty, .int .i64 0, .int .i64 0, .int .i64 0, .int .i64 0, .int .i64 0, .int .i64 0, .bool false, .bool false, .slice none 0 0, .int .i64 0, .int .i64 0, .int .i64 0], .int .i64 0, .int .i64 0], []⟩ 8 (by kernel_rfl) (by kernel_rfl) (by kernel_rfl) (by kernel_rfl)) ?_
  intro W base args ds gs before hval0 hW hcnd hsz0 _
  have hval : ∀ (j : Nat) t v, Try.f8.params[j]? = some t → args[j]? = some v → Value.okWide Try.prog W .any base t v := hval0
  have hW' := hW
  obtain ⟨p, q, hA0, hV, rfl, hfz, hnd⟩ := hW
  have hA : DataW.TrodAll enc Try.prog W 0 (fun _ => true) true Try.f8.params.toList args.toList ds p := hA0
  rw [Try.params8] at hA hval
  obtain ⟨v0, vs0, d0, ds0, p0, q0, hargs, rfl, rfl, h0, r0⟩ := trodAll_cons hA
  obtain ⟨v1, vs1, d1, ds1, p1, q1, rfl, rfl, rfl, h1, r1⟩ := trodAll_cons r0
  obtain ⟨v2, vs2, d2, ds2, p2, q2, rfl, rfl, rfl, h2, r2⟩ := trodAll_cons r1
  obtain ⟨rfl, rfl, rfl⟩ := trodAll_nil r2
  obtain rfl : args = #[v0, v1, v2] := by cases args; simp_all
  obtain ⟨rfl, rfl⟩ := trodVars_none hV
  have k0 := h0
  have lt0 : ∀ x ∈ p0, x.block < W.heap.size := by obtain ⟨m, hm⟩ := k0; exact DataW.trod_lt m _ _ _ hm
  obtain ⟨a0, hK0, hok0⟩ : ∃ a : T kCartridge, RC W (fun b => b < W.heap.size) kCartridge a v0.cells.toList ∧ OkT kCartridge a := by obtain ⟨m, hm⟩ := h0; exact opens26 H enc W 0 _ true m _ _ hm
  obtain ⟨cs0, rfl, _⟩ := okWide_struct Try.underlying26 (hval 0 26 v0 rfl rfl)
  have hv0 := VR_agg (k := kCartridge) rfl hK0
  have k1 := h1
  have lt1 : ∀ x ∈ p1, x.block < W.heap.size := by obtain ⟨m, hm⟩ := k1; exact DataW.trod_lt m _ _ _ hm
  obtain ⟨a1, hK1, hok1⟩ : ∃ a : T (.int .i64), RC W (fun b => b < W.heap.size) (.int .i64) a v1.cells.toList ∧ OkT (.int .i64) a := by obtain ⟨m, hm⟩ := h1; exact (opens_int Try.underlying3) H enc W 0 _ true m _ _ hm
  obtain ⟨n1, rfl⟩ := okWide_int Try.underlying3 (hval 1 3 v1 rfl rfl)
  have hv1 := VR_one (k := (.int .i64)) rfl rfl hK1
  have k2 := h2
  have lt2 : ∀ x ∈ p2, x.block < W.heap.size := by obtain ⟨m, hm⟩ := k2; exact DataW.trod_lt m _ _ _ hm
  obtain ⟨a2, hK2, hok2⟩ : ∃ a : T (.int .i64), RC W (fun b => b < W.heap.size) (.int .i64) a v2.cells.toList ∧ OkT (.int .i64) a := by obtain ⟨m, hm⟩ := h2; exact (opens_int Try.underlying3) H enc W 0 _ true m _ _ hm
  obtain ⟨n2, rfl⟩ := okWide_int Try.underlying3 (hval 2 3 v2 rfl rfl)
  have hv2 := VR_one (k := (.int .i64)) rfl rfl hK2
  clear hA0 hval0 hsz0
  obtain ⟨d, hd⟩ := pure_CartridgeCounts a0 a1 a2 hok0 hok1 hok2
  refine ((tapearchivelaw10_CartridgeCounts_ok d).callsPure (a0, a1, a2) true hd W (fun b => b < W.heap.size) _ (fun b h => h) ⟨_, _, rfl, hv0, ⟨_, _, rfl, hv1, ⟨_, _, rfl, hv2, ⟨rfl, rfl⟩⟩⟩⟩).mono fun e W' he => ?_
  obtain ⟨v, rfl, bel, hrr⟩ := he
  have bel : Below W.heap.size W W' := bel
  obtain rfl := res_bool (b := true) hrr
  exact ⟨_, rfl, _, _, _, [], _, [], hW', trodAll_mk1 (shut_bool Try.underlying4 _), (trodAll_cons_mk (Below.trod laidOut (by kernel_rfl) (of_decide_eq_true (by kernel_rfl)) k0 bel lt0) (trodAll_cons_mk (Below.trod laidOut (by kernel_rfl) (of_decide_eq_true (by kernel_rfl)) k1 bel lt1) (trodAll_cons_mk (Below.trod laidOut (by kernel_rfl) (of_decide_eq_true (by kernel_rfl)) k2 bel lt2) trodAll_mk0))), rfl, bel.frame _, fun h => by cases h⟩
theorem over : Rows.cartridgeCountsRow.holds Try.pinned (OpenSpec.ofChange Rows.cartridgeCountsSpec) :=
  OpenClaim.holds_of_wide 8 Try.f8 rfl rfl rfl rfl rfl rfl rfl ⟨rfl, rfl, rfl, rfl, rfl⟩ rfl rfl rfl rfl rfl (by kernel_rfl) Try.func8 (by kernel_rfl)
    (of_decide_eq_true (by kernel_rfl)) (by unfold Func.isWrapper; first | (rw [if_pos (by decide +kernel)]; kernel_rfl) | (rw [if_neg (by decide +kernel)]; exact ⟨rfl, rfl⟩))
    (fun os started H enc _ => lifted os started H enc)
end Go.Proofs.Ytiaafpihoikeeaa.cartridgeCountsRow
namespace Go.Proofs.Ytiaafpihoikeeaa
/-- The row, under a short name, for the claim. -/
theorem cartridgeCounts_holds : Rows.CartridgeCountsSaid := cartridgeCountsRow.over
end Go.Proofs.Ytiaafpihoikeeaa
