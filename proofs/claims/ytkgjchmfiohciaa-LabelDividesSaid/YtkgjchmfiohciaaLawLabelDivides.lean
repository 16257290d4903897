/- The law tapearchive/tapearchivelaw14.LabelDivides of the given program: called with any arguments that read as data it returns true, and each argument reads afterwards as it read before. Nothing is assumed beyond what the row says. -/
import Derived.Test.YtkgjchmfiohciaaRows
import Derived.Test.YtkgjchmfiohciaaDenG14o
import Derived.Test.YtkgjchmfiohciaaDenP14LabelDivides
import Derived.WalkKit
import Derived.ProofKit
import Derived.OpenShut
import Derived.ShutString
import Derived.ChangeOld
import Derived.Below
import Derived.SizedLaws
import Derived.Carry
namespace Go.Proofs.Ytkgjchmfiohciaa.labelDividesRow
open Go.ChangeShapes Go.WideShapes Go.ChangeAt Go.RowKit Go.Proofs.Ytkgjchmfiohciaa.Den Go.Proofs.Ytkgjchmfiohciaa.Den.G14
set_option linter.unusedVariables false
set_option linter.unusedSimpArgs false
theorem own : ownKnob Try.prog.godebug = none := by kernel_rfl
theorem laidOut : laidOutB Try.prog = true := by kernel_rfl
set_option maxRecDepth 100000 in
set_option maxHeartbeats 2000000 in
theorem lifted (os : Os) (started : os.Started) (H : Type) (enc : TypeId × Value → H) :
    ReturnsInHanded {} Try.checked os 7 .any (Rows.labelDividesSpec.pre6 enc Try.prog Try.f7 Rows.labelDividesRow.domain false) (Rows.labelDividesSpec.post enc Try.prog Try.f7 false true false false) := by
  refine returnsInHanded_of_change_sized (C := Try.checked) own started (by kernel_rfl) Try.func7
    (ChangeSpec.witness6 (enc := enc) (C := Try.checked) false ⟨#[], #[.slice none 0 0, .slice none 0 0], []⟩ 8 (by kernel_rfl) (by kernel_rfl) (by kernel_rfl) (by kernel_rfl)) ?_
  intro W base args ds gs before hval0 hW hcnd hsz0 _
  have hval : ∀ (j : Nat) t v, Try.f7.params[j]? = some t → args[j]? = some v → Value.okWide Try.prog W .any base t v := hval0
  have hW' := hW
  obtain ⟨p, q, hA0, hV, rfl, hfz, hnd⟩ := hW
  have hA : DataW.TrodAll enc Try.prog W 0 (fun _ => true) true Try.f7.params.toList args.toList ds p := hA0
  rw [Try.params7] at hA hval
  obtain ⟨v0, vs0, d0, ds0, p0, q0, hargs, rfl, rfl, h0, r0⟩ := trodAll_cons hA
  obtain ⟨v1, vs1, d1, ds1, p1, q1, rfl, rfl, rfl, h1, r1⟩ := trodAll_cons r0
  obtain ⟨rfl, rfl, rfl⟩ := trodAll_nil r1
  obtain rfl : args = #[v0, v1] := by cases args; simp_all
  obtain ⟨rfl, rfl⟩ := trodVars_none hV
  have k0 := h0
  have lt0 : ∀ x ∈ p0, x.block < W.heap.size := by obtain ⟨m, hm⟩ := k0; exact DataW.trod_lt m _ _ _ hm
  obtain ⟨a0, hK0, hok0⟩ : ∃ a : T (.slice (.int .u8)), RC W (fun b => b < W.heap.size) (.slice (.int .u8)) a v0.cells.toList ∧ OkT (.slice (.int .u8)) a := by obtain ⟨m, hm⟩ := h0; exact (opens_slice Try.underlying36 (by kernel_rfl) (opens_int Try.underlying5)) H enc W 0 _ true m _ _ hm
  obtain ⟨A0, len0, cap0, rfl⟩ := okWide_slice Try.underlying36 (hval 0 36 v0 rfl rfl)
  have hv0 := VR_one (k := (.slice (.int .u8))) rfl rfl hK0
  have k1 := h1
  have lt1 : ∀ x ∈ p1, x.block < W.heap.size := by obtain ⟨m, hm⟩ := k1; exact DataW.trod_lt m _ _ _ hm
  obtain ⟨a1, hK1, hok1⟩ : ∃ a : T (.slice kBlock), RC W (fun b => b < W.heap.size) (.slice kBlock) a v1.cells.toList ∧ OkT (.slice kBlock) a := by obtain ⟨m, hm⟩ := h1; exact (opens_slice Try.underlying25 (by kernel_rfl) opens39) H enc W 0 _ true m _ _ hm
  obtain ⟨A1, len1, cap1, rfl⟩ := okWide_slice Try.underlying25 (hval 1 25 v1 rfl rfl)
  have hv1 := VR_one (k := (.slice kBlock)) rfl rfl hK1
  clear hA0 hval0 hsz0
  obtain ⟨d, hd⟩ := pure_LabelDivides a0 a1 hok0 hok1
  refine ((tapearchivelaw14_LabelDivides_ok d).callsPure (a0, a1) true hd W (fun b => b < W.heap.size) _ (fun b h => h) ⟨_, _, rfl, hv0, ⟨_, _, rfl, hv1, ⟨rfl, rfl⟩⟩⟩).mono fun e W' he => ?_
  obtain ⟨v, rfl, bel, hrr⟩ := he
  have bel : Below W.heap.size W W' := bel
  obtain rfl := res_bool (b := true) hrr
  exact ⟨_, rfl, _, _, _, [], _, [], hW', trodAll_mk1 (shut_bool Try.underlying4 _), (trodAll_cons_mk (Below.trod laidOut (by kernel_rfl) (of_decide_eq_true (by kernel_rfl)) k0 bel lt0) (trodAll_cons_mk (Below.trod laidOut (by kernel_rfl) (of_decide_eq_true (by kernel_rfl)) k1 bel lt1) trodAll_mk0)), rfl, bel.frame _, fun h => by cases h⟩
theorem over : Rows.labelDividesRow.holds Try.pinned (OpenSpec.ofChange Rows.labelDividesSpec) :=
  OpenClaim.holds_of_wide 7 Try.f7 rfl rfl rfl rfl rfl rfl rfl ⟨rfl, rfl, rfl, rfl, rfl⟩ rfl rfl rfl rfl rfl (by kernel_rfl) Try.func7 (by kernel_rfl)
    (of_decide_eq_true (by kernel_rfl)) (by unfold Func.isWrapper; first | (rw [if_pos (by decide +kernel)]; kernel_rfl) | (rw [if_neg (by decide +kernel)]; exact ⟨rfl, rfl⟩))
    (fun os started H enc _ => lifted os started H enc)
end Go.Proofs.Ytkgjchmfiohciaa.labelDividesRow
namespace Go.Proofs.Ytkgjchmfiohciaa
/-- The row, under a short name, for the claim. -/
theorem labelDivides_holds : Rows.LabelDividesSaid := labelDividesRow.over
end Go.Proofs.Ytkgjchmfiohciaa
