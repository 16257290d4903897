/- The law tapearchive/tapearchivelaw02.CodecPuts of the given program: called with any arguments that read as data it returns true, and each argument reads afterwards as it read before. Nothing is assumed beyond what the row says. -/
import Derived.Test.YtdgolbknbohoeaaRows
import Derived.Test.YtdgolbknbohoeaaPx7
import Derived.Test.YtdgolbknbohoeaaOpenP
import Derived.Test.YtdgolbknbohoeaaPureCodecPuts
import Derived.WalkKit
import Derived.ProofKit
import Derived.OpenShut
import Derived.ShutString
import Derived.ChangeOld
import Derived.Below
import Derived.SizedLaws
import Derived.Carry
namespace Go.Proofs.Ytdgolbknbohoeaa.codecPutsRow
open Go.ChangeShapes Go.WideShapes Go.ChangeAt Go.RowKit
open Go.Proofs.YtdgolbknbohoeaaW.PrintWords Go.Proofs.YtdgolbknbohoeaaW.OpenKd Go.Proofs.Ytdgolbknbohoeaa.P
set_option linter.unusedVariables false
set_option linter.unusedSimpArgs false
theorem own : ownKnob Try.prog.godebug = none := by kernel_rfl
theorem laidOut : laidOutB Try.prog = true := by kernel_rfl
set_option maxRecDepth 100000 in
set_option maxHeartbeats 2000000 in
theorem lifted (os : Os) (started : os.Started) (H : Type) (enc : TypeId × Value → H) :
    ReturnsInHanded {} Try.checked os 3 .any (Rows.codecPutsSpec.pre6 enc Try.prog Try.f3 Rows.codecPutsRow.domain false) (Rows.codecPutsSpec.post enc Try.prog Try.f3 false true false false) := by
  refine returnsInHanded_of_change_sized (C := Try.checked) own started (by kernel_rfl) Try.func3
    (ChangeSpec.witness6 (enc := enc) (C := Try.checked) false ⟨#[], #[.slice none 0 0, .slice none 0 0], []⟩ 8 (by kernel_rfl) (by kernel_rfl) (by kernel_rfl) (by kernel_rfl)) ?_
  intro W base args ds gs before hval0 hW hcnd hsz0 _
  have hval : ∀ (j : Nat) t v, Try.f3.params[j]? = some t → args[j]? = some v → Value.okWide Try.prog W .any base t v := hval0
  have hW' := hW
  obtain ⟨p, q, hA0, hV, rfl, hfz, hnd⟩ := hW
  have hA : DataW.TrodAll enc Try.prog W 0 (fun _ => true) true Try.f3.params.toList args.toList ds p := hA0
  rw [Try.params3] at hA hval
  obtain ⟨v0, vs0, d0, ds0, p0, q0, hargs, rfl, rfl, h0, r0⟩ := trodAll_cons hA
  obtain ⟨v1, vs1, d1, ds1, p1, q1, rfl, rfl, rfl, h1, r1⟩ := trodAll_cons r0
  obtain ⟨rfl, rfl, rfl⟩ := trodAll_nil r1
  obtain rfl : args = #[v0, v1] := by cases args; simp_all
  obtain ⟨rfl, rfl⟩ := trodVars_none hV
  have k0 := h0
  have lt0 : ∀ x ∈ p0, x.block < W.heap.size := by obtain ⟨m, hm⟩ := k0; exact DataW.trod_lt m _ _ _ hm
  obtain ⟨a0, hK0, hok0⟩ : ∃ a, ((Kd.slice 5 (Kd.int .u8))).K W a v0.cells.toList ∧ ((OkList (OkInt .u8))) a := by obtain ⟨m, hm⟩ := h0; exact (opens_slice Try.underlying22 (by kernel_rfl) (opens_int' Try.underlying5)) H enc W 0 _ true m _ _ hm
  obtain ⟨A0, len0, cap0, rfl⟩ := okWide_slice Try.underlying22 (hval 0 22 v0 rfl rfl)
  obtain ⟨A0', c0, hcs0, hc0, hr0⟩ := hK0
  obtain ⟨rfl, rfl, rfl⟩ : A0 = A0' ∧ len0 = a0.length ∧ cap0 = c0 := by simpa [Value.cells] using hcs0
  have k1 := h1
  have lt1 : ∀ x ∈ p1, x.block < W.heap.size := by obtain ⟨m, hm⟩ := k1; exact DataW.trod_lt m _ _ _ hm
  obtain ⟨a1, hK1, hok1⟩ : ∃ a, ((Kd.slice 29 k29)).K W a v1.cells.toList ∧ ((OkList Ok29)) a := by obtain ⟨m, hm⟩ := h1; exact (opens_slice Try.underlying23 (by kernel_rfl) opens29) H enc W 0 _ true m _ _ hm
  obtain ⟨A1, len1, cap1, rfl⟩ := okWide_slice Try.underlying23 (hval 1 23 v1 rfl rfl)
  obtain ⟨A1', c1, hcs1, hc1, hr1⟩ := hK1
  obtain ⟨rfl, rfl, rfl⟩ : A1 = A1' ∧ len1 = a1.length ∧ cap1 = c1 := by simpa [Value.cells] using hcs1
  clear hA0 hval0 hsz0
  obtain ⟨k, hk⟩ := pure_CodecPuts a0 a1 hok0 hok1
  refine (tapearchivelaw02_CodecPuts.calls k A0 cap0 a0 A1 cap1 a1 true W hr0 hc0 hr1 hc1 hk).mono fun e W' ⟨he, bel_⟩ => ?_
  have bel : Below W.heap.size W W' := bel_
  subst he
  exact ⟨_, rfl, _, _, _, [], _, [], hW', trodAll_mk1 (shut_bool Try.underlying4 _), (trodAll_cons_mk (Below.trod laidOut (by kernel_rfl) (of_decide_eq_true (by kernel_rfl)) k0 bel lt0) (trodAll_cons_mk (Below.trod laidOut (by kernel_rfl) (of_decide_eq_true (by kernel_rfl)) k1 bel lt1) trodAll_mk0)), rfl, bel.frame _, fun h => by cases h⟩
theorem over : Rows.codecPutsRow.holds Try.pinned (OpenSpec.ofChange Rows.codecPutsSpec) :=
  OpenClaim.holds_of_wide 3 Try.f3 rfl rfl rfl rfl rfl rfl rfl ⟨rfl, rfl, rfl, rfl, rfl⟩ rfl rfl rfl rfl rfl (by kernel_rfl) Try.func3 (by kernel_rfl)
    (of_decide_eq_true (by kernel_rfl)) (by unfold Func.isWrapper; first | (rw [if_pos (by decide +kernel)]; kernel_rfl) | (rw [if_neg (by decide +kernel)]; exact ⟨rfl, rfl⟩))
    (fun os started H enc _ => lifted os started H enc)
end Go.Proofs.Ytdgolbknbohoeaa.codecPutsRow
namespace Go.Proofs.Ytdgolbknbohoeaa
/-- The row, under a short name, for the claim. -/
theorem codecPuts_holds : Rows.CodecPutsSaid := codecPutsRow.over
end Go.Proofs.Ytdgolbknbohoeaa
