/- The law tapearchive/tapearchivelaw02.CodecPrefixes of the given program: called with any arguments that read as data it returns true, and each argument reads afterwards as it read before. Nothing is assumed beyond what the row says. -/
import Derived.Test.YtdgolbknbohoeaaRows
import Derived.Test.YtdgolbknbohoeaaPx14
import Derived.Test.YtdgolbknbohoeaaOpenP
import Derived.Test.YtdgolbknbohoeaaPureCodecPrefixes
import Derived.WalkKit
import Derived.ProofKit
import Derived.OpenShut
import Derived.ShutString
import Derived.ChangeOld
import Derived.Below
import Derived.SizedLaws
import Derived.Carry
namespace Go.Proofs.Ytdgolbknbohoeaa.codecPrefixesRow
open Go.ChangeShapes Go.WideShapes Go.ChangeAt Go.RowKit
open Go.Proofs.YtdgolbknbohoeaaW.PrintWords Go.Proofs.YtdgolbknbohoeaaW.OpenKd Go.Proofs.Ytdgolbknbohoeaa.P
set_option linter.unusedVariables false
set_option linter.unusedSimpArgs false
theorem own : ownKnob Try.prog.godebug = none := by kernel_rfl
theorem laidOut : laidOutB Try.prog = true := by kernel_rfl
set_option maxRecDepth 100000 in
set_option maxHeartbeats 2000000 in
theorem lifted (os : Os) (started : os.Started) (H : Type) (enc : TypeId × Value → H) :
    ReturnsInHanded {} Try.checked os 8 .any (Rows.codecPrefixesSpec.pre6 enc Try.prog Try.f8 Rows.codecPrefixesRow.domain false) (Rows.codecPrefixesSpec.post enc Try.prog Try.f8 false true false false) := by
  refine returnsInHanded_of_change_sized (C := Try.checked) own started (by kernel_rfl) Try.func8
    (ChangeSpec.witness6 (enc := enc) (C := Try.checked) false ⟨#[], #[.agg #[.int .i64 0, .int .u64 0, .int .i64 0, .string ByteArray.empty, .bool false], .int .i64 0], []⟩ 8 (by kernel_rfl) (by kernel_rfl) (by kernel_rfl) (by kernel_rfl)) ?_
  intro W base args ds gs before hval0 hW hcnd hsz0 _
  have hval : ∀ (j : Nat) t v, Try.f8.params[j]? = some t → args[j]? = some v → Value.okWide Try.prog W .any base t v := hval0
  have hW' := hW
  obtain ⟨p, q, hA0, hV, rfl, hfz, hnd⟩ := hW
  have hA : DataW.TrodAll enc Try.prog W 0 (fun _ => true) true Try.f8.params.toList args.toList ds p := hA0
  rw [Try.params8] at hA hval
  obtain ⟨v0, vs0, d0, ds0, p0, q0, hargs, rfl, rfl, h0, r0⟩ := trodAll_cons hA
  obtain ⟨v1, vs1, d1, ds1, p1, q1, rfl, rfl, rfl, h1, r1⟩ := trodAll_cons r0
  obtain ⟨rfl, rfl, rfl⟩ := trodAll_nil r1
  obtain rfl : args = #[v0, v1] := by cases args; simp_all
  obtain ⟨rfl, rfl⟩ := trodVars_none hV
  have k0 := h0
  have lt0 : ∀ x ∈ p0, x.block < W.heap.size := by obtain ⟨m, hm⟩ := k0; exact DataW.trod_lt m _ _ _ hm
  obtain ⟨a0, hK0, hok0⟩ : ∃ a, (k29).K W a v0.cells.toList ∧ (Ok29) a := by obtain ⟨m, hm⟩ := h0; exact opens29 H enc W 0 _ true m _ _ hm
  obtain ⟨cs0, rfl, _⟩ := okWide_struct Try.underlying29 (hval 0 29 v0 rfl rfl)
  have e0 := k29_open hK0
  obtain rfl : cs0 = #[.int .i64 a0.f0, .int .u64 a0.f1, .int .i64 a0.f2, .string a0.f3, .bool a0.f4] := by cases cs0; simp only [Value.cells] at e0; simpa using e0
  have k1 := h1
  have lt1 : ∀ x ∈ p1, x.block < W.heap.size := by obtain ⟨m, hm⟩ := k1; exact DataW.trod_lt m _ _ _ hm
  obtain ⟨a1, hK1, hok1⟩ : ∃ a, ((Kd.int .i64)).K W a v1.cells.toList ∧ ((OkInt .i64)) a := by obtain ⟨m, hm⟩ := h1; exact (opens_int' Try.underlying3) H enc W 0 _ true m _ _ hm
  obtain ⟨n1, rfl⟩ := okWide_int Try.underlying3 (hval 1 3 v1 rfl rfl)
  obtain rfl : n1 = a1 := by have hK_ : [_] = [_] := hK1; simpa [Value.cells] using hK_
  clear hA0 hval0 hsz0
  obtain ⟨k, hk⟩ := pure_CodecPrefixes a0 n1 hok0 hok1
  refine (tapearchivelaw02_CodecPrefixes.calls k a0.f0 a0.f1 a0.f2 a0.f3 a0.f4 n1 true W  hk).mono fun e W' ⟨he, bel_⟩ => ?_
  have bel : Below W.heap.size W W' := bel_
  subst he
  exact ⟨_, rfl, _, _, _, [], _, [], hW', trodAll_mk1 (shut_bool Try.underlying4 _), (trodAll_cons_mk (Below.trod laidOut (by kernel_rfl) (of_decide_eq_true (by kernel_rfl)) k0 bel lt0) (trodAll_cons_mk (Below.trod laidOut (by kernel_rfl) (of_decide_eq_true (by kernel_rfl)) k1 bel lt1) trodAll_mk0)), rfl, bel.frame _, fun h => by cases h⟩
theorem over : Rows.codecPrefixesRow.holds Try.pinned (OpenSpec.ofChange Rows.codecPrefixesSpec) :=
  OpenClaim.holds_of_wide 8 Try.f8 rfl rfl rfl rfl rfl rfl rfl ⟨rfl, rfl, rfl, rfl, rfl⟩ rfl rfl rfl rfl rfl (by kernel_rfl) Try.func8 (by kernel_rfl)
    (of_decide_eq_true (by kernel_rfl)) (by unfold Func.isWrapper; first | (rw [if_pos (by decide +kernel)]; kernel_rfl) | (rw [if_neg (by decide +kernel)]; exact ⟨rfl, rfl⟩))
    (fun os started H enc _ => lifted os started H enc)
end Go.Proofs.Ytdgolbknbohoeaa.codecPrefixesRow
namespace Go.Proofs.Ytdgolbknbohoeaa
/-- The row, under a short name, for the claim. -/
theorem codecPrefixes_holds : Rows.CodecPrefixesSaid := codecPrefixesRow.over
end Go.Proofs.Ytdgolbknbohoeaa
