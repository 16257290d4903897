/- The law DriveSteps holds of the plain functions, for any drive, cartridge and operation. -/
import Derived.Test.YtlkjklacanedoaaDenS26
import Derived.Test.YtlkjklacanedoaaDenP11x
set_option linter.unusedVariables false
namespace Go.Proofs.Ytlkjklacanedoaa.Den.G11
open Go.Proofs.Ytlkjklacanedoaa.Den Go
theorem pure_DriveSteps : ∀ (a0 : Int × Int × Int × Int × Int) (a1 : Int × ByteArray × Int × Int × Int × Int) (a2 : ByteArray × (Int × Int × Int × Int × Int × Int) × Bool × Bool × (List (Bool × Bool × List Int)) × Int × Int × Int) (a3 : Int × Int × Int × List (Bool × Bool × List Int)), OkT kDriveModel a0 → OkT kDrive a1 → OkT kCartridge a2 → OkT ktapearchivelaw11_Step a3 → ∃ d, tapearchivelaw11_DriveSteps d a0 a1 a2 a3 = some true := by
  intro m v c s _ _ hc hs
  have hsz : c.1.size ≤ maxLen := hc.1
  have hn := (ok64 (n := s.2.2.1) hs.2.2.1).2
  simp only [maxLen] at hsz
  haveI : Big (10000 + c.1.size) := ⟨by omega⟩
  refine ⟨10000 + c.1.size, ?_⟩
  unfold tapearchivelaw11_DriveSteps
  rw [lives_eq]
  simp only [Option.bind_some, Bool.not_true, Bool.false_eq_true, if_false]
  rcases few_eq (D := 10000 + c.1.size) [c] [s] 1 (by omega) with h | ⟨h, _, _, h3, h4⟩
  · rw [h]; rfl
  · rw [h]
    have hl := h3 c (by simp)
    have hls := h4 s (by simp)
    have hG : GI (10000 + c.1.size) c := GI_lt hl (by omega)
    have hop := op_GI (m := m) (v := v) hG hls
    have h1 : c.2.2.2.2.1.length ≤ 9000 := hl.len
    have h2 : s.2.2.2.length ≤ 4000 := by have := hls.1; omega
    simp only [Option.bind_some, Bool.not_true, Bool.false_eq_true, if_false]
    rw [copC_eq h1 hl.data]
    simp only [Option.bind_some]
    rw [program_eq h1 hG.2.2 hn h2]
    simp only [Option.bind_some]
    rw [document_eq h1 hG.2.2 hn h2]
    simp only [Option.bind_some, decide_true, Bool.and_self, if_true]
    rw [same_refl _ (by have := hop.1.1; omega)]
    simp only [Option.bind_some, if_true]
    rw [sameBlocks_refl (by have := hop.2; omega)]
    simp only [Option.bind_some, if_true, due_eq, rdue_eq, worn_eq, rworn_eq, decide_true]
end Go.Proofs.Ytlkjklacanedoaa.Den.G11
