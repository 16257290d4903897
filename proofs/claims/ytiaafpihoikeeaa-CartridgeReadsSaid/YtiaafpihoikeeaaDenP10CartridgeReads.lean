/- The law CartridgeReads holds of the plain functions, for any cartridge, span and number of marks. -/
import Derived.Test.YtiaafpihoikeeaaDenS26
import Derived.Test.YtiaafpihoikeeaaDenP10h
namespace Go.Proofs.Ytiaafpihoikeeaa.Den.G10
open Go.Proofs.Ytiaafpihoikeeaa.Den Go
set_option linter.unusedVariables false
theorem pure_CartridgeReads : ∀ (a0 : ByteArray × (Int × Int × Int × Int × Int × Int) × Bool × Bool × (List (Bool × Bool × List Int)) × Int × Int × Int) (a1 : Int × Int) (a2 : Int), OkT kCartridge a0 → OkT kSpan a1 → OkT (.int .i64) a2 → ∃ d, tapearchivelaw10_CartridgeReads d a0 a1 a2 = some true := by
  intro c s n _ _ hn
  have hn := (ok64 hn).2
  refine ⟨10000, ?_⟩
  unfold tapearchivelaw10_CartridgeReads
  obtain ⟨b, hb, hlt⟩ := light_eq c
  rw [hb]
  cases b with
  | false => simp only [Option.bind_some, awake_eq]; rfl
  | true =>
    obtain ⟨⟨h1, h3⟩, h2⟩ := hlt rfl
    have hR := (R_len c s).1
    simp only [Option.bind_some, Bool.not_true, Bool.false_eq_true, if_false, read_eq (c := c) (by omega) (by omega) s, rread_eq (c := c) (by omega) (by omega) s, marks_eq (c := c) (by omega) (by omega) s.1 n hn, rmarks_eq (c := c) (by omega) (by omega) s.1 n hn, decide_true, if_true, sameBlocks_refl (l := (R c s).1) (by omega), awake_eq]
end Go.Proofs.Ytiaafpihoikeeaa.Den.G10
