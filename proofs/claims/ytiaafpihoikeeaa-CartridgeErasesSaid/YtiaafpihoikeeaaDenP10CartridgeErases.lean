/- The law CartridgeErases holds of the plain functions, for any cartridge and span. -/
import Derived.Test.YtiaafpihoikeeaaDenS26
import Derived.Test.YtiaafpihoikeeaaDenP10i
namespace Go.Proofs.Ytiaafpihoikeeaa.Den.G10
open Go.Proofs.Ytiaafpihoikeeaa.Den Go
set_option linter.unusedVariables false
theorem pure_CartridgeErases : ∀ (a0 : ByteArray × (Int × Int × Int × Int × Int × Int) × Bool × Bool × (List (Bool × Bool × List Int)) × Int × Int × Int) (a1 : Int × Int), OkT kCartridge a0 → OkT kSpan a1 → ∃ d, tapearchivelaw10_CartridgeErases d a0 a1 = some true := by
  intro c s _ hs
  have hs1 := ok64 (n := s.1) hs.1
  have hs2 := ok64 (n := s.2) hs.2
  refine ⟨10000, ?_⟩
  unfold tapearchivelaw10_CartridgeErases
  obtain ⟨b, hb, hlt⟩ := light_eq c
  rw [hb]
  cases b with
  | false => simp only [Option.bind_some, awake_eq]; rfl
  | true =>
    obtain ⟨⟨h1, h3⟩, h2⟩ := hlt rfl
    simp only [Option.bind_some, Bool.not_true, Bool.false_eq_true, if_false, erase_eq (c := c) (by omega) (by omega), rerase_eq (c := c) (by omega) (by omega), decide_true, if_true, same_refl (X c).1 (X_len c), damage_eq (c := c) (by omega) (by omega) s hs1.1 hs1.2 hs2.2, rdamage_eq (c := c) (by omega) (by omega) s hs1.1 hs1.2 hs2.2, same_refl (D c s) (D_len c s (by omega)), awake_eq]
end Go.Proofs.Ytiaafpihoikeeaa.Den.G10
