/- The law CartridgeWrites holds of the plain functions, for any cartridge, place and blocks. -/
import Derived.Test.YtiaafpihoikeeaaDenS26
import Derived.Test.YtiaafpihoikeeaaDenP10g
namespace Go.Proofs.Ytiaafpihoikeeaa.Den.G10
open Go.Proofs.Ytiaafpihoikeeaa.Den Go
set_option linter.unusedVariables false
theorem pure_CartridgeWrites : ∀ (a0 : ByteArray × (Int × Int × Int × Int × Int × Int) × Bool × Bool × (List (Bool × Bool × List Int)) × Int × Int × Int) (a1 : Int) (a2 : List (Bool × Bool × List Int)), OkT kCartridge a0 → OkT (.int .i64) a1 → OkT (.slice kBlock) a2 → ∃ d, tapearchivelaw10_CartridgeWrites d a0 a1 a2 = some true := by
  intro c at_ l _ _ _
  refine ⟨10000, ?_⟩
  unfold tapearchivelaw10_CartridgeWrites
  obtain ⟨b, hb, hlt⟩ := light_eq c
  obtain ⟨b2, hb2, hlt2⟩ := lightBlocks_eq l
  rw [hb]
  cases b with
  | false => simp only [Option.bind_some, awake_eq]; rfl
  | true =>
    rw [hb2]
    cases b2 with
    | false => simp only [Option.bind_some, awake_eq]; rfl
    | true =>
      obtain ⟨⟨h1, h3⟩, h2⟩ := hlt rfl
      obtain ⟨h4, h5⟩ := hlt2 rfl
      have hW := W_len (c := c) (at_ := at_) (l := l) (by show c.2.2.2.2.1.length ≤ 4000; omega) (by omega)
      simp only [Option.bind_some, Bool.not_true, Bool.false_eq_true, if_false, rcopied_eq (l := c.2.2.2.2.1) (by omega) (fun b hb => by have := h3 b hb; omega), write_eq (c := c) (by show c.2.2.2.2.1.length ≤ 9000; omega) (by omega) (show l.length ≤ 9000 by omega), rwrite_eq (c := c) (by show c.2.2.2.2.1.length ≤ 9000; omega) (by omega) (show l.length ≤ 9000 by omega), decide_true, if_true, same_refl (W c at_ l).1 (by omega), sameBlocks_refl (l := c.2.2.2.2.1) (by omega), awake_eq]
end Go.Proofs.Ytiaafpihoikeeaa.Den.G10
