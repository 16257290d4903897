/- What functions of layer 11 compute: validity. -/
import Derived.Test.YtlkjklacanedoaaDenP11b
namespace Go.Proofs.Ytlkjklacanedoaa.Den.G11
open Go.Proofs.Ytlkjklacanedoaa.Den Go
set_option linter.unusedVariables false
set_option linter.unusedSectionVars false
set_option linter.unusedSimpArgs false
variable {D : Nat} [hBig : Big D]
theorem geo_eq {d : Nat} (hd : 5 ≤ d) (g : Int × Int × Int × Int × Int × Int) : serpentine_Valid d g = some (okG g) := by
  obtain ⟨a, b, c1, c2, c3, c4⟩ := g
  have ht : serpentine_timed d [c1, c2, c3, c4] = some ([c1, c2, c3, c4].all okTm) := by
    have h := timed_l0 d [c1, c2, c3, c4] (by simp) 4 d 0 (by omega) (by simp) (by omega)
    unfold serpentine_timed
    rw [h]
    simp only [Int.toNat_zero, List.drop_zero]
    cases [c1, c2, c3, c4].all okTm <;> rfl
  simp only [serpentine_Valid, decide_eq_true_eq, okG]
  by_cases h : 1 ≤ a ∧ a ≤ 32 ∧ 1 ≤ b
  · obtain ⟨h1, h2, h3⟩ := h
    have e1 : Int.tdiv 4096 a = 4096 / a := Int.tdiv_eq_ediv_of_nonneg (by omega)
    have e2 : 0 ≤ 4096 / a := Int.ediv_nonneg (by omega) (by omega)
    have e3 : 4096 / a ≤ 4096 := Int.ediv_le_self _ (by omega)
    have e4 : 4096 / a < b ↔ 4096 < b * a := Int.ediv_lt_iff_lt_mul (by omega)
    rw [if_neg (by omega), if_neg (by omega), if_neg (by omega), if_neg (by omega), e1, w64 (by omega) (by omega)]
    rw [Int.mul_comm b a] at e4
    by_cases hp : a * b ≤ 4096
    · have hb : b ≤ 4096 := by
        have : 1 * b ≤ a * b := Int.mul_le_mul_of_nonneg_right h1 (by omega)
        omega
      rw [if_neg (by omega), decide_eq_true (by exact ⟨h1, h2, h3, hb, hp⟩)]
      simp only [Option.bind_some, Bool.true_and, ht]
    · rw [if_pos (by omega), decide_eq_false (by omega)]
      rfl
  · rw [decide_eq_false (by omega), Bool.false_and]
    have : ∀ (x : Option ((Int × Int × Int × Int × Int × Int) ⊕ Bool)) (f : (Int × Int × Int × Int × Int × Int) ⊕ Bool → Option Bool), x = some (.inr false) → x.bind f = f (.inr false) := fun x f hx => by rw [hx]; rfl
    rw [this _ _ (by repeat' split
                     all_goals first | rfl | omega)]
end Go.Proofs.Ytlkjklacanedoaa.Den.G11
