/- What functions of layer 11 compute: barcodes. -/
import Derived.Test.YtlkjklacanedoaaDenPK
import Derived.Test.YtlkjklacanedoaaDenG11a
namespace Go.Proofs.Ytlkjklacanedoaa.Den.G11
open Go.Proofs.Ytlkjklacanedoaa.Den Go
set_option linter.unusedVariables false
set_option linter.unusedSectionVars false
set_option linter.unusedSimpArgs false
/-- Rounds enough for all but strings. -/
class Big (D : Nat) : Prop where
  h : 10000 ≤ D
variable {D : Nat} [hBig : Big D]
/-- A character of a barcode. -/
def okC (c : Int) : Bool := decide (65 ≤ c ∧ c ≤ 90 ∨ 48 ≤ c ∧ c ≤ 57)
/-- A barcode. -/
def okBar (s : ByteArray) : Bool := (bytesOf s).all okC && decide (1 ≤ (s.size : Int) ∧ (s.size : Int) ≤ 24)
theorem barcode_l0 (d : Nat) (s : ByteArray) (y : List Int) (hy : (y.length : Int) ≤ 9223372036854775807) : ∀ (m k : Nat) (i : Int), 0 ≤ i → i + m = y.length → m < k →
    cartridge_barcode_l0 d k s y y.length i = some (if (y.drop i.toNat).all okC = true then .inl s else .inr false) := by
  intro m
  induction m with
  | zero =>
    intro k i h0 h1 hk
    obtain ⟨k, rfl⟩ : ∃ j, k = j + 1 := ⟨k - 1, by omega⟩
    rw [List.drop_of_length_le (by omega)]
    simp only [cartridge_barcode_l0, decide_eq_true_eq]
    rw [if_neg (by omega)]
    rfl
  | succ m ih =>
    intro k i h0 h1 hk
    obtain ⟨k, rfl⟩ : ∃ j, k = j + 1 := ⟨k - 1, by omega⟩
    have ih := ih k (i + 1) (by omega) (by omega) (by omega)
    rw [drop_getD 0 h0 (by omega), List.all_cons]
    simp only [cartridge_barcode_l0, decide_eq_true_eq]
    rw [if_pos (by omega), if_pos (by omega), w64 (by omega) (by omega), ih]
    generalize y.getD i.toNat 0 = c
    by_cases o : okC c = true
    · have o' : 65 ≤ c ∧ c ≤ 90 ∨ 48 ≤ c ∧ c ≤ 57 := of_decide_eq_true o
      rw [o, Bool.true_and]
      repeat' split
      all_goals first | rfl | omega | simp_all
    · have o' : ¬ (65 ≤ c ∧ c ≤ 90 ∨ 48 ≤ c ∧ c ≤ 57) := fun z => o (decide_eq_true z)
      rw [Bool.eq_false_iff.2 o, Bool.false_and]
      repeat' split
      all_goals first | rfl | omega | simp_all
end Go.Proofs.Ytlkjklacanedoaa.Den.G11
