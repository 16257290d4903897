/- What functions of layer 11 compute: the reference's validity, equality, copies. -/
import Derived.Test.YtlkjklacanedoaaDenP11e
namespace Go.Proofs.Ytlkjklacanedoaa.Den.G11
open Go.Proofs.Ytlkjklacanedoaa.Den Go
set_option linter.unusedVariables false
set_option linter.unusedSectionVars false
set_option linter.unusedSimpArgs false
variable {D : Nat} [hBig : Big D]
theorem rValid_l0 (d : Nat) (c : Cart) (hy : (c.2.2.2.2.1.length : Int) ≤ 9223372036854775806) : ∀ (m k : Nat) (i : Int), 0 ≤ i → i + m = c.2.2.2.2.1.length → m < k →
    tapearchiveref10_Valid_l0 d k i c = some (if (c.2.2.2.2.1.drop i.toNat).all okBlk = true then .inl c else .inr false) := by
  intro m
  induction m with
  | zero =>
    intro k i h0 h1 hk
    obtain ⟨k, rfl⟩ : ∃ j, k = j + 1 := ⟨k - 1, by omega⟩
    rw [List.drop_of_length_le (by omega)]
    simp only [tapearchiveref10_Valid_l0, decide_eq_true_eq]
    rw [if_neg (by omega)]
    rfl
  | succ m ih =>
    intro k i h0 h1 hk
    obtain ⟨k, rfl⟩ : ∃ j, k = j + 1 := ⟨k - 1, by omega⟩
    have ih := ih k (i + 1) (by omega) (by omega) (by omega)
    rw [drop_getD zBlock h0 (by omega), List.all_cons]
    simp only [tapearchiveref10_Valid_l0, rblock_eq, Option.bind_some, decide_eq_true_eq]
    rw [if_pos (by omega), if_pos (by omega), w64 (by omega) (by omega), ih]
    cases okBlk (c.2.2.2.2.1.getD i.toNat zBlock) <;> rfl
theorem rvalid_eq {c : Cart} (h1 : c.2.2.2.2.1.length ≤ 9000) (h2 : c.1.size < D ∧ c.1.size ≤ 9223372036854775807) : tapearchiveref10_Valid D c = some (okCart c) := by
  have hD := hBig.h
  have hl := rValid_l0 D c (by omega) c.2.2.2.2.1.length D 0 (by omega) (by omega) (by omega)
  rw [Int.toNat_zero, List.drop_zero] at hl
  unfold tapearchiveref10_Valid
  simp only [rbar_eq h2, rGeo_eq, rcap_eq, Option.bind_some, okCart, decide_eq_true_eq]
  cases okBar c.1
  · rfl
  · cases hg : okG c.2.1
    · rfl
    · simp only [Bool.not_true, Bool.false_eq_true, if_false, if_true, Bool.true_and]
      by_cases hc : (c.2.2.2.2.1.length : Int) ≤ c.2.1.1 * c.2.1.2.1
      · rw [if_neg (by omega), decide_eq_true hc]
        simp only [Option.bind_some, hl]
        cases c.2.2.2.2.1.all okBlk
        · cases okCnt c.2.2.2.2.2.1 <;> cases okCnt c.2.2.2.2.2.2.1 <;> cases okCnt c.2.2.2.2.2.2.2 <;> rfl
        · simp only [if_true, rcount_eq, Option.bind_some]
          cases okCnt c.2.2.2.2.2.1 <;> cases okCnt c.2.2.2.2.2.2.1 <;> cases okCnt c.2.2.2.2.2.2.2 <;> rfl
      · rw [if_pos (by omega), decide_eq_false hc]
        rfl
theorem same_l0 (d : Nat) (l : List Blk) (hy : (l.length : Int) ≤ 9223372036854775806) : ∀ (m k : Nat) (i : Int), 0 ≤ i → i + m = l.length → m < k → tapearchiveref11_SameBlocks_l0 d k l l i = some (.inl ()) := by
  intro m
  induction m with
  | zero =>
    intro k i h0 h1 hk
    obtain ⟨k, rfl⟩ : ∃ j, k = j + 1 := ⟨k - 1, by omega⟩
    simp only [tapearchiveref11_SameBlocks_l0, decide_eq_true_eq]
    rw [if_neg (by omega)]
  | succ m ih =>
    intro k i h0 h1 hk
    obtain ⟨k, rfl⟩ : ∃ j, k = j + 1 := ⟨k - 1, by omega⟩
    have ih := ih k (i + 1) (by omega) (by omega) (by omega)
    have hb : (0 : Int) ≤ i ∧ i < (l.length : Int) := by omega
    simp only [tapearchiveref11_SameBlocks_l0, decide_eq_true_eq, if_pos hb, if_pos hb.2, decide_true, Bool.not_true, Bool.false_eq_true, if_false]
    rw [w64 (by omega) (by omega), ih]
theorem sameBlocks_refl {l : List Blk} (hl : l.length ≤ 9000) : tapearchiveref11_SameBlocks D l l = some true := by
  have hD := hBig.h
  unfold tapearchiveref11_SameBlocks
  rw [same_l0 D l (by omega) l.length D 0 (by omega) (by omega) (by omega)]
  simp
theorem same_refl (c : Cart) (h : c.2.2.2.2.1.length ≤ 9000) : tapearchiveref11_Same D c c = some true := by
  have hD := hBig.h
  unfold tapearchiveref11_Same
  rw [sameBlocks_refl h]
  simp
/-- Copies are what they are copies of. -/
theorem clone_eq {d : Nat} {xs : List Int} (h : xs.length ≤ 100000) : slices_Clone_byte d xs = some xs := by
  unfold slices_Clone_byte
  rw [if_pos (by simp only [decide_eq_true_eq]; omega)]
theorem copied_l0 (d : Nat) (l : List Blk) (hy : l.length ≤ 100000) (hd : ∀ b ∈ l, b.2.2.length ≤ 1000) : ∀ (m k : Nat) (i : Int) (h : List Blk), 0 ≤ i → i + m = l.length → m < k → h.length = l.length → h.take i.toNat = l.take i.toNat →
    cartridge_copied_l0 d k l l.length i h = some l := by
  intro m
  induction m with
  | zero =>
    intro k i h h0 h1 hk hl ht
    obtain ⟨k, rfl⟩ : ∃ j, k = j + 1 := ⟨k - 1, by omega⟩
    simp only [cartridge_copied_l0, decide_eq_true_eq]
    rw [if_neg (by omega)]
    rw [List.take_of_length_le (by omega), List.take_of_length_le (by omega)] at ht
    rw [ht]
  | succ m ih =>
    intro k i h h0 h1 hk hl ht
    obtain ⟨k, rfl⟩ : ∃ j, k = j + 1 := ⟨k - 1, by omega⟩
    have hlt : i.toNat < l.length := by omega
    have hm : l.getD i.toNat zBlock ∈ l := mem_getD h0 (by omega)
    have hb : (0 : Int) ≤ i ∧ i < (l.length : Int) := by omega
    have hb2 : (0 : Int) ≤ i ∧ i < (h.length : Int) := by omega
    simp only [cartridge_copied_l0, decide_eq_true_eq, if_pos hb, if_pos hb.2, if_pos hb2, clone_eq (d := d) (show (l.getD i.toNat zBlock).2.2.length ≤ 100000 by have := hd _ hm; omega), Option.bind_some]
    rw [w64 (by omega) (by omega)]
    refine ih k (i + 1) _ (by omega) (by omega) (by omega) (by simpa using hl) ?_
    rw [show (i + 1).toNat = i.toNat + 1 by omega, List.take_add_one, List.take_add_one, List.take_set_of_le (Nat.le_refl _), ht, List.getElem?_set_self (by omega), List.getElem?_eq_getElem hlt, getD_get hlt]
theorem copied_eq {l : List Blk} (hy : l.length ≤ 9000) (hd : ∀ b ∈ l, b.2.2.length ≤ 1000) : cartridge_copied D l = some l := by
  have hD := hBig.h
  unfold cartridge_copied
  have h := copied_l0 D l (by omega) hd l.length D 0 (List.replicate (l.length : Int).toNat (false, false, [])) (by omega) (by omega) (by omega) (by simp) (by simp)
  rw [if_pos (by simp only [decide_eq_true_eq]; omega), h]
  simp only [Option.bind_some]
  rw [if_pos (by simp only [decide_eq_true_eq]; omega), if_pos (by simp)]
theorem rcopied_l0 (d : Nat) (l : List Blk) (hy : l.length ≤ 100000) (hd : ∀ b ∈ l, b.2.2.length ≤ 1000) : ∀ (m k : Nat) (i : Int), 0 ≤ i → i + m = l.length → m < k →
    tapearchiveref10_Copied_l0 d k l i (l.take i.toNat) = some l := by
  intro m
  induction m with
  | zero =>
    intro k i h0 h1 hk
    obtain ⟨k, rfl⟩ : ∃ j, k = j + 1 := ⟨k - 1, by omega⟩
    simp only [tapearchiveref10_Copied_l0, decide_eq_true_eq]
    rw [if_neg (by omega), List.take_of_length_le (by omega)]
  | succ m ih =>
    intro k i h0 h1 hk
    obtain ⟨k, rfl⟩ : ∃ j, k = j + 1 := ⟨k - 1, by omega⟩
    have hlt : i.toNat < l.length := by omega
    have hm : l.getD i.toNat zBlock ∈ l := mem_getD h0 (by omega)
    have hdb := hd _ hm
    have ih := ih k (i + 1) (by omega) (by omega) (by omega)
    rw [show (i + 1).toNat = i.toNat + 1 by omega, List.take_add_one, List.getElem?_eq_getElem hlt, ← getD_get (z := zBlock) hlt] at ih
    have hb : (0 : Int) ≤ i ∧ i < (l.length : Int) := by omega
    simp only [tapearchiveref10_Copied_l0, decide_eq_true_eq, if_pos hb, if_pos hb.2]
    rw [if_pos (by omega), if_pos (by simp only [List.length_take, List.length_singleton]; omega), w64 (by omega) (by omega), List.nil_append]
    exact ih
theorem rcopied_eq {l : List Blk} (hy : l.length ≤ 9000) (hd : ∀ b ∈ l, b.2.2.length ≤ 1000) : tapearchiveref10_Copied D l = some l := by
  have hD := hBig.h
  unfold tapearchiveref10_Copied
  have h := rcopied_l0 D l (by omega) hd l.length D 0 (by omega) (by omega) (by omega)
  rw [Int.toNat_zero, List.take_zero] at h
  rw [h]; rfl
theorem Lt.len {l : List Blk} (h : Lt l) : l.length ≤ 9000 := by have := h.1; omega
theorem Lt.data {l : List Blk} (h : Lt l) : ∀ b ∈ l, b.2.2.length ≤ 1000 := fun b hb => by have := h.2 b hb; omega
end Go.Proofs.Ytlkjklacanedoaa.Den.G11
