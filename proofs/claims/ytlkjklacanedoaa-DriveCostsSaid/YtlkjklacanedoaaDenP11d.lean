/- What functions of layer 11 compute: valid cartridges. -/
import Derived.Test.YtlkjklacanedoaaDenP11c
namespace Go.Proofs.Ytlkjklacanedoaa.Den.G11
open Go.Proofs.Ytlkjklacanedoaa.Den Go
set_option linter.unusedVariables false
set_option linter.unusedSectionVars false
set_option linter.unusedSimpArgs false
variable {D : Nat} [hBig : Big D]
abbrev Blk := Bool × Bool × List Int
/-- A valid block. -/
def okBlk (b : Blk) : Bool := if b.1 = true then decide ((b.2.2.length : Int) = 0) else decide (1 ≤ (b.2.2.length : Int) ∧ (b.2.2.length : Int) ≤ 64)
theorem block_eq (d : Nat) (b : Blk) : cartridge_block d b = some (okBlk b) := by
  simp only [cartridge_block, okBlk, decide_eq_true_eq]
  split
  · rfl
  · split
    · congr 1; rw [decide_eq_decide]; omega
    · rw [decide_eq_false (by omega)]
theorem rblock_eq (d : Nat) (b : Blk) : tapearchiveref10_block d b = some (okBlk b) := block_eq d b
/-- A counter. -/
def okCnt (x : Int) : Bool := decide (0 ≤ x ∧ x ≤ 1125899906842624)
theorem counter_eq (d : Nat) (x : Int) : cartridge_counter d x = some (okCnt x) := by
  simp only [cartridge_counter, okCnt, decide_eq_true_eq]
  split
  · congr 1; rw [decide_eq_decide]; omega
  · rw [decide_eq_false (by omega)]
theorem rcount_eq (d : Nat) (x : Int) : tapearchiveref10_count d x = some (okCnt x) := counter_eq d x
/-- The first place from which on something holds, or -1. -/
def fstI (p : Blk → Bool) : List Blk → Int → Int
  | [], _ => -1
  | b :: l, i => if p b = true then i else fstI p l (i + 1)
theorem fstI_any (p : Blk → Bool) : ∀ (l : List Blk) (i : Int), 0 ≤ i → decide (fstI p l i ≥ 0) = l.any p
  | [], _, _ => rfl
  | b :: l, i, h => by
    unfold fstI
    rw [List.any_cons]
    by_cases c : p b = true
    · rw [if_pos c, c, decide_eq_true (by omega)]; rfl
    · rw [if_neg c, fstI_any p l (i + 1) (by omega), Bool.eq_false_iff.2 c]; rfl
/-- What the loop of IndexFunc comes to. -/
def idxR (n : Int) : Unit ⊕ Int := if n = -1 then .inl () else .inr n
/-- A block that must not be written. -/
def unfit (b : Blk) : Bool := b.2.1 || !okBlk b
theorem unfit_eq (d : Nat) (b : Blk) : cartridge_writable_1 d b = some (unfit b) := by
  simp only [cartridge_writable_1, block_eq, unfit, Option.bind_some]
  cases b.2.1 <;> simp
theorem wrong_eq (d : Nat) (b : Blk) : cartridge_Valid_1 d b = some (!okBlk b) := by
  simp only [cartridge_Valid_1, block_eq, Option.bind_some]
theorem bad_eq (d : Nat) (b : Blk) : cartridge_Read_1 d b = some b.2.1 := rfl
theorem idxV_l0 (d : Nat) (l : List Blk) (hy : (l.length : Int) ≤ 9223372036854775806) : ∀ (m k : Nat) (i : Int), 0 ≤ i → i + m = l.length → m < k →
    slices_IndexFunc_api_Block_cartridge_Valid_1_l0 d k l l.length i = some (idxR (fstI (fun b => !okBlk b) (l.drop i.toNat) i)) := by
  intro m
  induction m with
  | zero =>
    intro k i h0 h1 hk
    obtain ⟨k, rfl⟩ : ∃ j, k = j + 1 := ⟨k - 1, by omega⟩
    rw [List.drop_of_length_le (by omega)]
    simp only [slices_IndexFunc_api_Block_cartridge_Valid_1_l0, decide_eq_true_eq]
    rw [if_neg (by omega)]
    rfl
  | succ m ih =>
    intro k i h0 h1 hk
    obtain ⟨k, rfl⟩ : ∃ j, k = j + 1 := ⟨k - 1, by omega⟩
    have ih := ih k (i + 1) (by omega) (by omega) (by omega)
    rw [drop_getD zBlock h0 (by omega)]
    simp only [slices_IndexFunc_api_Block_cartridge_Valid_1_l0, wrong_eq, Option.bind_some, decide_eq_true_eq, fstI]
    rw [if_pos (by omega), if_pos (by omega), w64 (by omega) (by omega), ih]
    split
    · unfold idxR; rw [if_neg (by omega)]
    · rfl
theorem idxV_eq {d : Nat} (l : List Blk) (hy : (l.length : Int) ≤ 9223372036854775806) (hd : l.length < d) : slices_IndexFunc_api_Block_cartridge_Valid_1 d l = some (fstI (fun b => !okBlk b) l 0) := by
  have h := idxV_l0 d l hy l.length d 0 (by omega) (by omega) hd
  rw [Int.toNat_zero, List.drop_zero] at h
  unfold slices_IndexFunc_api_Block_cartridge_Valid_1
  rw [h]
  unfold idxR
  by_cases e : fstI (fun b => !okBlk b) l 0 = -1
  · rw [if_pos e, e]; rfl
  · rw [if_neg e]; rfl
theorem anyV_eq {d : Nat} (l : List Blk) (hy : (l.length : Int) ≤ 9223372036854775806) (hd : l.length < d) : slices_ContainsFunc_api_Block_cartridge_Valid_1 d l = some (l.any (fun b => !okBlk b)) := by
  unfold slices_ContainsFunc_api_Block_cartridge_Valid_1
  rw [idxV_eq l hy hd]
  simp only [Option.bind_some]
  rw [fstI_any _ _ _ (by omega)]
theorem idxU_l0 (d : Nat) (l : List Blk) (hy : (l.length : Int) ≤ 9223372036854775806) : ∀ (m k : Nat) (i : Int), 0 ≤ i → i + m = l.length → m < k →
    slices_IndexFunc_api_Block_cartridge_writable_1_l0 d k l l.length i = some (idxR (fstI unfit (l.drop i.toNat) i)) := by
  intro m
  induction m with
  | zero =>
    intro k i h0 h1 hk
    obtain ⟨k, rfl⟩ : ∃ j, k = j + 1 := ⟨k - 1, by omega⟩
    rw [List.drop_of_length_le (by omega)]
    simp only [slices_IndexFunc_api_Block_cartridge_writable_1_l0, decide_eq_true_eq]
    rw [if_neg (by omega)]
    rfl
  | succ m ih =>
    intro k i h0 h1 hk
    obtain ⟨k, rfl⟩ : ∃ j, k = j + 1 := ⟨k - 1, by omega⟩
    have ih := ih k (i + 1) (by omega) (by omega) (by omega)
    rw [drop_getD zBlock h0 (by omega)]
    simp only [slices_IndexFunc_api_Block_cartridge_writable_1_l0, unfit_eq, Option.bind_some, decide_eq_true_eq, fstI]
    rw [if_pos (by omega), if_pos (by omega), w64 (by omega) (by omega), ih]
    split
    · unfold idxR; rw [if_neg (by omega)]
    · rfl
theorem idxU_eq {d : Nat} (l : List Blk) (hy : (l.length : Int) ≤ 9223372036854775806) (hd : l.length < d) : slices_IndexFunc_api_Block_cartridge_writable_1 d l = some (fstI unfit l 0) := by
  have h := idxU_l0 d l hy l.length d 0 (by omega) (by omega) hd
  rw [Int.toNat_zero, List.drop_zero] at h
  unfold slices_IndexFunc_api_Block_cartridge_writable_1
  rw [h]
  unfold idxR
  by_cases e : fstI unfit l 0 = -1
  · rw [if_pos e, e]; rfl
  · rw [if_neg e]; rfl
theorem anyU_eq {d : Nat} (l : List Blk) (hy : (l.length : Int) ≤ 9223372036854775806) (hd : l.length < d) : slices_ContainsFunc_api_Block_cartridge_writable_1 d l = some (l.any unfit) := by
  unfold slices_ContainsFunc_api_Block_cartridge_writable_1
  rw [idxU_eq l hy hd]
  simp only [Option.bind_some]
  rw [fstI_any _ _ _ (by omega)]
theorem idxR_l0 (d : Nat) (l : List Blk) (hy : (l.length : Int) ≤ 9223372036854775806) : ∀ (m k : Nat) (i : Int), 0 ≤ i → i + m = l.length → m < k →
    slices_IndexFunc_api_Block_cartridge_Read_1_l0 d k l l.length i = some (idxR (fstI (fun b => b.2.1) (l.drop i.toNat) i)) := by
  intro m
  induction m with
  | zero =>
    intro k i h0 h1 hk
    obtain ⟨k, rfl⟩ : ∃ j, k = j + 1 := ⟨k - 1, by omega⟩
    rw [List.drop_of_length_le (by omega)]
    simp only [slices_IndexFunc_api_Block_cartridge_Read_1_l0, decide_eq_true_eq]
    rw [if_neg (by omega)]
    rfl
  | succ m ih =>
    intro k i h0 h1 hk
    obtain ⟨k, rfl⟩ : ∃ j, k = j + 1 := ⟨k - 1, by omega⟩
    have ih := ih k (i + 1) (by omega) (by omega) (by omega)
    rw [drop_getD zBlock h0 (by omega)]
    simp only [slices_IndexFunc_api_Block_cartridge_Read_1_l0, bad_eq, Option.bind_some, decide_eq_true_eq, fstI]
    rw [if_pos (by omega), if_pos (by omega), w64 (by omega) (by omega), ih]
    split
    · unfold idxR; rw [if_neg (by omega)]
    · rfl
theorem idxR_eq {d : Nat} (l : List Blk) (hy : (l.length : Int) ≤ 9223372036854775806) (hd : l.length < d) : slices_IndexFunc_api_Block_cartridge_Read_1 d l = some (fstI (fun b => b.2.1) l 0) := by
  have h := idxR_l0 d l hy l.length d 0 (by omega) (by omega) hd
  rw [Int.toNat_zero, List.drop_zero] at h
  unfold slices_IndexFunc_api_Block_cartridge_Read_1
  rw [h]
  unfold idxR
  by_cases e : fstI (fun b => b.2.1) l 0 = -1
  · rw [if_pos e, e]; rfl
  · rw [if_neg e]; rfl
end Go.Proofs.Ytlkjklacanedoaa.Den.G11
