/- What functions of layer 11 compute: reading, seeking marks. -/
import Derived.Test.YtlkjklacanedoaaDenP11g
import Derived.Test.YtlkjklacanedoaaDenS26
namespace Go.Proofs.Ytlkjklacanedoaa.Den.G11
open Go.Proofs.Ytlkjklacanedoaa.Den Go
set_option linter.unusedVariables false
set_option linter.unusedSectionVars false
set_option linter.unusedSimpArgs false
variable {D : Nat} [hBig : Big D]
/-- Reading so many of these blocks, until one is bad. -/
def rd : List Blk → Nat → List Blk × Int
  | _, 0 => ([], 0)
  | [], _ + 1 => ([], 7)
  | b :: l, n + 1 => if b.2.1 = true then ([], 15) else (b :: (rd l n).1, (rd l n).2)
/-- Reading a span of a cartridge. -/
def R (c : Cart) (s : Int × Int) : List Blk × Int :=
  if okCart c = false then ([], 8) else if s.1 < 0 ∨ s.2 < 0 then ([], 7) else rd (c.2.2.2.2.1.drop s.1.toNat) s.2.toNat
theorem rd_fst : ∀ (l : List Blk) (n : Nat) (i : Int), 0 ≤ i →
    (∃ j : Nat, fstI (fun b => b.2.1) (l.take n) i = i + j ∧ j ≤ l.length ∧ rd l n = (l.take j, 15)) ∨
    (fstI (fun b => b.2.1) (l.take n) i = -1 ∧ rd l n = (l.take n, if l.length < n then 7 else 0))
  | [], 0, i, _ => .inr ⟨rfl, rfl⟩
  | b :: l, 0, i, _ => .inr ⟨rfl, rfl⟩
  | [], n + 1, i, _ => .inr ⟨rfl, by simp [rd]⟩
  | b :: l, n + 1, i, h => by
    rw [List.take_succ_cons]
    unfold fstI rd
    by_cases c : b.2.1 = true
    · refine .inl ⟨0, ?_, by omega, ?_⟩
      · rw [if_pos c]; omega
      · rw [if_pos c]; rfl
    · rw [if_neg c, if_neg c]
      rcases rd_fst l n (i + 1) (by omega) with ⟨j, h1, h2, h3⟩ | ⟨h1, h2⟩
      · refine .inl ⟨j + 1, by rw [h1]; omega, by rw [List.length_cons]; omega, ?_⟩
        rw [h3]; rfl
      · refine .inr ⟨h1, ?_⟩
        rw [h2]
        simp only [List.length_cons, Nat.add_lt_add_iff_right]
theorem rd_take : ∀ (l : List Blk) (n : Nat), ∃ j, (rd l n).1 = l.take j
  | _, 0 => ⟨0, by simp [rd]⟩
  | [], _ + 1 => ⟨0, by simp [rd]⟩
  | b :: l, n + 1 => by
    unfold rd
    split
    · exact ⟨0, rfl⟩
    · obtain ⟨j, hj⟩ := rd_take l n
      exact ⟨j + 1, by rw [hj]; rfl⟩
theorem R_len (c : Cart) (s : Int × Int) : (R c s).1.length ≤ c.2.2.2.2.1.length ∧ ∀ b ∈ (R c s).1, b ∈ c.2.2.2.2.1 := by
  unfold R
  split
  · exact ⟨by simp, fun b h => by simp at h⟩
  · split
    · exact ⟨by simp, fun b h => by simp at h⟩
    · obtain ⟨j, hj⟩ := rd_take (c.2.2.2.2.1.drop s.1.toNat) s.2.toNat
      rw [hj]
      exact ⟨by rw [List.length_take, List.length_drop]; omega, fun b h => List.mem_of_mem_drop (List.mem_of_mem_take h)⟩
theorem take_min (l : List Blk) (n : Int) (h : 0 ≤ n) : l.take (min n (l.length : Int)).toNat = l.take n.toNat := by
  by_cases c : n ≤ (l.length : Int)
  · rw [show min n (l.length : Int) = n by omega]
  · rw [List.take_of_length_le (by omega), List.take_of_length_le (by omega)]
theorem read_eq {c : Cart} (h1 : c.2.2.2.2.1.length ≤ 9000) (h2 : c.1.size < D ∧ c.1.size ≤ 9223372036854775807) (s : Int × Int) : cartridge_Read D c s = some (R c s) := by
  have hD := hBig.h
  unfold cartridge_Read R
  rw [valid_eq h1 h2]
  cases ho : okCart c with
  | false => rfl
  | true =>
    obtain ⟨d1, d2⟩ := okCart_data ho
    simp only [Option.bind_some, Bool.not_true, Bool.false_eq_true, Bool.true_eq_false, if_false, decide_eq_true_eq]
    by_cases ha : s.1 < 0
    · rw [if_pos ha, if_pos (show s.1 < 0 ∨ s.2 < 0 from .inl ha)]; rfl
    · rw [if_neg ha]
      by_cases hb : s.2 < 0
      · rw [if_pos hb, if_pos (show s.1 < 0 ∨ s.2 < 0 from .inr hb)]; rfl
      · rw [if_neg hb, if_neg (show ¬ (s.1 < 0 ∨ s.2 < 0) from fun h => h.elim ha hb)]
        by_cases hz : s.2 = 0
        · rw [if_pos hz, hz]; simp [rd]
        · rw [if_neg hz]
          obtain ⟨n, hn⟩ : ∃ n, s.2.toNat = n + 1 := ⟨s.2.toNat - 1, by omega⟩
          by_cases hf : s.1 ≥ (c.2.2.2.2.1.length : Int)
          · rw [if_pos hf, hn, List.drop_of_length_le (by omega)]; rfl
          · rw [if_neg hf]
            simp only [Option.bind_some]
            rw [if_pos (by omega)]
            simp only [Int.toNat_natCast, List.take_length, List.drop_zero]
            have hsub : ∀ b ∈ c.2.2.2.2.1.drop s.1.toNat, b.2.2.length ≤ 1000 := fun b hb => d2 b (List.mem_of_mem_drop hb)
            have hlen : (c.2.2.2.2.1.drop s.1.toNat).length ≤ 9000 := by rw [List.length_drop]; omega
            generalize c.2.2.2.2.1.drop s.1.toNat = l at hsub hlen
            rw [take_min l s.2 (by omega)]
            have hc : ∀ j, cartridge_copied D (l.take j) = some (l.take j) := fun j => copied_eq (by rw [List.length_take]; omega) (fun b hb => hsub b (List.mem_of_mem_take hb))
            rw [if_pos (by omega), idxR_eq (d := D) (l.take s.2.toNat) (by rw [List.length_take]; omega) (by rw [List.length_take]; omega)]
            simp only [Option.bind_some]
            rcases rd_fst l s.2.toNat 0 (by omega) with ⟨j, e1, e2, e3⟩ | ⟨e1, e2⟩
            · rw [e1, if_pos (by omega), if_pos (by omega), show (0 + (j : Int)).toNat = j by omega, hc, e3]; rfl
            · rw [e1, if_neg (by omega), hc, e2]
              by_cases q : l.length < s.2.toNat
              · rw [if_pos (by omega), if_pos (by omega), if_pos q]; rfl
              · rw [if_neg (by omega), if_pos (by omega), if_neg q]; rfl
theorem ok64 {n : Int} (h : OkT (.int .i64) n) : -9223372036854775808 ≤ n ∧ n ≤ 9223372036854775807 := by
  simpa [OkT, IntKind.min, IntKind.max, IntKind.signed, IntKind.bits] using h
end Go.Proofs.Ytlkjklacanedoaa.Den.G11
