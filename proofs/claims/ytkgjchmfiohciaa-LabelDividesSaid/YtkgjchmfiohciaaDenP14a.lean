/- What functions of layer 14 compute: the law's own example, few blocks, dividing, bytes. -/
import Derived.Test.YtkgjchmfiohciaaDenS26
import Derived.Test.YtkgjchmfiohciaaDenPK
import Derived.Test.YtkgjchmfiohciaaDenG14a
import Derived.KernelRfl
namespace Go.Proofs.Ytkgjchmfiohciaa.Den.G14
open Go.Proofs.Ytkgjchmfiohciaa.Den Go
set_option linter.unusedVariables false
set_option linter.unusedSimpArgs false
set_option linter.unusedSectionVars false
abbrev Blk := Bool × Bool × List Int
section
set_option maxRecDepth 100000
theorem lives_eq : tapearchivelaw14_lives 20000 = some true := by kernel_rfl
end
/-- Few and small blocks. -/
def Lt (l : List Blk) : Prop := l.length ≤ 60 ∧ ∀ b ∈ l, b.2.2.length ≤ 200
theorem few_l0 (d : Nat) (l : List Blk) (hy : (l.length : Int) ≤ 9223372036854775806) : ∀ (m k : Nat) (i : Int), 0 ≤ i → i + m = l.length → m < k →
    tapearchivelaw14_few_l0 d k l i = some (if (l.drop i.toNat).all (fun b => decide (b.2.2.length ≤ 200)) = true then .inl () else .inr false) := by
  intro m
  induction m with
  | zero =>
    intro k i h0 h1 hk
    obtain ⟨k, rfl⟩ : ∃ j, k = j + 1 := ⟨k - 1, by omega⟩
    rw [List.drop_of_length_le (by omega)]
    simp only [tapearchivelaw14_few_l0, decide_eq_true_eq]
    rw [if_neg (by omega)]
    rfl
  | succ m ih =>
    intro k i h0 h1 hk
    obtain ⟨k, rfl⟩ : ∃ j, k = j + 1 := ⟨k - 1, by omega⟩
    have ih := ih k (i + 1) (by omega) (by omega) (by omega)
    rw [drop_getD zBlock h0 (by omega), List.all_cons]
    simp only [tapearchivelaw14_few_l0, decide_eq_true_eq]
    rw [if_pos (by omega), if_pos (by omega), w64 (by omega) (by omega), ih]
    split
    · rw [decide_eq_false (by omega)]; rfl
    · rw [decide_eq_true (by omega), Bool.true_and]
theorem few_eq (l : List Blk) : ∃ b, tapearchivelaw14_few 20000 l = some b ∧ (b = true → Lt l) := by
  unfold tapearchivelaw14_few
  simp only [decide_eq_true_eq]
  split
  · exact ⟨_, rfl, fun h => by cases h⟩
  · have h := few_l0 20000 l (by omega) l.length 20000 0 (by omega) (by omega) (by omega)
    rw [h, Int.toNat_zero, List.drop_zero]
    by_cases o : l.all (fun b => decide (b.2.2.length ≤ 200)) = true
    · rw [if_pos o]
      refine ⟨_, rfl, fun _ => ⟨by omega, fun b hb => ?_⟩⟩
      exact of_decide_eq_true (List.all_eq_true.1 o b hb)
    · rw [if_neg o]
      exact ⟨_, rfl, fun h => by cases h⟩
/-- The bytes of one block: so many as there are, then zeros. -/
def pad (x : List Int) : List Int := x.take 64 ++ List.replicate (64 - min x.length 64) 0
theorem cpy_pad (x : List Int) : cpy (List.replicate 64 0) x 0 64 = pad x := by
  unfold cpy pad
  rw [List.take_zero, List.nil_append, List.drop_replicate, Nat.zero_add]
  by_cases h : x.length ≤ 64
  · rw [Nat.min_eq_left h, List.take_of_length_le (Nat.le_refl _), List.take_of_length_le h]
  · rw [Nat.min_eq_right (by omega)]
theorem pad_len (x : List Int) : (pad x).length = 64 := by
  unfold pad
  rw [List.length_append, List.length_take, List.length_replicate]
  omega
/-- Bytes as blocks: by so many steps. -/
def dv : Nat → List Int → List Blk
  | 0, _ => []
  | n + 1, x => if x = [] then [] else (false, false, pad x) :: dv n (x.drop 64)
theorem divide_l0 (d : Nat) (x : List Int) (hy : x.length ≤ 1000000) : ∀ (n k : Nat) (i : Int) (acc : List Blk), 0 ≤ i → (x.length : Int) ≤ i + 64 * n → n < k → acc.length ≤ 100000 → (acc.length : Int) + n ≤ 100000 → i ≤ 1000100 →
    label_Divide_l0 d k x i acc = some (acc ++ dv n (x.drop i.toNat)) := by
  intro n
  induction n with
  | zero =>
    intro k i acc h0 h1 hk ha hb hi
    obtain ⟨k, rfl⟩ : ∃ j, k = j + 1 := ⟨k - 1, by omega⟩
    simp only [label_Divide_l0, decide_eq_true_eq]
    rw [if_neg (by omega)]
    simp [dv]
  | succ n ih =>
    intro k i acc h0 h1 hk ha hb hi
    obtain ⟨k, rfl⟩ : ∃ j, k = j + 1 := ⟨k - 1, by omega⟩
    simp only [label_Divide_l0, decide_eq_true_eq]
    unfold dv
    by_cases h : i < (x.length : Int)
    · have hne : x.drop i.toNat ≠ [] := by
        intro e
        have := List.drop_eq_nil_iff.1 e
        omega
      rw [if_pos h, if_pos (by omega), if_pos (by omega), if_pos (by simp only [List.length_singleton]; omega), w64 (by omega) (by omega), if_neg hne, Int.toNat_natCast, List.take_length, List.length_replicate, cpy_pad]
      rw [ih k (i + 64) (acc ++ [(false, false, pad (x.drop i.toNat))]) (by omega) (by omega) (by omega) (by rw [List.length_append, List.length_singleton]; omega) (by rw [List.length_append, List.length_singleton]; omega) (by omega)]
      rw [List.append_assoc, List.singleton_append, List.drop_drop, show (i + 64).toNat = i.toNat + 64 by omega]
    · have he : x.drop i.toNat = [] := List.drop_of_length_le (by omega)
      rw [if_neg h, if_pos he, List.append_nil]
theorem rdivide_l0 (d : Nat) (x : List Int) (hy : x.length ≤ 1000000) : ∀ (n k : Nat) (i : Int) (acc : List Blk), 0 ≤ i → (x.length : Int) ≤ i + 64 * n → n < k → acc.length ≤ 100000 → (acc.length : Int) + n ≤ 100000 → i ≤ 1000100 →
    tapearchiveref14_Divide_l0 d k x i acc = some (acc ++ dv n (x.drop i.toNat)) := by
  intro n
  induction n with
  | zero =>
    intro k i acc h0 h1 hk ha hb hi
    obtain ⟨k, rfl⟩ : ∃ j, k = j + 1 := ⟨k - 1, by omega⟩
    simp only [tapearchiveref14_Divide_l0, decide_eq_true_eq]
    rw [if_neg (by omega)]
    simp [dv]
  | succ n ih =>
    intro k i acc h0 h1 hk ha hb hi
    obtain ⟨k, rfl⟩ : ∃ j, k = j + 1 := ⟨k - 1, by omega⟩
    simp only [tapearchiveref14_Divide_l0, decide_eq_true_eq]
    unfold dv
    by_cases h : i < (x.length : Int)
    · have hne : x.drop i.toNat ≠ [] := by
        intro e
        have := List.drop_eq_nil_iff.1 e
        omega
      rw [if_pos h, if_pos (by omega), if_pos (by omega), if_pos (by simp only [List.length_singleton]; omega), w64 (by omega) (by omega), if_neg hne, Int.toNat_natCast, List.take_length, List.length_replicate, cpy_pad]
      rw [ih k (i + 64) (acc ++ [(false, false, pad (x.drop i.toNat))]) (by omega) (by omega) (by omega) (by rw [List.length_append, List.length_singleton]; omega) (by rw [List.length_append, List.length_singleton]; omega) (by omega)]
      rw [List.append_assoc, List.singleton_append, List.drop_drop, show (i + 64).toNat = i.toNat + 64 by omega]
    · have he : x.drop i.toNat = [] := List.drop_of_length_le (by omega)
      rw [if_neg h, if_pos he, List.append_nil]
/-- Bytes as blocks. -/
def Dv (x : List Int) : List Blk := dv (x.length / 64 + 1) x
theorem divide_eq {x : List Int} (hy : x.length ≤ 1000000) : label_Divide 20000 x = some (Dv x) := by
  unfold label_Divide
  rw [divide_l0 20000 x hy (x.length / 64 + 1) 20000 0 [] (by omega) (by omega) (by omega) (by simp) (by simp; omega) (by omega)]
  rfl
theorem rdivide_eq {x : List Int} (hy : x.length ≤ 1000000) : tapearchiveref14_Divide 20000 x = some (Dv x) := by
  unfold tapearchiveref14_Divide
  rw [rdivide_l0 20000 x hy (x.length / 64 + 1) 20000 0 [] (by omega) (by omega) (by omega) (by simp) (by simp; omega) (by omega)]
  rfl
/-- The bytes before the first mark or bad block. -/
def by_ : List Blk → List Int
  | [] => []
  | b :: l => if b.1 = true ∨ b.2.1 = true then [] else b.2.2 ++ by_ l
theorem bytes_l0 (d : Nat) (l : List Blk) (hy : l.length ≤ 5000) (hd : ∀ b ∈ l, b.2.2.length ≤ 1000) : ∀ (m k : Nat) (i : Int) (acc : List Int), 0 ≤ i → i + m = l.length → m < k → (acc.length : Int) ≤ 1000 * i →
    label_Bytes_l0 d k l l.length i acc = some (acc ++ by_ (l.drop i.toNat)) := by
  intro m
  induction m with
  | zero =>
    intro k i acc h0 h1 hk ha
    obtain ⟨k, rfl⟩ : ∃ j, k = j + 1 := ⟨k - 1, by omega⟩
    simp only [label_Bytes_l0, decide_eq_true_eq]
    rw [if_neg (by omega), List.drop_of_length_le (by omega)]
    simp [by_]
  | succ m ih =>
    intro k i acc h0 h1 hk ha
    obtain ⟨k, rfl⟩ : ∃ j, k = j + 1 := ⟨k - 1, by omega⟩
    have hb : (0 : Int) ≤ i ∧ i < (l.length : Int) := by omega
    have hdb := hd _ (mem_getD (z := zBlock) hb.1 hb.2)
    rw [drop_getD zBlock h0 (by omega)]
    simp only [label_Bytes_l0, decide_eq_true_eq, if_pos hb, if_pos hb.2]
    unfold by_
    generalize l.getD i.toNat zBlock = b at hdb ⊢
    by_cases q1 : b.1 = true
    · rw [if_pos q1, if_pos (.inl q1)]; simp
    · rw [if_neg q1]
      by_cases q2 : b.2.1 = true
      · rw [if_pos q2, if_pos (.inr q2)]; simp
      · rw [if_neg q2, if_neg (fun h => h.elim q1 q2)]
        simp only [Option.bind_some]
        rw [if_pos (by omega), w64 (by omega) (by omega), ih k (i + 1) (acc ++ b.2.2) (by omega) (by omega) (by omega) (by rw [List.length_append]; omega), List.append_assoc]
theorem bytes_eq {l : List Blk} (hy : l.length ≤ 5000) (hd : ∀ b ∈ l, b.2.2.length ≤ 1000) : label_Bytes 20000 l = some (by_ l) := by
  unfold label_Bytes
  rw [bytes_l0 20000 l hy hd l.length 20000 0 [] (by omega) (by omega) (by omega) (by simp)]
  rfl
theorem rbytes_l0 (d : Nat) (l : List Blk) (hy : l.length ≤ 5000) (hd : ∀ b ∈ l, b.2.2.length ≤ 1000) : ∀ (m k : Nat) (i : Int) (acc : List Int), 0 ≤ i → i + m = l.length → m < k → (acc.length : Int) ≤ 1000 * i →
    tapearchiveref14_Bytes_l0 d k l i acc = some (acc ++ by_ (l.drop i.toNat)) := by
  intro m
  induction m with
  | zero =>
    intro k i acc h0 h1 hk ha
    obtain ⟨k, rfl⟩ : ∃ j, k = j + 1 := ⟨k - 1, by omega⟩
    simp only [tapearchiveref14_Bytes_l0, decide_eq_true_eq]
    rw [if_neg (by omega), List.drop_of_length_le (by omega)]
    simp [by_]
  | succ m ih =>
    intro k i acc h0 h1 hk ha
    obtain ⟨k, rfl⟩ : ∃ j, k = j + 1 := ⟨k - 1, by omega⟩
    have hb : (0 : Int) ≤ i ∧ i < (l.length : Int) := by omega
    have hdb := hd _ (mem_getD (z := zBlock) hb.1 hb.2)
    rw [drop_getD zBlock h0 (by omega)]
    simp only [tapearchiveref14_Bytes_l0, decide_eq_true_eq, if_pos hb, if_pos hb.2]
    unfold by_
    by_cases q1 : (l.getD i.toNat zBlock).1 = true
    · rw [q1, if_neg (by simp), if_pos (.inl rfl)]; simp
    · rw [Bool.eq_false_iff.2 q1, if_pos (by simp)]
      by_cases q2 : (l.getD i.toNat zBlock).2.1 = true
      · rw [q2, if_neg (by simp), if_pos (.inr rfl)]; simp
      · rw [Bool.eq_false_iff.2 q2, if_pos (by simp), if_neg (by simp)]
        simp only [Option.bind_some]
        rw [if_pos hb, if_pos (by omega), w64 (by omega) (by omega), ih k (i + 1) (acc ++ (l.getD i.toNat zBlock).2.2) (by omega) (by omega) (by omega) (by rw [List.length_append]; omega), List.append_assoc]
theorem rbytes_eq {l : List Blk} (hy : l.length ≤ 5000) (hd : ∀ b ∈ l, b.2.2.length ≤ 1000) : tapearchiveref14_Bytes 20000 l = some (by_ l) := by
  unfold tapearchiveref14_Bytes
  rw [rbytes_l0 20000 l hy hd l.length 20000 0 [] (by omega) (by omega) (by omega) (by simp)]
  rfl
theorem same_l0 (d : Nat) (l : List Blk) (hy : (l.length : Int) ≤ 9223372036854775806) : ∀ (m k : Nat) (i : Int), 0 ≤ i → i + m = l.length → m < k → tapearchiveref14_Same_l0 d k l l i = some (.inl ()) := by
  intro m
  induction m with
  | zero =>
    intro k i h0 h1 hk
    obtain ⟨k, rfl⟩ : ∃ j, k = j + 1 := ⟨k - 1, by omega⟩
    simp only [tapearchiveref14_Same_l0, decide_eq_true_eq]
    rw [if_neg (by omega)]
  | succ m ih =>
    intro k i h0 h1 hk
    obtain ⟨k, rfl⟩ : ∃ j, k = j + 1 := ⟨k - 1, by omega⟩
    have ih := ih k (i + 1) (by omega) (by omega) (by omega)
    have hb : (0 : Int) ≤ i ∧ i < (l.length : Int) := by omega
    simp only [tapearchiveref14_Same_l0, decide_eq_true_eq, if_pos hb, if_pos hb.2, decide_true, Bool.not_true, Bool.false_eq_true, if_false]
    rw [w64 (by omega) (by omega), ih]
theorem same_refl {l : List Blk} (hl : l.length ≤ 9000) : tapearchiveref14_Same 20000 l l = some true := by
  unfold tapearchiveref14_Same
  rw [same_l0 20000 l (by omega) l.length 20000 0 (by omega) (by omega) (by omega)]
  simp
theorem copied_l0 (d : Nat) (l : List Blk) (hy : l.length ≤ 100000) (hd : ∀ b ∈ l, b.2.2.length ≤ 1000) : ∀ (m k : Nat) (i : Int), 0 ≤ i → i + m = l.length → m < k →
    tapearchiveref14_Copied_l0 d k l i (l.take i.toNat) = some l := by
  intro m
  induction m with
  | zero =>
    intro k i h0 h1 hk
    obtain ⟨k, rfl⟩ : ∃ j, k = j + 1 := ⟨k - 1, by omega⟩
    simp only [tapearchiveref14_Copied_l0, decide_eq_true_eq]
    rw [if_neg (by omega), List.take_of_length_le (by omega)]
  | succ m ih =>
    intro k i h0 h1 hk
    obtain ⟨k, rfl⟩ : ∃ j, k = j + 1 := ⟨k - 1, by omega⟩
    have hlt : i.toNat < l.length := by omega
    have hdb := hd _ (mem_getD (z := zBlock) h0 (by omega : i < (l.length : Int)))
    have ih := ih k (i + 1) (by omega) (by omega) (by omega)
    rw [show (i + 1).toNat = i.toNat + 1 by omega, List.take_add_one, List.getElem?_eq_getElem hlt, ← getD_get (z := zBlock) hlt] at ih
    have hb : (0 : Int) ≤ i ∧ i < (l.length : Int) := by omega
    simp only [tapearchiveref14_Copied_l0, decide_eq_true_eq, if_pos hb, if_pos hb.2]
    rw [if_pos (by omega), if_pos (by simp only [List.length_take, List.length_singleton]; omega), w64 (by omega) (by omega), List.nil_append]
    exact ih
theorem copied_eq {l : List Blk} (hy : l.length ≤ 9000) (hd : ∀ b ∈ l, b.2.2.length ≤ 1000) : tapearchiveref14_Copied 20000 l = some l := by
  unfold tapearchiveref14_Copied
  have h := copied_l0 20000 l (by omega) hd l.length 20000 0 (by omega) (by omega) (by omega)
  rw [Int.toNat_zero, List.take_zero] at h
  rw [h]; rfl
end Go.Proofs.Ytkgjchmfiohciaa.Den.G14
