/- What functions of layer 10 compute: erasing, damaging. -/
import Derived.Test.YtiaafpihoikeeaaDenP10h
namespace Go.Proofs.Ytiaafpihoikeeaa.Den.G10
open Go.Proofs.Ytiaafpihoikeeaa.Den Go
set_option linter.unusedVariables false
set_option linter.unusedSimpArgs false
/-- Erasing. -/
def X (c : Cart) : Cart × Int :=
  if okCart c = false then (zC, 8) else if c.2.2.2.1 = true ∨ c.2.2.1 = true then (zC, 17) else if c.2.2.2.2.2.1 = 1125899906842624 then (zC, 7)
  else ((c.1, c.2.1, c.2.2.1, c.2.2.2.1, [], IntKind.i64.wrap (c.2.2.2.2.2.1 + 1), c.2.2.2.2.2.2), 0)
theorem erase_eq {c : Cart} (h1 : c.2.2.2.2.1.length ≤ 9000) (h2 : c.1.size ≤ 9000) : cartridge_Erase 10000 c = some (X c) := by
  unfold cartridge_Erase X
  rw [valid_eq h1 h2]
  cases okCart c with
  | false => rfl
  | true =>
    cases hk : c.2.2.2.1 with
    | true => simp
    | false =>
      cases hw : c.2.2.1 with
      | true => simp
      | false =>
        by_cases h : c.2.2.2.2.2.1 = 1125899906842624
        · simp [hk, hw, h, zC]
        · simp [hk, hw, h, cartridge_with]
theorem rerase_eq {c : Cart} (h1 : c.2.2.2.2.1.length ≤ 9000) (h2 : c.1.size ≤ 9000) : tapearchiveref10_Erase 10000 c = some (X c) := by
  unfold tapearchiveref10_Erase X
  rw [rvalid_eq h1 h2]
  cases okCart c with
  | false => rfl
  | true =>
    cases hk : c.2.2.2.1 with
    | true => simp
    | false =>
      cases hw : c.2.2.1 with
      | true => simp
      | false =>
        by_cases h : c.2.2.2.2.2.1 = 1125899906842624
        · simp [hk, hw, h, zC]
        · simp [hk, hw, h]
theorem X_len (c : Cart) : (X c).1.2.2.2.2.1.length ≤ 9000 := by
  unfold X
  repeat' split
  all_goals simp
/-- Blocks of which those in a range are bad. -/
def dmF (p : Int → Bool) : List Blk → Int → List Blk
  | [], _ => []
  | b :: l, i => (if p i = true then (b.1, true, b.2.2) else b) :: dmF p l (i + 1)
theorem dmF_nil (p : Int → Bool) (i : Int) : dmF p [] i = [] := rfl
theorem dmF_cons (p : Int → Bool) (b : Blk) (l : List Blk) (i : Int) : dmF p (b :: l) i = (if p i = true then (b.1, true, b.2.2) else b) :: dmF p l (i + 1) := rfl
theorem dmF_len (p : Int → Bool) : ∀ (l : List Blk) (i : Int), (dmF p l i).length = l.length
  | [], _ => rfl
  | b :: l, i => by unfold dmF; rw [List.length_cons, List.length_cons, dmF_len p l (i + 1)]
theorem dmF_congr {p q : Int → Bool} : ∀ (l : List Blk) (i : Int), (∀ j, i ≤ j → j < i + l.length → p j = q j) → dmF p l i = dmF q l i
  | [], _, _ => rfl
  | b :: l, i, h => by
    unfold dmF
    rw [h i (by omega) (by rw [List.length_cons]; omega), dmF_congr l (i + 1) (fun j h1 h2 => h j (by omega) (by rw [List.length_cons]; omega))]
theorem dmF_none {p : Int → Bool} : ∀ (l : List Blk) (i : Int), (∀ j, i ≤ j → j < i + l.length → p j = false) → dmF p l i = l
  | [], _, _ => rfl
  | b :: l, i, h => by
    unfold dmF
    rw [h i (by omega) (by rw [List.length_cons]; omega), dmF_none l (i + 1) (fun j h1 h2 => h j (by omega) (by rw [List.length_cons]; omega))]
    rfl
/-- A row of which the first so many places are done. -/
theorem set_split {a : List Blk} {i : Nat} {b x : Blk} {l : List Blk} (h : a.length = i) : (a ++ b :: l).set i x = (a ++ [x]) ++ l := by
  subst h
  rw [List.set_append_right _ _ (Nat.le_refl _), Nat.sub_self, List.set_cons_zero, List.append_assoc, List.singleton_append]
theorem getD_split {a : List Blk} {i : Nat} {b z : Blk} {l : List Blk} (h : a.length = i) : (a ++ b :: l).getD i z = b := by
  subst h
  rw [List.getD_eq_getElem?_getD, List.getElem?_append_right (Nat.le_refl _), Nat.sub_self]; rfl
theorem damage_l0 (d : Nat) (e : Int) (c z : Cart) : ∀ (l a : List Blk) (k : Nat), (a ++ l).length ≤ 9000 → e ≤ (a ++ l).length → l.length < k →
    cartridge_Damage_l0 d k e (a.length : Int) c z (a ++ l) = some (c, z, a ++ dmF (fun j => decide (j < e)) l a.length)
  | [], a, k, h1, h2, hk => by
    obtain ⟨k, rfl⟩ : ∃ j, k = j + 1 := ⟨k - 1, by simp at hk; omega⟩
    simp only [cartridge_Damage_l0, decide_eq_true_eq]
    rw [List.append_nil] at h2
    rw [if_neg (by omega)]
    rfl
  | b :: l, a, k, h1, h2, hk => by
    obtain ⟨k, rfl⟩ : ∃ j, k = j + 1 := ⟨k - 1, by omega⟩
    simp only [cartridge_Damage_l0, decide_eq_true_eq]
    have hlen : (a ++ b :: l).length = a.length + l.length + 1 := by rw [List.length_append, List.length_cons]; omega
    by_cases hx : (a.length : Int) < e
    · rw [if_pos hx, if_pos (by omega), w64 (by omega) (by omega), getD_split (by omega), set_split (by omega)]
      have ih := damage_l0 d e c z l (a ++ [(b.1, true, b.2.2)]) k (by simp only [List.length_append, List.length_singleton]; omega) (by simp only [List.length_append, List.length_singleton]; omega) (by rw [List.length_cons] at hk; omega)
      rw [List.length_append, List.length_singleton, Int.natCast_add] at ih
      refine Eq.trans ih ?_
      rw [List.append_assoc, List.singleton_append]
      rw [dmF_cons, if_pos (by simpa using hx)]
      rfl
    · rw [if_neg hx, dmF_none (p := fun j => decide (j < e)) (b :: l) a.length (fun j h1 h2 => by simp only [decide_eq_false_iff_not]; omega)]
/-- Whether a place is in a span. -/
def inS (s : Int × Int) (i : Int) : Bool := decide (s.2 ≥ 1 ∧ (s.1 < 0 ∧ s.1 + s.2 > i ∨ s.1 ≥ 0 ∧ i ≥ s.1 ∧ i - s.1 < s.2))
theorem rdamage_l0 (d : Nat) (c z : Cart) (s : Int × Int) (hs1 : -9223372036854775808 ≤ s.1) (hs2 : s.1 ≤ 9223372036854775807) (hs3 : s.2 ≤ 9223372036854775807) : ∀ (l a : List Blk) (k : Nat), (a ++ l).length ≤ 9000 → l.length < k →
    tapearchiveref10_Damage_l0 d k (a.length : Int) c s z (a ++ l) = some (c, z, a ++ dmF (inS s) l a.length)
  | [], a, k, h1, hk => by
    obtain ⟨k, rfl⟩ : ∃ j, k = j + 1 := ⟨k - 1, by simp at hk; omega⟩
    simp only [tapearchiveref10_Damage_l0, decide_eq_true_eq]
    rw [List.append_nil, if_neg (by omega), dmF_nil, List.append_nil]
  | b :: l, a, k, h1, hk => by
    obtain ⟨k, rfl⟩ : ∃ j, k = j + 1 := ⟨k - 1, by omega⟩
    have hlen : (a ++ b :: l).length = a.length + l.length + 1 := by rw [List.length_append, List.length_cons]; omega
    have hb : (0 : Int) ≤ (a.length : Int) ∧ (a.length : Int) < ((a ++ b :: l).length : Int) := by omega
    have g := rdamage_l0 d c z s hs1 hs2 hs3 l (a ++ [b]) k (by simp only [List.length_append, List.length_singleton]; omega) (by rw [List.length_cons] at hk; omega)
    have g2 := rdamage_l0 d c z s hs1 hs2 hs3 l (a ++ [(b.1, true, b.2.2)]) k (by simp only [List.length_append, List.length_singleton]; omega) (by rw [List.length_cons] at hk; omega)
    rw [List.length_append, List.length_singleton, Int.natCast_add] at g g2
    have e1 : a ++ b :: l = (a ++ [b]) ++ l := by rw [List.append_assoc, List.singleton_append]
    simp only [tapearchiveref10_Damage_l0, decide_eq_true_eq]
    rw [if_pos hb.2, w64 (x := (a.length : Int) + 1) (by omega) (by omega), if_pos hb, getD_split (by omega), set_split (by omega)]
    rw [show (((1 : Nat) : Int)) = 1 from rfl] at g g2
    rw [g2, e1, g]
    rw [dmF_cons]
    simp only [List.append_assoc, List.singleton_append]
    by_cases hin : inS s a.length = true
    · rw [if_pos hin]
      have hin := of_decide_eq_true hin
      rw [if_pos hin.1]
      rcases hin.2 with ⟨q1, q2⟩ | ⟨q1, q2, q3⟩
      · rw [if_pos q1, w64 (by omega) (by omega), if_pos q2]
      · rw [if_neg (by omega), if_pos q1, if_pos q2, w64 (by omega) (by omega), if_pos q3]
    · rw [if_neg hin]
      have hin : ¬ (s.2 ≥ 1 ∧ (s.1 < 0 ∧ s.1 + s.2 > (a.length : Int) ∨ s.1 ≥ 0 ∧ (a.length : Int) ≥ s.1 ∧ (a.length : Int) - s.1 < s.2)) := fun h => hin (decide_eq_true h)
      by_cases p1 : s.2 ≥ 1
      · rw [if_pos p1]
        by_cases p2 : s.1 < 0
        · rw [if_pos p2, w64 (x := s.1 + s.2) (by omega) (by omega), if_neg (by omega), if_neg (by omega)]
        · rw [if_neg p2, if_pos (by omega)]
          by_cases p3 : (a.length : Int) ≥ s.1
          · rw [if_pos p3, w64 (by omega) (by omega), if_neg (by omega)]
          · rw [if_neg p3]
      · rw [if_neg p1]
/-- Damaging a span of a cartridge. -/
def D (c : Cart) (s : Int × Int) : Cart := if okCart c = false then zC else withB c (dmF (inS s) c.2.2.2.2.1 0)
theorem D_len (c : Cart) (s : Int × Int) (h : c.2.2.2.2.1.length ≤ 9000) : (D c s).2.2.2.2.1.length ≤ 9000 := by
  unfold D
  split
  · show ([] : List Blk).length ≤ 9000; simp
  · show (dmF (inS s) c.2.2.2.2.1 0).length ≤ 9000
    rw [dmF_len]; exact h
theorem rdamage_eq {c : Cart} (h1 : c.2.2.2.2.1.length ≤ 9000) (h2 : c.1.size ≤ 9000) (s : Int × Int) (hs1 : -9223372036854775808 ≤ s.1) (hs2 : s.1 ≤ 9223372036854775807) (hs3 : s.2 ≤ 9223372036854775807) : tapearchiveref10_Damage 10000 c s = some (D c s) := by
  unfold tapearchiveref10_Damage D
  rw [rvalid_eq h1 h2]
  cases ho : okCart c with
  | false => rfl
  | true =>
    obtain ⟨d1, d2⟩ := okCart_data ho
    simp only [Option.bind_some, Bool.not_true, Bool.false_eq_true, Bool.true_eq_false, if_false, rcopied_eq h1 d2]
    have h := rdamage_l0 10000 c zC s hs1 hs2 hs3 c.2.2.2.2.1 [] 10000 h1 (by omega)
    rw [List.nil_append, List.nil_append] at h
    simp only [List.length_nil, Int.natCast_zero] at h
    rw [h]
    rfl
theorem damage_eq {c : Cart} (h1 : c.2.2.2.2.1.length ≤ 9000) (h2 : c.1.size ≤ 9000) (s : Int × Int) (hs1 : -9223372036854775808 ≤ s.1) (hs2 : s.1 ≤ 9223372036854775807) (hs3 : s.2 ≤ 9223372036854775807) : cartridge_Damage 10000 c s = some (D c s) := by
  unfold cartridge_Damage D
  rw [valid_eq h1 h2]
  cases ho : okCart c with
  | false => rfl
  | true =>
    obtain ⟨d1, d2⟩ := okCart_data ho
    simp only [Option.bind_some, Bool.not_true, Bool.false_eq_true, Bool.true_eq_false, if_false, copied_eq h1 d2, decide_eq_true_eq]
    have fin : ∀ e : Int, e ≤ c.2.2.2.2.1.length → ∀ F : Int, 0 ≤ F → F ≤ c.2.2.2.2.1.length → (∀ j : Int, 0 ≤ j → j < c.2.2.2.2.1.length → (inS s j = true ↔ F ≤ j ∧ j < e)) → cartridge_Damage_l0 10000 10000 e F c zC c.2.2.2.2.1 = some (c, zC, dmF (inS s) c.2.2.2.2.1 0) := by
      intro e he F hF hF2 hq
      have h := damage_l0 10000 e c zC (c.2.2.2.2.1.drop F.toNat) (c.2.2.2.2.1.take F.toNat) 10000 (by rw [List.take_append_drop]; exact h1) (by rw [List.take_append_drop]; exact he) (by rw [List.length_drop]; omega)
      rw [List.take_append_drop, List.length_take, show ((min F.toNat c.2.2.2.2.1.length : Nat) : Int) = F by omega] at h
      rw [h]
      have split : ∀ (a l : List Blk) (i : Int), dmF (inS s) (a ++ l) i = dmF (inS s) a i ++ dmF (inS s) l (i + a.length) := by
        intro a
        induction a with
        | nil => intro l i; simp [dmF]
        | cons b a ih => intro l i; simp only [List.cons_append, dmF, ih, List.length_cons, Int.natCast_add]; congr 3; omega
      have := split (c.2.2.2.2.1.take F.toNat) (c.2.2.2.2.1.drop F.toNat) 0
      rw [List.take_append_drop, List.length_take, show (0 : Int) + ((min F.toNat c.2.2.2.2.1.length : Nat) : Int) = F by omega] at this
      rw [this, dmF_none (p := inS s) (c.2.2.2.2.1.take F.toNat) 0 (fun j q1 q2 => by
        rw [List.length_take] at q2
        cases hi : inS s j with
        | false => rfl
        | true => have := (hq j (by omega) (by omega)).1 hi; omega)]
      rw [dmF_congr (p := fun j => decide (j < e)) (q := inS s) _ F (fun j q1 q2 => by
        rw [List.length_drop] at q2
        have := hq j (by omega) (by omega)
        cases hi : inS s j with
        | false => rw [hi] at this; simp only [decide_eq_false_iff_not]; intro hh; have := this.2 ⟨q1, hh⟩; cases this
        | true => rw [hi] at this; simp only [decide_eq_true_eq]; exact (this.1 rfl).2)]
    have none_ : (∀ j : Int, 0 ≤ j → j < c.2.2.2.2.1.length → inS s j = false) → dmF (inS s) c.2.2.2.2.1 0 = c.2.2.2.2.1 := fun h => dmF_none _ 0 (fun j q1 q2 => h j q1 (by omega))
    by_cases p1 : s.2 ≥ 1
    · rw [if_pos p1]
      by_cases p2 : s.1 < (c.2.2.2.2.1.length : Int)
      · rw [if_pos p2]
        by_cases p3 : s.1 < 0
        · rw [if_pos p3]
          simp only [Option.bind_some]
          rw [w64 (by omega) (by omega), show max s.1 0 = 0 by omega]
          refine (congrArg (fun z => Option.bind (Option.bind z _) _) (fin (min (c.2.2.2.2.1.length : Int) (s.1 + s.2)) (by omega) 0 (by omega) (by omega) ?_)).trans rfl
          intro j q1 q2
          unfold inS
          rw [decide_eq_true_eq]
          omega
        · rw [if_neg p3, w64 (x := (c.2.2.2.2.1.length : Int) - s.1) (by omega) (by omega)]
          by_cases p4 : s.2 < (c.2.2.2.2.1.length : Int) - s.1
          · rw [if_pos p4]
            simp only [Option.bind_some]
            rw [w64 (by omega) (by omega), show max s.1 0 = s.1 by omega]
            refine (congrArg (fun z => Option.bind (Option.bind z _) _) (fin (min (c.2.2.2.2.1.length : Int) (s.1 + s.2)) (by omega) s.1 (by omega) (by omega) ?_)).trans rfl
            intro j q1 q2
            unfold inS
            rw [decide_eq_true_eq]
            omega
          · rw [if_neg p4]
            simp only [Option.bind_some]
            rw [show max s.1 0 = s.1 by omega]
            refine (congrArg (fun z => Option.bind (Option.bind z _) _) (fin (c.2.2.2.2.1.length : Int) (by omega) s.1 (by omega) (by omega) ?_)).trans rfl
            intro j q1 q2
            unfold inS
            rw [decide_eq_true_eq]
            omega
      · rw [if_neg p2, none_ (fun j q1 q2 => decide_eq_false (by omega))]
        rfl
    · rw [if_neg p1, none_ (fun j q1 q2 => decide_eq_false (by omega))]
      rfl
end Go.Proofs.Ytiaafpihoikeeaa.Den.G10
