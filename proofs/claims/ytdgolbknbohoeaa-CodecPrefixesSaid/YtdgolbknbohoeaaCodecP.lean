/- The bytes of a number, written and read, in plain lists: no program in sight. -/
import Derived.Test.YtdgolbknbohoeaaWPureKit
import Derived.Lib.Bytes
namespace Go.Proofs.Ytdgolbknbohoeaa.P
open Go.RowKit Go.Proofs.YtdgolbknbohoeaaW.PrintWords Go.Proofs.YtdgolbknbohoeaaW.PrintMore Go.Proofs.YtdgolbknbohoeaaW.PureKit
set_option linter.unusedVariables false
set_option linter.unusedSimpArgs false

theorem wu64 {x : Int} (h1 : 0 ≤ x) (h2 : x ≤ 18446744073709551615) : IntKind.u64.wrap x = x := by
  rw [IntKind.wrap_u64]; omega
theorem wu64_b (x : Int) : 0 ≤ IntKind.u64.wrap x ∧ IntKind.u64.wrap x ≤ 18446744073709551615 := by
  rw [IntKind.wrap_u64]; omega
/-- Bytes. -/
def Byts (l : List Int) : Prop := ∀ x, x ∈ l → 0 ≤ x ∧ x ≤ 255
theorem Byts.append {a b : List Int} (ha : Byts a) (hb : Byts b) : Byts (a ++ b) := fun x hx => by
  rcases List.mem_append.1 hx with h | h
  · exact ha x h
  · exact hb x h
theorem Byts.tail {c : Int} {l : List Int} (h : Byts (c :: l)) : Byts l := fun x hx => h x (List.mem_cons_of_mem _ hx)
theorem Byts.drop {l : List Int} (h : Byts l) (n : Nat) : Byts (l.drop n) := fun x hx => h x (List.mem_of_mem_drop hx)
theorem Byts.take {l : List Int} (h : Byts l) (n : Nat) : Byts (l.take n) := fun x hx => h x (List.mem_of_mem_take hx)
/-- The bytes of a number. -/
def grp (n : Nat) : List Int := if n < 128 then [(n : Int)] else ((n % 128 + 128 : Nat) : Int) :: grp (n / 128)
termination_by n
decreasing_by omega
theorem grp_small {n : Nat} (h : n < 128) : grp n = [(n : Int)] := by rw [grp, if_pos h]
theorem grp_big {n : Nat} (h : ¬ n < 128) : grp n = ((n % 128 + 128 : Nat) : Int) :: grp (n / 128) := by rw [grp, if_neg h]
theorem grp_bytes (n : Nat) : Byts (grp n) := by
  induction n using Nat.strongRecOn with
  | _ n ih =>
    by_cases h : n < 128
    · rw [grp_small h]; intro x hx; simp at hx; omega
    · rw [grp_big h]
      intro x hx
      rcases List.mem_cons.1 hx with rfl | hx
      · omega
      · exact ih (n / 128) (by omega) x hx
theorem grp_pos (n : Nat) : 1 ≤ (grp n).length := by
  by_cases h : n < 128
  · rw [grp_small h]; simp
  · rw [grp_big h]; simp
theorem grp_le : ∀ (d n : Nat), n < 128 ^ (d + 1) → (grp n).length ≤ d + 1
  | 0, n, h => by rw [grp_small (by omega)]; simp
  | d + 1, n, h => by
    by_cases c : n < 128
    · rw [grp_small c]; simp
    · rw [grp_big c]
      have : n / 128 < 128 ^ (d + 1) := by
        rw [Nat.div_lt_iff_lt_mul (by omega)]
        rw [Nat.pow_succ] at h
        exact h
      have := grp_le d (n / 128) this
      simp only [List.length_cons]
      omega
theorem grp_le10 {n : Nat} (h : n < 18446744073709551616) : (grp n).length ≤ 10 := grp_le 9 n (Nat.lt_of_lt_of_le h (by decide))

/-- What is read from given bytes (at most ten): behind i of them, which gave the number n. -/
def dec (at_ : Int) : List Int → Nat → Int → Int × Int × Int
  | [], i, _ => if i = 10 then (0, 0, 6) else (0, 0, 2)
  | c :: l, i, n => if c ≥ 128 then dec at_ l (i + 1) (IntKind.u64.wrap (n + IntKind.u64.wrap ((c - 128) * 128 ^ i))) else if i = 9 ∧ c > 1 then (0, 0, 6) else if 0 < i ∧ c = 0 then (0, 0, 1) else (IntKind.u64.wrap (n + IntKind.u64.wrap (c * 128 ^ i)), at_ + i + 1, 0)
/-- What Uint returns. -/
def uintS (b : List Int) (at_ : Int) : Int × Int × Int := if at_ < 0 ∨ at_ > b.length then (0, 0, 7) else dec at_ ((b.drop at_.toNat).take 10) 0 0

theorem dec_b {at_ : Int} : ∀ (l : List Int) (i : Nat) (n : Int), 0 ≤ (dec at_ l i n).1 ∧ (dec at_ l i n).1 ≤ 18446744073709551615 ∧ ((dec at_ l i n).2.2 = 0 → at_ + i < (dec at_ l i n).2.1 ∧ (dec at_ l i n).2.1 ≤ at_ + i + l.length) ∧ ((dec at_ l i n).2.2 ≠ 0 → (dec at_ l i n).1 = 0 ∧ (dec at_ l i n).2.1 = 0)
  | [], i, n => by
    unfold dec
    split <;> simp
  | c :: l, i, n => by
    have ih := dec_b (at_ := at_) l (i + 1) (IntKind.u64.wrap (n + IntKind.u64.wrap ((c - 128) * 128 ^ i)))
    unfold dec
    split
    · obtain ⟨h1, h2, h3, h4⟩ := ih
      refine ⟨h1, h2, fun h => ?_, h4⟩
      have := h3 h
      simp only [List.length_cons]
      omega
    · split
      · simp
      · split
        · simp
        · have := wu64_b (n + IntKind.u64.wrap (c * 128 ^ i))
          refine ⟨this.1, this.2, fun _ => ?_, fun h => absurd rfl h⟩
          simp only [List.length_cons]
          omega
theorem uintS_b (b : List Int) (at_ : Int) : 0 ≤ (uintS b at_).1 ∧ (uintS b at_).1 ≤ 18446744073709551615 ∧ ((uintS b at_).2.2 = 0 → 0 ≤ at_ ∧ at_ < (uintS b at_).2.1 ∧ (uintS b at_).2.1 ≤ b.length) ∧ ((uintS b at_).2.2 ≠ 0 → (uintS b at_).1 = 0 ∧ (uintS b at_).2.1 = 0) := by
  unfold uintS
  by_cases h : at_ < 0 ∨ at_ > b.length
  · rw [if_pos h]; simp
  · rw [if_neg h]
    have := dec_b (at_ := at_) ((b.drop at_.toNat).take 10) 0 0
    refine ⟨this.1, this.2.1, fun h0 => ?_, this.2.2.2⟩
    have h1 := this.2.2.1 h0
    have h2 : ((b.drop at_.toNat).take 10).length ≤ b.length - at_.toNat := by rw [List.length_take, List.length_drop]; omega
    omega

theorem pow_succ_i (i : Nat) : (128 : Int) ^ (i + 1) = 128 ^ i * 128 := Int.pow_succ ..
theorem pow_pos_i : ∀ i : Nat, (1 : Int) ≤ 128 ^ i
  | 0 => by simp
  | i + 1 => by rw [pow_succ_i]; have := pow_pos_i i; omega
theorem pow_le_i : ∀ i j : Nat, i ≤ j → (128 : Int) ^ i ≤ 128 ^ j
  | i, 0, h => by rw [show i = 0 by omega]; exact Int.le_refl _
  | i, j + 1, h => by
    by_cases e : i = j + 1
    · rw [e]; exact Int.le_refl _
    · have := pow_le_i i j (by omega)
      rw [pow_succ_i]
      have := pow_pos_i j
      omega
theorem pow9 : (128 : Int) ^ 9 = 9223372036854775808 := by decide

/-- Back: what is written is read. -/
theorem dec_grp {at_ : Int} (rest : List Int) : ∀ (m i : Nat) (n : Int), 0 ≤ n → i ≤ 9 → (0 < i → 0 < m) → n + m * 128 ^ i ≤ 18446744073709551615 → dec at_ (grp m ++ rest) i n = (n + m * 128 ^ i, at_ + i + (grp m).length, 0) := by
  intro m
  induction m using Nat.strongRecOn with
  | _ m ih =>
    intro i n h0 hi hp hb
    have hpp := pow_pos_i i
    by_cases h : m < 128
    · rw [grp_small h]
      simp only [List.cons_append, List.nil_append, dec]
      have hm0 : (0 : Int) ≤ m * 128 ^ i := Int.mul_nonneg (by omega) (by omega)
      rw [if_neg (by omega), if_neg, if_neg (by omega), wu64 (x := (m : Int) * 128 ^ i) hm0 (by omega), wu64 (by omega) (by omega)]
      · simp
      · rintro ⟨e9, h1⟩
        rw [e9, pow9] at hb
        omega
    · rw [grp_big h]
      simp only [List.cons_append, dec]
      have hq : ((m % 128 + 128 : Nat) : Int) - 128 = (m % 128 : Nat) := by omega
      have hsplit : (m : Int) * 128 ^ i = ((m % 128 : Nat) : Int) * 128 ^ i + ((m / 128 : Nat) : Int) * 128 ^ (i + 1) := by
        have hm : (m : Int) = ((m % 128 : Nat) : Int) + ((m / 128 : Nat) : Int) * 128 := by omega
        rw [pow_succ_i, Int.mul_comm (128 ^ i) 128, ← Int.mul_assoc, ← Int.add_mul, ← hm]
      have k1 : (0 : Int) ≤ ((m % 128 : Nat) : Int) * 128 ^ i := Int.mul_nonneg (by omega) (by omega)
      have k2 : (0 : Int) ≤ ((m / 128 : Nat) : Int) * 128 ^ (i + 1) := Int.mul_nonneg (by omega) (by have := pow_pos_i (i + 1); omega)
      have hi8 : i + 1 ≤ 9 := by
        by_cases e : i = 9
        · subst e
          exfalso
          have : (128 : Int) * 128 ^ 9 ≤ m * 128 ^ 9 := Int.mul_le_mul_of_nonneg_right (by omega) (by rw [pow9]; omega)
          rw [pow9] at this hb
          omega
        · omega
      rw [if_pos (by omega), hq, wu64 (x := ((m % 128 : Nat) : Int) * 128 ^ i) k1 (by omega), wu64 (x := n + _) (by omega) (by omega)]
      rw [ih (m / 128) (by omega) (i + 1) _ (by omega) hi8 (fun _ => by omega) (by omega)]
      rw [hsplit]
      refine Prod.ext (by omega) (Prod.ext ?_ rfl)
      simp only [List.length_cons]
      omega
/-- Prefixes: the bytes of a number without the last ones are too short. -/
theorem dec_prefix {at_ : Int} : ∀ (m cut i : Nat) (n : Int), cut < (grp m).length → i + (grp m).length ≤ 10 → dec at_ ((grp m).take cut) i n = (0, 0, 2) := by
  intro m
  induction m using Nat.strongRecOn with
  | _ m ih =>
    intro cut i n hc hl
    by_cases h : m < 128
    · rw [grp_small h] at hc ⊢
      have : cut = 0 := by simpa using hc
      subst this
      simp only [List.take_zero, dec]
      rw [grp_small h] at hl
      rw [if_neg (by simp at hl; omega)]
    · rw [grp_big h] at hc hl ⊢
      simp only [List.length_cons] at hc hl
      cases cut with
      | zero => simp only [List.take_zero, dec]; rw [if_neg (by omega)]
      | succ cut =>
        simp only [List.take_succ_cons, dec]
        rw [if_pos (by omega)]
        exact ih (m / 128) (by omega) cut (i + 1) _ (by omega) (by omega)
/-- One form: what is read was written for the number. -/
theorem dec_form {at_ : Int} : ∀ (l : List Int) (i : Nat) (n : Int), Byts l → 0 ≤ n → n < 128 ^ i → i + l.length ≤ 10 → (dec at_ l i n).2.2 = 0 →
    ∃ (m : Nat) (l' : List Int), (dec at_ l i n).1 = n + m * 128 ^ i ∧ l = grp m ++ l' ∧ (dec at_ l i n).2.1 = at_ + i + (grp m).length ∧ (0 < i → 0 < m)
  | [], i, n, _, _, _, _, h => by
    unfold dec at h
    split at h <;> simp at h
  | c :: l, i, n, hb, h0, hn, hl, h => by
    have hc := hb c (by simp)
    have hpp := pow_pos_i i
    simp only [List.length_cons] at hl
    unfold dec at h ⊢
    by_cases c1 : c ≥ 128
    · rw [if_pos c1] at h ⊢
      have hne : l ≠ [] := by
        rintro rfl
        unfold dec at h
        split at h <;> simp at h
      have hi : i ≤ 8 := by
        cases l with
        | nil => exact absurd rfl hne
        | cons _ _ => simp at hl; omega
      have p8 := pow_le_i (i + 1) 9 (by omega)
      rw [pow9] at p8
      have hs := pow_succ_i i
      have e1 : (c - 128) * 128 ^ i ≤ 127 * 128 ^ i := Int.mul_le_mul_of_nonneg_right (by omega) (by omega)
      have e0 : 0 ≤ (c - 128) * 128 ^ i := Int.mul_nonneg (by omega) (by omega)
      rw [wu64 (x := (c - 128) * 128 ^ i) e0 (by omega), wu64 (x := n + _) (by omega) (by omega)] at h ⊢
      obtain ⟨m, l', q1, q2, q3, q4⟩ := dec_form l (i + 1) _ hb.tail (by omega) (by omega) (by omega) h
      have hm := q4 (by omega)
      refine ⟨(c - 128).toNat + 128 * m, l', ?_, ?_, ?_, fun _ => by omega⟩
      · rw [q1, hs]
        have : (((c - 128).toNat + 128 * m : Nat) : Int) * 128 ^ i = (c - 128) * 128 ^ i + m * (128 ^ i * 128) := by
          rw [Int.mul_comm (128 ^ i) 128, ← Int.mul_assoc, ← Int.add_mul]
          congr 1
          omega
        rw [this]
        omega
      · rw [grp_big (by omega), show ((c - 128).toNat + 128 * m) / 128 = m by omega, q2]
        simp only [List.cons_append]
        congr 1
        omega
      · rw [grp_big (by omega), show ((c - 128).toNat + 128 * m) / 128 = m by omega, q3]
        simp only [List.length_cons]
        omega
    · rw [if_neg c1] at h ⊢
      by_cases c2 : i = 9 ∧ c > 1
      · rw [if_pos c2] at h; simp at h
      · rw [if_neg c2] at h ⊢
        by_cases c3 : 0 < i ∧ c = 0
        · rw [if_pos c3] at h; simp at h
        · rw [if_neg c3] at h ⊢
          have e0 : 0 ≤ c * 128 ^ i := Int.mul_nonneg (by omega) (by omega)
          have e2 : n + c * 128 ^ i ≤ 18446744073709551615 := by
            by_cases e : i = 9
            · subst e
              rw [pow9] at hn ⊢
              omega
            · have p8 := pow_le_i (i + 1) 9 (by omega)
              rw [pow9, pow_succ_i] at p8
              have : c * 128 ^ i ≤ 127 * 128 ^ i := Int.mul_le_mul_of_nonneg_right (by omega) (by omega)
              omega
          rw [wu64 (x := c * 128 ^ i) e0 (by omega), wu64 (x := n + _) (by omega) (by omega)]
          refine ⟨c.toNat, l, ?_, ?_, ?_, fun _ => by omega⟩
          · rw [show ((c.toNat : Nat) : Int) = c by omega]
          · rw [grp_small (by omega), show ((c.toNat : Nat) : Int) = c by omega]; rfl
          · rw [grp_small (by omega)]; simp
theorem uintS_back {pre rest : List Int} {n : Nat} (hn : n < 18446744073709551616) : uintS (pre ++ (grp n ++ rest)) pre.length = ((n : Int), (pre.length : Int) + (grp n).length, 0) := by
  unfold uintS
  rw [if_neg (by simp; omega), Int.toNat_natCast, List.drop_left]
  have h10 := grp_le10 hn
  rw [List.take_append, List.take_of_length_le h10]
  rw [dec_grp _ n 0 0 (by omega) (by omega) (by omega) (by simp; omega)]
  simp
theorem uintS_form {b : List Int} {at_ : Int} (hb : Byts b) (h : (uintS b at_).2.2 = 0) : ∃ m : Nat, (uintS b at_).1 = m ∧ (b.take (uintS b at_).2.1.toNat).drop at_.toNat = grp m ∧ (uintS b at_).2.1 = at_ + (grp m).length := by
  have hu := uintS_b b at_
  have hr := hu.2.2.1 h
  have e : uintS b at_ = dec at_ ((b.drop at_.toNat).take 10) 0 0 := by unfold uintS; rw [if_neg (by omega)]
  rw [e] at h hr ⊢
  obtain ⟨m, l', q1, q2, q3, _⟩ := dec_form ((b.drop at_.toNat).take 10) 0 0 ((hb.drop _).take _) (by omega) (by simp) (by rw [List.length_take]; omega) h
  refine ⟨m, by rw [q1]; simp, ?_, by rw [q3]; simp⟩
  have hlen : (grp m).length ≤ 10 := by
    have := congrArg List.length q2
    rw [List.length_take, List.length_append] at this
    omega
  have hpre : (b.drop at_.toNat).take (grp m).length = grp m := by
    have := congrArg (List.take (grp m).length) q2
    rw [List.take_take, Nat.min_eq_left hlen, List.take_left] at this
    exact this
  rw [List.drop_take, q3]
  rw [show (at_ + (0 : Nat) + ((grp m).length : Int)).toNat - at_.toNat = (grp m).length by omega]
  exact hpre
end Go.Proofs.Ytdgolbknbohoeaa.P
