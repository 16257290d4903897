/- Reading back what was put, and the prefixes of what was put. -/
import Derived.Test.YtdgolbknbohoeaaPx11
import Derived.Test.YtdgolbknbohoeaaPx6
import Derived.Test.YtdgolbknbohoeaaCodecL
import Derived.Test.YtdgolbknbohoeaaCodecR
namespace Go.Proofs.Ytdgolbknbohoeaa.P
open Go.RowKit Go.Proofs.YtdgolbknbohoeaaW.PrintWords Go.Proofs.YtdgolbknbohoeaaW.PrintMore Go.Proofs.YtdgolbknbohoeaaW.PureKit Go.Proofs.YtdgolbknbohoeaaW.OpenKd
set_option linter.unusedVariables false
set_option linter.unusedSimpArgs false

theorem define_ev {b : List Int} {x : S29} (h : Small x) (hl : b.length ≤ 100000000) : Ev (fun k => tapearchivelaw02_define.f k b x.f0 x.f1 x.f2 x.f3 x.f4) (b ++ encV x) := by
  obtain ⟨⟨h0, h1, h2, h3, _⟩, hs⟩ := h
  have hu := h1.u64; have hn := h2.i64
  unfold encV
  by_cases c0 : x.f0 = 0
  · obtain ⟨K, e⟩ := rPutUint_ev (b := b) (n := x.f1) (by omega) (by omega) (by omega)
    refine ⟨K, fun k hk => ?_⟩
    simp only [tapearchivelaw02_define.f, if_pos c0, e k hk, Option.bind_some]
  · by_cases c1 : x.f0 = 1
    · obtain ⟨K, e⟩ := rPutInt_ev (b := b) hn.1 hn.2 (by omega)
      refine ⟨K, fun k hk => ?_⟩
      simp only [tapearchivelaw02_define.f, if_neg c0, if_pos c1, e k hk, Option.bind_some]
    · by_cases c2 : x.f0 = 2
      · obtain ⟨K, e⟩ := rPutText_ev (b := b) (s := x.f3) (by omega) (by omega)
        refine ⟨K, fun k hk => ?_⟩
        simp only [tapearchivelaw02_define.f, if_neg c0, if_neg c1, if_pos c2, e k hk, Option.bind_some]
      · refine ⟨0, fun k hk => ?_⟩
        simp only [tapearchivelaw02_define.f, if_neg c0, if_neg c1, if_neg c2, rPutBool_eq (b := b) (v := x.f4) (by omega), Option.bind_some]
theorem codeN_even {n : Int} (h : codeN n % 2 = 1) : -(codeN n / 2) - 1 = n := by unfold codeN at *; split at * <;> omega
theorem codeN_odd {n : Int} (h : ¬ codeN n % 2 = 1) : codeN n / 2 = n := by unfold codeN at *; split at * <;> omega
theorem mid_eq (a b c : List Int) {i j : Nat} (hi : i = a.length) (hj : j = a.length + b.length) : (((a ++ (b ++ c)).take j).drop i) = b := by
  subst hi hj
  rw [← List.append_assoc, List.take_left' (by simp), List.drop_left' rfl]
theorem bool_back (v : Bool) : ((if v = true then (1 : Int) else 0) == 1) = v := by cases v <;> rfl
theorem rd_mid (a b : List Int) (x : Int) : rd (a ++ x :: b) a.length = x := by
  rw [rd_get (by omega) (by rw [List.length_append, List.length_cons]; omega)]
  simp
theorem read_ev {pre rest : List Int} {x : S29} (h : Small x) (hb : Byts (pre ++ (encV x ++ rest))) (hl : ((pre ++ (encV x ++ rest)).length : Int) ≤ 4611686018427387000) :
    Ev (fun k => tapearchivelaw02_read.f k (pre ++ (encV x ++ rest)) pre.length x.f0 x.f1 x.f2 x.f3 x.f4) ((pre.length : Int) + (encV x).length, true) := by
  have hx := h
  obtain ⟨⟨h0, h1, h2, h3, _⟩, hs⟩ := h
  have hu := h1.u64; have hn := h2.i64
  unfold encV at *
  by_cases c0 : x.f0 = 0
  · simp only [if_pos c0] at *
    obtain ⟨K, e⟩ := Uint_ev (a := pre.length) hb hl
    rw [uintS_back (by omega)] at e
    refine ⟨K, fun k hk => ?_⟩
    simp only [tapearchivelaw02_read.f, if_pos c0, e k hk, Option.bind_some, if_true]
    rw [Int.toNat_of_nonneg hu.1, beq_self_eq_true]
  · by_cases c1 : x.f0 = 1
    · simp only [if_neg c0, if_pos c1] at *
      have hc := codeN_b hn.1 hn.2
      obtain ⟨K, e⟩ := Int_ev (a := pre.length) hb hl
      unfold intS at e
      rw [uintS_back (by omega)] at e
      refine ⟨K, fun k hk => ?_⟩
      have he := e k hk
      simp only [if_true, Int.toNat_of_nonneg hc.1] at he
      simp only [tapearchivelaw02_read.f, if_neg c0, if_pos c1, he, Option.bind_some]
      by_cases c : codeN x.f2 % 2 = 1
      · simp only [if_pos c, if_true, codeN_even c, beq_self_eq_true]
      · simp only [if_neg c, if_true, codeN_odd c, beq_self_eq_true]
    · by_cases c2 : x.f0 = 2
      · simp only [if_neg c0, if_neg c1, if_pos c2] at *
        obtain ⟨K, e⟩ := Text_ev (a := pre.length) (most := x.f3.size) hb hl (by omega)
        have ee : pre ++ (grp x.f3.size ++ bytesOf x.f3 ++ rest) = pre ++ (grp x.f3.size ++ (bytesOf x.f3 ++ rest)) := by simp only [List.append_assoc]
        rw [ee] at e ⊢
        unfold textS at e
        rw [uintS_back (by omega)] at e
        have el : ((pre ++ (grp x.f3.size ++ (bytesOf x.f3 ++ rest))).length : Int) = pre.length + (grp x.f3.size).length + x.f3.size + rest.length := by
          simp only [List.length_append, bytesOf_length]; omega
        refine ⟨K, fun k hk => ?_⟩
        have he := e k hk
        simp only [if_true, if_neg (show ¬ ((x.f3.size : Int) < 0 ∨ (x.f3.size : Int) > x.f3.size) by omega)] at he
        rw [if_neg (by rw [el]; omega), ← List.append_assoc, mid_eq _ _ _ (by rw [List.length_append]; omega) (by rw [List.length_append, bytesOf_length]; omega), List.append_assoc] at he
        simp only [tapearchivelaw02_read.f, if_neg c0, if_neg c1, if_pos c2, he, Option.bind_some, if_true, str_bytes, beq_self_eq_true]
        rw [List.length_append, bytesOf_length]
        simp only [Option.some.injEq, Prod.mk.injEq, and_true]
        omega
      · simp only [if_neg c0, if_neg c1, if_neg c2] at *
        have hv : 0 ≤ (if x.f4 = true then (1 : Int) else 0) ∧ (if x.f4 = true then (1 : Int) else 0) ≤ 1 := by split <;> omega
        have hw := bool_back x.f4
        generalize (if x.f4 = true then (1 : Int) else 0) = cc at *
        rw [List.singleton_append] at *
        obtain ⟨K, e⟩ := Bool_ev (a := pre.length) hl
        unfold boolS at e
        have el : (pre ++ (cc :: rest)).length = pre.length + (rest.length + 1) := by simp only [List.length_append, List.length_cons]
        rw [el, if_neg (by omega), if_neg (by omega), rd_mid, if_neg (by omega), hw] at e
        refine ⟨K, fun k hk => ?_⟩
        simp only [tapearchivelaw02_read.f, if_neg c0, if_neg c1, if_neg c2, e k hk, Option.bind_some, if_true, beq_self_eq_true]
        rfl
/-- The bytes of values, one after another. -/
def encL (l : List S29) : List Int := (l.map encV).flatten
theorem encL_nil : encL [] = [] := rfl
theorem encL_cons (x : S29) (l : List S29) : encL (x :: l) = encV x ++ encL l := rfl
theorem encL_byts (l : List S29) : Byts (encL l) := by
  induction l with
  | nil => intro x hx; cases hx
  | cons a l ih => rw [encL_cons]; exact (encV_byts a).append ih
theorem encL_len : ∀ l : List S29, (∀ x, x ∈ l → Small x) → (encL l).length ≤ 4106 * l.length
  | [], _ => by simp [encL_nil]
  | a :: l, h => by
    rw [encL_cons, List.length_append, List.length_cons]
    have := encL_len l (fun x hx => h x (List.mem_cons_of_mem _ hx))
    have := (encV_len (h a List.mem_cons_self)).2
    omega
theorem grp_cut {n cut : Nat} {rest : List Int} (hn : n < 18446744073709551616) (hc : cut < (grp n).length) : uintS ((grp n ++ rest).take cut) 0 = (0, 0, 2) := by
  have h10 := grp_le10 hn
  unfold uintS
  rw [if_neg (by omega), Int.toNat_zero, List.drop_zero, List.take_take, Nat.min_eq_right (by omega), List.take_append_of_le_length (by omega)]
  exact dec_prefix n cut 0 0 hc (by omega)
end Go.Proofs.Ytdgolbknbohoeaa.P
