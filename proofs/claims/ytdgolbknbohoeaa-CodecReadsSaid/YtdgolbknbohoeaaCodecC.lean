/- What the functions of layer 2 (codec) compute, in plain lists. -/
import Derived.Test.YtdgolbknbohoeaaPx1
import Derived.Test.YtdgolbknbohoeaaPx2
import Derived.Test.YtdgolbknbohoeaaPx4
import Derived.Test.YtdgolbknbohoeaaPx8
import Derived.Test.YtdgolbknbohoeaaCodecP
namespace Go.Proofs.Ytdgolbknbohoeaa.P
open Go.RowKit Go.Proofs.YtdgolbknbohoeaaW.PrintWords Go.Proofs.YtdgolbknbohoeaaW.PrintMore Go.Proofs.YtdgolbknbohoeaaW.PureKit
set_option linter.unusedVariables false
set_option linter.unusedSimpArgs false

theorem two_pow7 (i : Nat) : (2 : Int) ^ (7 * i) = 128 ^ i := by rw [Int.pow_mul]; rfl
theorem shl7 (x : Int) {i : Int} (h0 : 0 ≤ i) (h1 : i ≤ 9) : shl .u64 x (wrap64 (7 * i)) = IntKind.u64.wrap (x * 128 ^ i.toNat) := by
  rw [w64 (by omega) (by omega)]
  unfold shl
  rw [Nat.min_eq_left (by have : IntKind.u64.bits = 64 := rfl; omega), show (7 * i).toNat = 7 * i.toNat by omega, two_pow7]
theorem dec_step_last {at_ c n : Int} {l : List Int} {i : Nat} : dec at_ (c :: l) i n = if c ≥ 128 then dec at_ l (i + 1) (IntKind.u64.wrap (n + IntKind.u64.wrap ((c - 128) * 128 ^ i))) else if i = 9 ∧ c > 1 then (0, 0, 6) else if 0 < i ∧ c = 0 then (0, 0, 1) else (IntKind.u64.wrap (n + IntKind.u64.wrap (c * 128 ^ i)), at_ + i + 1, 0) := rfl
theorem Uint_l0 {at_ : Int} {y : List Int} (hb : Byts y) (hl : y.length ≤ 10) (ha0 : 0 ≤ at_) (ha : at_ ≤ 4611686018427387904) : ∀ (d : Nat) (n i : Int), 0 ≤ i → i + d = y.length → Ev (fun k => codec_Uint.l0 k at_ y n y y.length i) (dec at_ (y.drop i.toNat) i.toNat n) := by
  intro d
  induction d with
  | zero =>
    intro n i h0 h1
    rw [List.drop_of_length_le (by omega)]
    refine Ev.shift 1 ⟨0, fun k _ => ?_⟩
    simp only [codec_Uint.l0, dec]
    rw [if_neg (by omega)]
    by_cases e : i.toNat = 10
    · rw [if_pos e, if_pos (by omega)]
    · rw [if_neg e, if_neg (by omega)]
  | succ d ih =>
    intro n i h0 h1
    have hr := hb (rd y i) (by rw [rd_get h0 (by omega)]; exact List.getElem_mem _)
    rw [drop_rd h0 (by omega), dec_step_last]
    by_cases c1 : rd y i ≥ 128
    · rw [if_pos c1]
      obtain ⟨K, h⟩ := ih (IntKind.u64.wrap (n + shl .u64 ((rd y i - 128) % 256) (wrap64 (7 * i)))) (i + 1) (by omega) (by omega)
      refine Ev.shift 1 ⟨K, fun k hk => ?_⟩
      simp only [codec_Uint.l0]
      have h9 := w64 (x := 7 * i) (by omega) (by omega)
      rw [if_pos (by omega), if_pos h0, if_pos (by omega), if_pos c1, if_pos (by rw [h9]; omega), w64 (x := i + 1) (by omega) (by omega)]
      have hh := h k hk
      simp only at hh
      rw [hh, shl7 _ h0 (by omega), show (rd y i - 128) % 256 = rd y i - 128 by omega, show (i + 1).toNat = i.toNat + 1 by omega]
    · rw [if_neg c1]
      refine Ev.shift 2 ⟨0, fun k _ => ?_⟩
      have h9 := w64 (x := 7 * i) (by omega) (by omega)
      have hs := shl7 (IntKind.u64.wrap (rd y i)) h0 (show i ≤ 9 by omega)
      simp only [codec_Uint.l0, codec_Uint.j2]
      rw [if_pos (by omega), if_pos h0, if_pos (by omega), if_neg c1, hs, h9, if_pos (show 0 ≤ 7 * i by omega), wu64 (x := rd y i) (by omega) (by omega), w64 (x := at_ + i) (by omega) (by omega), w64 (x := at_ + i + 1) (by omega) (by omega)]
      have hfin : (if i > 0 then if rd y i = 0 then some ((0 : Int), (0 : Int), (1 : Int)) else some (IntKind.u64.wrap (n + IntKind.u64.wrap (rd y i * 128 ^ i.toNat)), at_ + i + 1, 0) else some (IntKind.u64.wrap (n + IntKind.u64.wrap (rd y i * 128 ^ i.toNat)), at_ + i + 1, 0)) = some (if 0 < i.toNat ∧ rd y i = 0 then (0, 0, 1) else (IntKind.u64.wrap (n + IntKind.u64.wrap (rd y i * 128 ^ i.toNat)), at_ + i.toNat + 1, 0)) := by
        rw [show ((i.toNat : Nat) : Int) = i by omega]
        by_cases e1 : i > 0
        · rw [if_pos e1]
          by_cases e2 : rd y i = 0
          · rw [if_pos e2, if_pos ⟨by omega, e2⟩]
          · rw [if_neg e2, if_neg (fun h => e2 h.2)]
        · rw [if_neg e1, if_neg (by omega)]
      by_cases c2 : i = 9
      · rw [if_pos c2]
        by_cases c3 : rd y i > 1
        · rw [if_pos (by simpa using c3), if_pos (show i.toNat = 9 ∧ rd y i > 1 from ⟨by omega, c3⟩)]
        · rw [if_neg (by simpa using c3), if_neg (show ¬ (i.toNat = 9 ∧ rd y i > 1) from fun h => c3 h.2)]
          exact hfin
      · rw [if_neg c2, if_neg (show ¬ (i.toNat = 9 ∧ rd y i > 1) by omega)]
        simp only [Bool.false_eq_true, if_false]
        exact hfin
theorem take_drop10 (b : List Int) (a : Nat) (h : a ≤ b.length) : (b.take (min (a + 10) b.length)).drop a = (b.drop a).take 10 := by
  rw [List.drop_take]
  by_cases c : a + 10 ≤ b.length
  · rw [Nat.min_eq_left c, Nat.add_sub_cancel_left]
  · rw [Nat.min_eq_right (by omega), List.take_of_length_le (by simp), List.take_of_length_le (by simp; omega)]
theorem Uint_ev {b : List Int} {a : Int} (hb : Byts b) (hl : (b.length : Int) ≤ 4611686018427387000) : Ev (fun k => codec_Uint.f k b a) (uintS b a) := by
  by_cases c : a < 0 ∨ a > b.length
  · unfold uintS
    rw [if_pos c]
    refine Ev.shift 1 ⟨0, fun k _ => ?_⟩
    simp only [codec_Uint.f, codec_Uint.j0]
    by_cases c1 : a < 0
    · rw [if_pos c1, if_pos trivial]
    · rw [if_neg c1, if_pos (by simp; omega)]
  · have hmin : (min (a.toNat + 10) b.length : Nat) = (mn (wrap64 (a + 10)) (b.length : Int)).toNat := by rw [w64 (by omega) (by omega), mn_eq]; omega
    have hy : (b.take (mn (wrap64 (a + 10)) (b.length : Int)).toNat).drop a.toNat = (b.drop a.toNat).take 10 := by rw [← hmin]; exact take_drop10 b a.toNat (by omega)
    have hyl : ((b.drop a.toNat).take 10).length ≤ 10 := by rw [List.length_take]; omega
    obtain ⟨K, h⟩ := Uint_l0 (at_ := a) ((hb.drop a.toNat).take 10) hyl (by omega) (by omega) ((b.drop a.toNat).take 10).length 0 0 (by omega) (by omega)
    unfold uintS
    rw [if_neg c]
    refine Ev.shift 1 ⟨K, fun k hk => ?_⟩
    simp only [codec_Uint.f, codec_Uint.j0]
    have hmn : mn (wrap64 (a + 10)) (b.length : Int) = min (a + 10) b.length := by rw [w64 (by omega) (by omega), mn_eq]
    rw [if_neg (by omega), if_neg (by simp; omega), if_pos (by omega), if_pos (by rw [hmn]; omega), if_pos (by rw [hmn]; omega)]
    simp only [Option.bind_some]
    rw [hy]
    exact h k hk

/-- What Int returns. -/
def intS (b : List Int) (a : Int) : Int × Int × Int := if (uintS b a).2.2 = 0 then (if (uintS b a).1 % 2 = 1 then (-((uintS b a).1 / 2) - 1, (uintS b a).2.1, 0) else ((uintS b a).1 / 2, (uintS b a).2.1, 0)) else (0, 0, (uintS b a).2.2)
theorem Int_ev {b : List Int} {a : Int} (hb : Byts b) (hl : (b.length : Int) ≤ 4611686018427387000) : Ev (fun k => codec_Int.f k b a) (intS b a) := by
  obtain ⟨K, h⟩ := Uint_ev (a := a) hb hl
  have hu := uintS_b b a
  refine ⟨K, fun k hk => ?_⟩
  simp only [codec_Int.f, h k hk, Option.bind_some, intS]
  by_cases c : (uintS b a).2.2 = 0
  · rw [if_pos c, if_pos c, tmod_nn hu.1, tdiv_nn hu.1, wu64 (x := (uintS b a).1 / 2) (by omega) (by omega), w64 (x := (uintS b a).1 / 2) (by omega) (by omega), w64 (x := -((uintS b a).1 / 2)) (by omega) (by omega), w64 (x := -((uintS b a).1 / 2) - 1) (by omega) (by omega)]
    split <;> rfl
  · rw [if_neg c, if_neg c]
/-- What Text returns. -/
def textS (b : List Int) (a most : Int) : ByteArray × Int × Int := if (uintS b a).2.2 = 0 then (if most < 0 ∨ (uintS b a).1 > most then (⟨#[]⟩, 0, 6) else if (uintS b a).1 > b.length - (uintS b a).2.1 then (⟨#[]⟩, 0, 2) else (strOfNums ((b.take ((uintS b a).2.1 + (uintS b a).1).toNat).drop (uintS b a).2.1.toNat), (uintS b a).2.1 + (uintS b a).1, 0)) else (⟨#[]⟩, 0, (uintS b a).2.2)
theorem Text_ev {b : List Int} {a most : Int} (hb : Byts b) (hl : (b.length : Int) ≤ 4611686018427387000) (hm : most ≤ 9223372036854775807) : Ev (fun k => codec_Text.f k b a most) (textS b a most) := by
  obtain ⟨K, h⟩ := Uint_ev (a := a) hb hl
  have hu := uintS_b b a
  refine Ev.shift 1 ⟨K, fun k hk => ?_⟩
  simp only [codec_Text.f, codec_Text.j0, h (k + 1) (by omega), Option.bind_some, textS, if_true]
  by_cases c : (uintS b a).2.2 = 0
  · have hr := hu.2.2.1 c
    rw [if_pos c, if_pos c]
    by_cases c1 : most < 0
    · rw [if_pos c1, if_pos (.inl c1)]
    · rw [if_neg c1, wu64 (x := most) (by omega) (by omega)]
      by_cases c2 : (uintS b a).1 > most
      · rw [if_pos (by simpa using c2), if_pos (.inr c2)]
      · rw [if_neg (by simpa using c2), if_neg (show ¬ (most < 0 ∨ (uintS b a).1 > most) by omega), w64 (x := (b.length : Int) - (uintS b a).2.1) (by omega) (by omega), wu64 (x := (b.length : Int) - (uintS b a).2.1) (by omega) (by omega)]
        by_cases c3 : (uintS b a).1 > b.length - (uintS b a).2.1
        · rw [if_pos c3, if_pos c3]
        · rw [if_neg c3, if_neg c3, w64 (x := (uintS b a).1) (by omega) (by omega), w64 (x := (uintS b a).2.1 + (uintS b a).1) (by omega) (by omega), if_pos (by omega), if_pos (by omega), if_pos (by omega)]
  · rw [if_neg c, if_neg c]
/-- What Bool returns. -/
def boolS (b : List Int) (a : Int) : Bool × Int × Int := if a < 0 ∨ a > b.length then (false, 0, 7) else if a = b.length then (false, 0, 2) else if rd b a > 1 then (false, 0, 1) else (rd b a == 1, a + 1, 0)
theorem Bool_ev {b : List Int} {a : Int} (hl : (b.length : Int) ≤ 4611686018427387000) : Ev (fun k => codec_Bool.f k b a) (boolS b a) := by
  refine Ev.shift 1 ⟨0, fun k hk => ?_⟩
  simp only [codec_Bool.f, codec_Bool.j0, boolS, if_true]
  by_cases c1 : a < 0
  · rw [if_pos c1, if_pos (.inl c1)]
  · rw [if_neg c1]
    by_cases c2 : a > b.length
    · rw [if_pos (by simpa using c2), if_pos (.inr c2)]
    · rw [if_neg (by simpa using c2), if_neg (show ¬ (a < 0 ∨ a > b.length) by omega)]
      by_cases c3 : a = b.length
      · rw [if_pos c3, if_pos c3]
      · rw [if_neg c3, if_neg c3, if_pos (by omega), if_pos (by omega), w64 (by omega) (by omega)]
        split <;> rfl

theorem groups_l0 : ∀ (n : Nat) (acc : List Int), n < 18446744073709551616 → acc.length + (grp n).length ≤ 140737488355328 → Ev (fun k => codec_groups.l0 k n acc) (acc ++ grp n) := by
  intro n
  induction n using Nat.strongRecOn with
  | _ n ih =>
    intro acc hn hl
    have hp := grp_pos n
    by_cases h : n < 128
    · rw [grp_small h] at hl ⊢
      refine Ev.shift 1 ⟨0, fun k _ => ?_⟩
      simp only [codec_groups.l0]
      simp at hl
      rw [if_neg (by omega), if_pos (by omega), show ((n : Int)) % 256 = n by omega]
    · rw [grp_big h] at hl ⊢
      simp only [List.length_cons] at hl
      obtain ⟨K, hK⟩ := ih (n / 128) (by omega) (acc ++ [((n % 128 + 128 : Nat) : Int)]) (by omega) (by simp; omega)
      refine Ev.shift 1 ⟨K, fun k hk => ?_⟩
      simp only [codec_groups.l0]
      rw [if_pos (by omega), if_pos (by omega), tdiv_nn (by omega), tmod_nn (by omega), wu64 (by omega) (by omega)]
      have := hK k hk
      simp only [List.append_assoc, List.cons_append, List.nil_append] at this
      rw [show ((n : Int) % 128 + 128) % 256 = ((n % 128 + 128 : Nat) : Int) by omega, show ((n : Int) / 128) = ((n / 128 : Nat) : Int) by omega]
      exact this
theorem groups_ev {n : Int} (h0 : 0 ≤ n) (h1 : n ≤ 18446744073709551615) : Ev (fun k => codec_groups.f k n) (grp n.toNat) := by
  have h10 := grp_le10 (n := n.toNat) (by omega)
  obtain ⟨K, h⟩ := groups_l0 n.toNat [] (by omega) (by simp; omega)
  refine ⟨K, fun k hk => ?_⟩
  have := h k hk
  simp only [codec_groups.f]
  rw [show ((n.toNat : Nat) : Int) = n by omega] at this
  simpa using this
theorem put_l0 (ps : List (List Int)) (hp : (ps.length : Int) ≤ 1000) : ∀ (d : Nat) (i : Int) (x : List Int), 0 ≤ i → i + d = ps.length → x.length + ((ps.drop i.toNat).flatten).length < 140737488355328 → Ev (fun k => codec_put_byte.l0 k x ps ps.length i) (x ++ (ps.drop i.toNat).flatten) := by
  intro d
  induction d with
  | zero =>
    intro i x h0 h1 _
    rw [List.drop_of_length_le (by omega)]
    refine Ev.shift 1 ⟨0, fun k _ => ?_⟩
    simp only [codec_put_byte.l0]
    rw [if_neg (by omega)]; simp
  | succ d ih =>
    intro i x h0 h1 hl
    have hrd : rd_L1 ps i = ps[i.toNat]'(by omega) := by
      unfold rd_L1
      rw [List.getD_eq_getElem?_getD, List.getElem?_eq_getElem (by omega)]; rfl
    have hd : ps.drop i.toNat = rd_L1 ps i :: ps.drop (i + 1).toNat := by
      rw [hrd, List.drop_eq_getElem_cons (by omega)]
      congr 2
      omega
    rw [hd, List.flatten_cons] at hl ⊢
    rw [List.length_append] at hl
    obtain ⟨K, h⟩ := ih (i + 1) (x ++ rd_L1 ps i) (by omega) (by omega) (by rw [List.length_append]; omega)
    refine Ev.shift 1 ⟨K, fun k hk => ?_⟩
    simp only [codec_put_byte.l0]
    rw [if_pos (by omega), if_pos h0, if_pos (by omega), if_pos (by omega), w64 (by omega) (by omega)]
    have := h k hk
    rw [List.append_assoc] at this
    exact this
theorem put_ev {b : List Int} {ps : List (List Int)} (hp : (ps.length : Int) ≤ 1000) (hl : b.length + ps.flatten.length < 140737488355328) : Ev (fun k => codec_put_byte.f k b ps) (b ++ ps.flatten) := by
  obtain ⟨K, h⟩ := put_l0 ps hp ps.length 0 b (by omega) (by omega) (by simpa using hl)
  refine ⟨K, fun k hk => ?_⟩
  simp only [codec_put_byte.f, Option.bind_some]
  rw [if_pos (by simp; omega)]
  simpa using h k hk
/-- What PutUint returns. -/
theorem PutUint_ev {b : List Int} {n : Int} (h0 : 0 ≤ n) (h1 : n ≤ 18446744073709551615) (hl : b.length ≤ 140737488355300) : Ev (fun k => codec_PutUint.f k b n) (b ++ grp n.toNat) := by
  have h10 := grp_le10 (n := n.toNat) (by omega)
  obtain ⟨K, h⟩ := groups_ev h0 h1
  obtain ⟨K2, h2⟩ := put_ev (b := b) (ps := [grp n.toNat]) (by simp) (by simp; omega)
  refine ⟨K + K2, fun k hk => ?_⟩
  simp only [codec_PutUint.f, h k (by omega), h2 k (by omega), Option.bind_some]
  simp
/-- The code of an int. -/
def codeN (n : Int) : Int := if n < 0 then -2 * n - 1 else 2 * n
theorem code_eq {n : Int} (h1 : -9223372036854775808 ≤ n) (h2 : n ≤ 9223372036854775807) : codec_code.f n = some (codeN n) := by
  unfold codec_code.f codeN
  by_cases c : n < 0
  · rw [if_pos c, if_pos c, w64 (x := n + 1) (by omega) (by omega), w64 (x := -(n + 1)) (by omega) (by omega), wu64 (x := -(n + 1)) (by omega) (by omega), wu64 (x := 2 * -(n + 1)) (by omega) (by omega), wu64 (by omega) (by omega)]
    congr 1; omega
  · rw [if_neg c, if_neg c, wu64 (x := n) (by omega) (by omega), wu64 (by omega) (by omega)]
theorem codeN_b {n : Int} (h1 : -9223372036854775808 ≤ n) (h2 : n ≤ 9223372036854775807) : 0 ≤ codeN n ∧ codeN n ≤ 18446744073709551615 := by unfold codeN; split <;> omega
theorem PutInt_ev {b : List Int} {n : Int} (h1 : -9223372036854775808 ≤ n) (h2 : n ≤ 9223372036854775807) (hl : b.length ≤ 140737488355300) : Ev (fun k => codec_PutInt.f k b n) (b ++ grp (codeN n).toNat) := by
  have hc := codeN_b h1 h2
  have h10 := grp_le10 (n := (codeN n).toNat) (by omega)
  obtain ⟨K, h⟩ := groups_ev hc.1 hc.2
  obtain ⟨K2, h2'⟩ := put_ev (b := b) (ps := [grp (codeN n).toNat]) (by simp) (by simp; omega)
  refine ⟨K + K2, fun k hk => ?_⟩
  simp only [codec_PutInt.f, code_eq h1 h2, h k (by omega), h2' k (by omega), Option.bind_some]
  simp
theorem PutText_ev {b : List Int} {s : ByteArray} (hs : s.size ≤ 140737488300000) (hl : b.length + s.size ≤ 140737488355300) : Ev (fun k => codec_PutText.f k b s) (b ++ (grp s.size ++ bytesOf s)) := by
  have h10 := grp_le10 (n := s.size) (by omega)
  have hw := wu64 (x := (s.size : Int)) (by omega) (by omega)
  obtain ⟨K, h⟩ := groups_ev (n := (s.size : Int)) (by omega) (by omega)
  rw [Int.toNat_natCast] at h
  obtain ⟨K2, h2'⟩ := put_ev (b := b) (ps := [grp s.size, bytesOf s]) (by simp) (by simp [bytesOf_length]; omega)
  refine ⟨K + K2, fun k hk => ?_⟩
  simp only [codec_PutText.f, hw, h k (by omega), h2' k (by omega), Option.bind_some]
  rw [if_pos (by omega)]
  simp
theorem PutBool_ev {b : List Int} {v : Bool} (hl : b.length ≤ 140737488355300) : Ev (fun k => codec_PutBool.f k b v) (b ++ [if v = true then 1 else 0]) := by
  obtain ⟨K, h⟩ := put_ev (b := b) (ps := [[1]]) (by simp) (by simp; omega)
  obtain ⟨K2, h2⟩ := put_ev (b := b) (ps := [[0]]) (by simp) (by simp; omega)
  refine ⟨K + K2, fun k hk => ?_⟩
  simp only [codec_PutBool.f, h k (by omega), h2 k (by omega), Option.bind_some]
  cases v <;> simp
end Go.Proofs.Ytdgolbknbohoeaa.P
