/- What the functions of the reference of layer 2 compute: the same as those of the program. -/
import Derived.Test.YtdgolbknbohoeaaPx5
import Derived.Test.YtdgolbknbohoeaaPx6
import Derived.Test.YtdgolbknbohoeaaPx8
import Derived.Test.YtdgolbknbohoeaaPx9
import Derived.Test.YtdgolbknbohoeaaCodecC
namespace Go.Proofs.Ytdgolbknbohoeaa.P
open Go.RowKit Go.Proofs.YtdgolbknbohoeaaW.PrintWords Go.Proofs.YtdgolbknbohoeaaW.PrintMore Go.Proofs.YtdgolbknbohoeaaW.PureKit
set_option linter.unusedVariables false
set_option linter.unusedSimpArgs false

theorem rUint_l0 {b : List Int} {a : Int} (hb : Byts b) (hl : (b.length : Int) ≤ 4611686018427387000) (ha0 : 0 ≤ a) (ha : a ≤ b.length) : ∀ (d : Nat) (n f i : Int), 0 ≤ i → i + d = ((b.drop a.toNat).take 10).length → (i ≤ 9 → f = 128 ^ i.toNat) → Ev (fun k => tapearchiveref02_Uint.l0 k b a n f i) (dec a (((b.drop a.toNat).take 10).drop i.toNat) i.toNat n) := by
  intro d
  have hyl : ((b.drop a.toNat).take 10).length = min 10 (b.length - a.toNat) := by rw [List.length_take, List.length_drop]
  have hby := (hb.drop a.toNat).take 10
  induction d with
  | zero =>
    intro n f i h0 h1 hf
    rw [List.drop_of_length_le (by omega)]
    refine Ev.shift 1 ⟨0, fun k _ => ?_⟩
    simp only [tapearchiveref02_Uint.l0, dec]
    by_cases e : i.toNat = 10
    · rw [if_pos e, if_neg (by omega)]
    · rw [if_neg e, if_pos (by omega), w64 (by omega) (by omega), if_pos (by omega)]
  | succ d ih =>
    intro n f i h0 h1 hf
    have hi : i ≤ 9 := by omega
    have hrd : rd ((b.drop a.toNat).take 10) i = rd b (a + i) := by
      rw [rd_get h0 (by omega), rd_get (by omega) (by omega)]
      rw [List.getElem_take, List.getElem_drop]
      congr 1
      omega
    have hr := hby (rd ((b.drop a.toNat).take 10) i) (by rw [rd_get h0 (by omega)]; exact List.getElem_mem _)
    rw [drop_rd h0 (by omega), dec_step_last, hrd]
    rw [hrd] at hr
    have hfi := hf hi
    subst hfi
    by_cases c1 : rd b (a + i) ≥ 128
    · rw [if_pos c1]
      obtain ⟨K, h⟩ := ih (IntKind.u64.wrap (n + IntKind.u64.wrap ((rd b (a + i) - 128) % 256 * 128 ^ i.toNat))) (IntKind.u64.wrap (128 ^ i.toNat * 128)) (i + 1) (by omega) (by omega) (fun h9 => by
        have p8 := pow_le_i (i.toNat + 1) 9 (by omega)
        rw [pow9, pow_succ_i] at p8
        have := pow_pos_i i.toNat
        rw [wu64 (by omega) (by omega), show (i + 1).toNat = i.toNat + 1 by omega, pow_succ_i])
      refine Ev.shift 1 ⟨K, fun k hk => ?_⟩
      simp only [tapearchiveref02_Uint.l0]
      rw [if_pos (by omega), w64 (x := a + i) (by omega) (by omega), if_neg (by omega), if_pos (by omega), if_pos (by omega), if_pos c1, w64 (x := i + 1) (by omega) (by omega)]
      have hh := h k hk
      simp only at hh
      rw [hh, show (rd b (a + i) - 128) % 256 = rd b (a + i) - 128 by omega, show (i + 1).toNat = i.toNat + 1 by omega]
    · rw [if_neg c1]
      refine Ev.shift 2 ⟨0, fun k _ => ?_⟩
      simp only [tapearchiveref02_Uint.l0, tapearchiveref02_Uint.j2]
      rw [if_pos (by omega), w64 (x := a + i) (by omega) (by omega), if_neg (by omega), if_pos (by omega), if_pos (by omega), if_neg c1, wu64 (x := rd b (a + i)) (by omega) (by omega), w64 (x := a + i + 1) (by omega) (by omega)]
      have hfin : (if i > 0 then if rd b (a + i) = 0 then some ((0 : Int), (0 : Int), (1 : Int)) else some (IntKind.u64.wrap (n + IntKind.u64.wrap (rd b (a + i) * 128 ^ i.toNat)), a + i + 1, 0) else some (IntKind.u64.wrap (n + IntKind.u64.wrap (rd b (a + i) * 128 ^ i.toNat)), a + i + 1, 0)) = some (if 0 < i.toNat ∧ rd b (a + i) = 0 then (0, 0, 1) else (IntKind.u64.wrap (n + IntKind.u64.wrap (rd b (a + i) * 128 ^ i.toNat)), a + i.toNat + 1, 0)) := by
        rw [show ((i.toNat : Nat) : Int) = i by omega]
        by_cases e1 : i > 0
        · rw [if_pos e1]
          by_cases e2 : rd b (a + i) = 0
          · rw [if_pos e2, if_pos ⟨by omega, e2⟩]
          · rw [if_neg e2, if_neg (fun h => e2 h.2)]
        · rw [if_neg e1, if_neg (by omega)]
      by_cases c2 : i = 9
      · rw [if_pos c2]
        by_cases c3 : rd b (a + i) > 1
        · rw [if_pos (by simpa using c3), if_pos (show i.toNat = 9 ∧ rd b (a + i) > 1 from ⟨by omega, c3⟩)]
        · rw [if_neg (by simpa using c3), if_neg (show ¬ (i.toNat = 9 ∧ rd b (a + i) > 1) from fun h => c3 h.2)]
          exact hfin
      · rw [if_neg c2, if_neg (show ¬ (i.toNat = 9 ∧ rd b (a + i) > 1) by omega)]
        simp only [Bool.false_eq_true, if_false]
        exact hfin
theorem rUint_ev {b : List Int} {a : Int} (hb : Byts b) (hl : (b.length : Int) ≤ 4611686018427387000) : Ev (fun k => tapearchiveref02_Uint.f k b a) (uintS b a) := by
  by_cases c : a < 0 ∨ a > b.length
  · unfold uintS
    rw [if_pos c]
    refine Ev.shift 1 ⟨0, fun k _ => ?_⟩
    simp only [tapearchiveref02_Uint.f, tapearchiveref02_Uint.j0]
    by_cases c1 : a < 0
    · rw [if_pos c1, if_pos trivial]
    · rw [if_neg c1, if_pos (by simp; omega)]
  · obtain ⟨K, h⟩ := rUint_l0 (a := a) hb hl (by omega) (by omega) ((b.drop a.toNat).take 10).length 0 1 0 (by omega) (by omega) (fun _ => by simp)
    unfold uintS
    rw [if_neg c]
    refine Ev.shift 1 ⟨K, fun k hk => ?_⟩
    simp only [tapearchiveref02_Uint.f, tapearchiveref02_Uint.j0]
    rw [if_neg (by omega), if_neg (by simp; omega)]
    exact h k hk
theorem rInt_ev {b : List Int} {a : Int} (hb : Byts b) (hl : (b.length : Int) ≤ 4611686018427387000) : Ev (fun k => tapearchiveref02_Int.f k b a) (intS b a) := by
  obtain ⟨K, h⟩ := rUint_ev (a := a) hb hl
  have hu := uintS_b b a
  refine ⟨K, fun k hk => ?_⟩
  simp only [tapearchiveref02_Int.f, h k hk, Option.bind_some, intS]
  by_cases c : (uintS b a).2.2 = 0
  · rw [if_pos c, if_pos c, tmod_nn hu.1, tdiv_nn hu.1, wu64 (x := (uintS b a).1 / 2) (by omega) (by omega), w64 (x := (uintS b a).1 / 2) (by omega) (by omega), w64 (x := -((uintS b a).1 / 2)) (by omega) (by omega), w64 (x := -((uintS b a).1 / 2) - 1) (by omega) (by omega)]
    split <;> rfl
  · rw [if_neg c, if_neg c]
theorem rText_ev {b : List Int} {a most : Int} (hb : Byts b) (hl : (b.length : Int) ≤ 4611686018427387000) (hm : most ≤ 9223372036854775807) : Ev (fun k => tapearchiveref02_Text.f k b a most) (textS b a most) := by
  obtain ⟨K, h⟩ := rUint_ev (a := a) hb hl
  have hu := uintS_b b a
  refine Ev.shift 1 ⟨K, fun k hk => ?_⟩
  simp only [tapearchiveref02_Text.f, tapearchiveref02_Text.j0, h (k + 1) (by omega), Option.bind_some, textS, if_true]
  by_cases c : (uintS b a).2.2 = 0
  · have hr := hu.2.2.1 c
    rw [if_pos c, if_pos c]
    by_cases c1 : most < 0
    · rw [if_pos c1, if_pos (.inl c1)]
    · rw [if_neg c1, wu64 (x := most) (by omega) (by omega)]
      by_cases c2 : (uintS b a).1 > most
      · rw [if_pos (by simpa using c2), if_pos (.inr c2)]
      · rw [if_neg (by simpa using c2), if_neg (show ¬ (most < 0 ∨ (uintS b a).1 > most) by omega), w64 (x := (b.length : Int) - (uintS b a).2.1) (by omega) (by omega), wu64 (x := (b.length : Int) - (uintS b a).2.1) (by omega) (by omega)]
        by_cases c3 : (uintS b a).1 > b.length - (uintS b a).2.1
        · rw [if_pos c3, if_pos c3]
        · rw [if_neg c3, if_neg c3, w64 (x := (uintS b a).1) (by omega) (by omega), w64 (x := (uintS b a).2.1 + (uintS b a).1) (by omega) (by omega), if_pos (by omega), if_pos (by omega), if_pos (by omega)]
  · rw [if_neg c, if_neg c]
theorem rBool_ev {b : List Int} {a : Int} (hl : (b.length : Int) ≤ 4611686018427387000) : Ev (fun k => tapearchiveref02_Bool.f k b a) (boolS b a) := by
  refine Ev.shift 1 ⟨0, fun k hk => ?_⟩
  simp only [tapearchiveref02_Bool.f, tapearchiveref02_Bool.j0, boolS, if_true]
  by_cases c1 : a < 0
  · rw [if_pos c1, if_pos (.inl c1)]
  · rw [if_neg c1]
    by_cases c2 : a > b.length
    · rw [if_pos (by simpa using c2), if_pos (.inr c2)]
    · rw [if_neg (by simpa using c2), if_neg (show ¬ (a < 0 ∨ a > b.length) by omega)]
      by_cases c3 : a = b.length
      · rw [if_pos c3, if_pos c3]
      · rw [if_neg c3, if_neg c3, if_pos (by omega), if_pos (by omega), w64 (by omega) (by omega)]
        split <;> rfl
theorem rPutUint_l0 : ∀ (n : Nat) (acc : List Int), n < 18446744073709551616 → acc.length + (grp n).length ≤ 140737488355328 → Ev (fun k => tapearchiveref02_PutUint.l0 k n acc) (acc ++ grp n) := by
  intro n
  induction n using Nat.strongRecOn with
  | _ n ih =>
    intro acc hn hl
    have hp := grp_pos n
    by_cases h : n < 128
    · rw [grp_small h] at hl ⊢
      refine Ev.shift 1 ⟨0, fun k _ => ?_⟩
      simp only [tapearchiveref02_PutUint.l0]
      simp at hl
      rw [if_neg (by omega), if_pos (by omega), show ((n : Int)) % 256 = n by omega]
    · rw [grp_big h] at hl ⊢
      simp only [List.length_cons] at hl
      obtain ⟨K, hK⟩ := ih (n / 128) (by omega) (acc ++ [((n % 128 + 128 : Nat) : Int)]) (by omega) (by simp; omega)
      refine Ev.shift 1 ⟨K, fun k hk => ?_⟩
      simp only [tapearchiveref02_PutUint.l0]
      rw [if_pos (by omega), if_pos (by omega), tdiv_nn (by omega), tmod_nn (by omega), wu64 (by omega) (by omega)]
      have := hK k hk
      simp only [List.append_assoc, List.cons_append, List.nil_append] at this
      rw [show ((n : Int) % 128 + 128) % 256 = ((n % 128 + 128 : Nat) : Int) by omega, show ((n : Int) / 128) = ((n / 128 : Nat) : Int) by omega]
      exact this
theorem rPutUint_ev {b : List Int} {n : Int} (h0 : 0 ≤ n) (h1 : n ≤ 18446744073709551615) (hl : b.length ≤ 140737488355300) : Ev (fun k => tapearchiveref02_PutUint.f k b n) (b ++ grp n.toNat) := by
  have h10 := grp_le10 (n := n.toNat) (by omega)
  obtain ⟨K, h⟩ := rPutUint_l0 n.toNat b (by omega) (by omega)
  refine ⟨K, fun k hk => ?_⟩
  have := h k hk
  rw [show ((n.toNat : Nat) : Int) = n by omega] at this
  simp only [tapearchiveref02_PutUint.f, Option.bind_some]
  rw [if_pos (by simp; omega)]
  simpa using this
theorem rCode_eq {n : Int} (h1 : -9223372036854775808 ≤ n) (h2 : n ≤ 9223372036854775807) : tapearchiveref02_Code.f n = some (codeN n) := by
  unfold tapearchiveref02_Code.f codeN
  by_cases c : n < 0
  · rw [if_pos c, if_pos c, w64 (x := n + 1) (by omega) (by omega), w64 (x := -(n + 1)) (by omega) (by omega), wu64 (x := -(n + 1)) (by omega) (by omega), wu64 (x := 2 * -(n + 1)) (by omega) (by omega), wu64 (by omega) (by omega)]
    congr 1; omega
  · rw [if_neg c, if_neg c, wu64 (x := n) (by omega) (by omega), wu64 (by omega) (by omega)]
theorem rPutInt_ev {b : List Int} {n : Int} (h1 : -9223372036854775808 ≤ n) (h2 : n ≤ 9223372036854775807) (hl : b.length ≤ 140737488355300) : Ev (fun k => tapearchiveref02_PutInt.f k b n) (b ++ grp (codeN n).toNat) := by
  have hc := codeN_b h1 h2
  obtain ⟨K, h⟩ := rPutUint_ev (b := b) hc.1 hc.2 hl
  refine ⟨K, fun k hk => ?_⟩
  simp only [tapearchiveref02_PutInt.f, rCode_eq h1 h2, h k (by omega), Option.bind_some]
theorem rPutText_ev {b : List Int} {s : ByteArray} (hs : s.size ≤ 140737488300000) (hl : b.length + s.size ≤ 140737488355300) : Ev (fun k => tapearchiveref02_PutText.f k b s) (b ++ (grp s.size ++ bytesOf s)) := by
  have h10 := grp_le10 (n := s.size) (by omega)
  have hw := wu64 (x := (s.size : Int)) (by omega) (by omega)
  obtain ⟨K, h⟩ := rPutUint_ev (b := b) (n := (s.size : Int)) (by omega) (by omega) (by omega)
  rw [Int.toNat_natCast] at h
  refine ⟨K, fun k hk => ?_⟩
  simp only [tapearchiveref02_PutText.f, hw, h k (by omega), Option.bind_some]
  rw [if_pos (by simp; omega)]
  simp
theorem rPutBool_eq {b : List Int} {v : Bool} (hl : b.length ≤ 140737488355300) : tapearchiveref02_PutBool.f b v = some (b ++ [if v = true then 1 else 0]) := by
  have h1 : (([] : List Int) ++ b).length < 140737488355328 := by simp; omega
  simp only [tapearchiveref02_PutBool.f, Option.bind_some]
  rw [if_pos (show ([] : List Int).length + b.length < 140737488355328 by simp; omega), if_pos h1, if_pos h1]
  cases v <;> simp
end Go.Proofs.Ytdgolbknbohoeaa.P
