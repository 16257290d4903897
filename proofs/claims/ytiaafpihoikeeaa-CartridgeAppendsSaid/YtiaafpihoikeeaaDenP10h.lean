/- What functions of layer 10 compute: reading, seeking marks. -/
import Derived.Test.YtiaafpihoikeeaaDenP10g
import Derived.Test.YtiaafpihoikeeaaDenS26
namespace Go.Proofs.Ytiaafpihoikeeaa.Den.G10
open Go.Proofs.Ytiaafpihoikeeaa.Den Go
set_option linter.unusedVariables false
set_option linter.unusedSimpArgs false
/-- Reading so many of these blocks, until one is bad. -/
def rd : List Blk → Nat → List Blk × Int
  | _, 0 => ([], 0)
  | [], _ + 1 => ([], 7)
  | b :: l, n + 1 => if b.2.1 = true then ([], 15) else (b :: (rd l n).1, (rd l n).2)
/-- Reading a span of a cartridge. -/
def R (c : Cart) (s : Int × Int) : List Blk × Int :=
  if okCart c = false then ([], 8) else if s.1 < 0 ∨ s.2 < 0 then ([], 7) else rd (c.2.2.2.2.1.drop s.1.toNat) s.2.toNat
theorem rd_fst : ∀ (l : List Blk) (n : Nat) (i : Int), 0 ≤ i →
    (∃ j : Nat, fstI (fun b => b.2.1) (l.take n) i = i + j ∧ j ≤ l.length ∧ rd l n = (l.take j, 15)) ∨
    (fstI (fun b => b.2.1) (l.take n) i = -1 ∧ rd l n = (l.take n, if l.length < n then 7 else 0))
  | [], 0, i, _ => .inr ⟨rfl, rfl⟩
  | b :: l, 0, i, _ => .inr ⟨rfl, rfl⟩
  | [], n + 1, i, _ => .inr ⟨rfl, by simp [rd]⟩
  | b :: l, n + 1, i, h => by
    rw [List.take_succ_cons]
    unfold fstI rd
    by_cases c : b.2.1 = true
    · refine .inl ⟨0, ?_, by omega, ?_⟩
      · rw [if_pos c]; omega
      · rw [if_pos c]; rfl
    · rw [if_neg c, if_neg c]
      rcases rd_fst l n (i + 1) (by omega) with ⟨j, h1, h2, h3⟩ | ⟨h1, h2⟩
      · refine .inl ⟨j + 1, by rw [h1]; omega, by rw [List.length_cons]; omega, ?_⟩
        rw [h3]; rfl
      · refine .inr ⟨h1, ?_⟩
        rw [h2]
        simp only [List.length_cons, Nat.add_lt_add_iff_right]
theorem rRead_l0 (c : Cart) (F N : Int) (hF : 0 ≤ F) (hy : c.2.2.2.2.1.length ≤ 9000) (hd : ∀ b ∈ c.2.2.2.2.1, b.2.2.length ≤ 1000) : ∀ (m k : Nat) (i : Int) (acc : List Blk), 0 ≤ i → i ≤ N → (c.2.2.2.2.1.drop (F + i).toNat).length = m → m < k → acc.length = i.toNat → i ≤ c.2.2.2.2.1.length → (∀ b ∈ acc, b.2.2.length ≤ 1000) →
    tapearchiveref10_Read_l0 10000 k i c (F, N) acc = some (if (rd (c.2.2.2.2.1.drop (F + i).toNat) (N - i).toNat).2 = 0 then .inl (acc ++ (rd (c.2.2.2.2.1.drop (F + i).toNat) (N - i).toNat).1) else .inr (acc ++ (rd (c.2.2.2.2.1.drop (F + i).toNat) (N - i).toNat).1, (rd (c.2.2.2.2.1.drop (F + i).toNat) (N - i).toNat).2)) := by
  intro m
  induction m with
  | zero =>
    intro k i acc h0 h1 hm hk ha hi hda
    obtain ⟨k, rfl⟩ : ∃ j, k = j + 1 := ⟨k - 1, by omega⟩
    have hnil := List.eq_nil_of_length_eq_zero hm
    rw [List.length_drop] at hm
    rw [hnil]
    simp only [tapearchiveref10_Read_l0, decide_eq_true_eq]
    by_cases hn : i < N
    · obtain ⟨n, hn'⟩ : ∃ n, (N - i).toNat = n + 1 := ⟨(N - i).toNat - 1, by omega⟩
      rw [if_pos hn, hn', w64 (by omega) (by omega), if_pos (by omega), rcopied_eq (by omega) hda]
      simp [rd]
    · rw [if_neg hn, show (N - i).toNat = 0 by omega]
      simp [rd]
  | succ m ih =>
    intro k i acc h0 h1 hm hk ha hi hda
    obtain ⟨k, rfl⟩ : ∃ j, k = j + 1 := ⟨k - 1, by omega⟩
    rw [List.length_drop] at hm
    have hb : (0 : Int) ≤ F + i ∧ F + i < (c.2.2.2.2.1.length : Int) := by omega
    have hmem : c.2.2.2.2.1.getD (F + i).toNat zBlock ∈ c.2.2.2.2.1 := mem_getD hb.1 (by omega)
    rw [drop_getD zBlock hb.1 (by omega)]
    simp only [tapearchiveref10_Read_l0, decide_eq_true_eq]
    by_cases hn : i < N
    · obtain ⟨n, hn'⟩ : ∃ n, (N - i).toNat = n + 1 := ⟨(N - i).toNat - 1, by omega⟩
      rw [if_pos hn, hn', w64 (x := (c.2.2.2.2.1.length : Int) - i) (by omega) (by omega), if_neg (by omega), w64 (x := F + i) (by omega) (by omega)]
      unfold rd
      rw [if_pos hb]
      by_cases hbad : (c.2.2.2.2.1.getD (F + i).toNat zBlock).2.1 = true
      · rw [if_pos hbad, if_pos hbad, rcopied_eq (by omega) hda]
        simp
      · rw [if_neg hbad, if_neg hbad, if_pos hb, if_pos (by simp only [List.length_singleton]; omega), w64 (by omega) (by omega)]
        have ih := ih k (i + 1) (acc ++ [c.2.2.2.2.1.getD (F + i).toNat zBlock]) (by omega) (by omega) (by rw [List.length_drop]; omega) (by omega) (by rw [List.length_append, List.length_singleton]; omega) (by omega) (fun b hb => by
          rcases List.mem_append.1 hb with h | h
          · exact hda b h
          · rw [List.mem_singleton.1 h]; exact hd _ hmem)
        rw [show F + (i + 1) = F + i + 1 by omega, show (N - (i + 1)).toNat = n by omega] at ih
        rw [ih]
        simp only [List.append_assoc, List.singleton_append]
    · rw [if_neg hn, show (N - i).toNat = 0 by omega]
      simp [rd]
theorem rd_take : ∀ (l : List Blk) (n : Nat), ∃ j, (rd l n).1 = l.take j
  | _, 0 => ⟨0, by simp [rd]⟩
  | [], _ + 1 => ⟨0, by simp [rd]⟩
  | b :: l, n + 1 => by
    unfold rd
    split
    · exact ⟨0, rfl⟩
    · obtain ⟨j, hj⟩ := rd_take l n
      exact ⟨j + 1, by rw [hj]; rfl⟩
theorem R_len (c : Cart) (s : Int × Int) : (R c s).1.length ≤ c.2.2.2.2.1.length ∧ ∀ b ∈ (R c s).1, b ∈ c.2.2.2.2.1 := by
  unfold R
  split
  · exact ⟨by simp, fun b h => by simp at h⟩
  · split
    · exact ⟨by simp, fun b h => by simp at h⟩
    · obtain ⟨j, hj⟩ := rd_take (c.2.2.2.2.1.drop s.1.toNat) s.2.toNat
      rw [hj]
      exact ⟨by rw [List.length_take, List.length_drop]; omega, fun b h => List.mem_of_mem_drop (List.mem_of_mem_take h)⟩
theorem rread_eq {c : Cart} (h1 : c.2.2.2.2.1.length ≤ 9000) (h2 : c.1.size ≤ 9000) (s : Int × Int) : tapearchiveref10_Read 10000 c s = some (R c s) := by
  unfold tapearchiveref10_Read
  have hR := R_len c s
  rw [rvalid_eq h1 h2]
  unfold R at hR ⊢
  cases ho : okCart c with
  | false => rfl
  | true =>
    obtain ⟨d1, d2⟩ := okCart_data ho
    simp only [ho, Bool.true_eq_false, if_false] at hR
    simp only [Option.bind_some, Bool.not_true, Bool.false_eq_true, Bool.true_eq_false, if_false, decide_eq_true_eq]
    by_cases ha : s.1 < 0
    · rw [if_pos ha, if_pos (.inl ha)]; rfl
    · rw [if_neg ha]
      by_cases hb : s.2 < 0
      · rw [if_pos hb, if_pos (.inr hb)]; rfl
      · have hab : ¬ (s.1 < 0 ∨ s.2 < 0) := fun h => h.elim ha hb
        rw [if_neg hab] at hR
        rw [if_neg hb, if_neg hab]
        simp only [Option.bind_some]
        have hl := rRead_l0 c s.1 s.2 (by omega) h1 d2 _ 10000 0 [] (by omega) (by omega) rfl (by rw [List.length_drop]; omega) rfl (by omega) (fun b h => by simp at h)
        rw [Int.add_zero, Int.sub_zero, List.nil_append] at hl
        rw [show ((s.1, s.2) : Int × Int) = s from rfl] at hl
        rw [hl]
        by_cases h0 : (rd (c.2.2.2.2.1.drop s.1.toNat) s.2.toNat).2 = 0
        · rw [if_pos h0]
          simp only [Option.bind_some]
          rw [rcopied_eq (by omega) (fun b hb => d2 b (hR.2 b hb))]
          simp only [Option.bind_some]
          rw [← h0]
        · rw [if_neg h0]
          rfl
theorem take_min (l : List Blk) (n : Int) (h : 0 ≤ n) : l.take (min n (l.length : Int)).toNat = l.take n.toNat := by
  by_cases c : n ≤ (l.length : Int)
  · rw [show min n (l.length : Int) = n by omega]
  · rw [List.take_of_length_le (by omega), List.take_of_length_le (by omega)]
theorem read_eq {c : Cart} (h1 : c.2.2.2.2.1.length ≤ 9000) (h2 : c.1.size ≤ 9000) (s : Int × Int) : cartridge_Read 10000 c s = some (R c s) := by
  unfold cartridge_Read R
  rw [valid_eq h1 h2]
  cases ho : okCart c with
  | false => rfl
  | true =>
    obtain ⟨d1, d2⟩ := okCart_data ho
    simp only [Option.bind_some, Bool.not_true, Bool.false_eq_true, Bool.true_eq_false, if_false, decide_eq_true_eq]
    by_cases ha : s.1 < 0
    · rw [if_pos ha, if_pos (show s.1 < 0 ∨ s.2 < 0 from .inl ha)]; rfl
    · rw [if_neg ha]
      by_cases hb : s.2 < 0
      · rw [if_pos hb, if_pos (show s.1 < 0 ∨ s.2 < 0 from .inr hb)]; rfl
      · rw [if_neg hb, if_neg (show ¬ (s.1 < 0 ∨ s.2 < 0) from fun h => h.elim ha hb)]
        by_cases hz : s.2 = 0
        · rw [if_pos hz, hz]; simp [rd]
        · rw [if_neg hz]
          obtain ⟨n, hn⟩ : ∃ n, s.2.toNat = n + 1 := ⟨s.2.toNat - 1, by omega⟩
          by_cases hf : s.1 ≥ (c.2.2.2.2.1.length : Int)
          · rw [if_pos hf, hn, List.drop_of_length_le (by omega)]; rfl
          · rw [if_neg hf]
            simp only [Option.bind_some]
            rw [if_pos (by omega)]
            simp only [Int.toNat_natCast, List.take_length, List.drop_zero]
            have hsub : ∀ b ∈ c.2.2.2.2.1.drop s.1.toNat, b.2.2.length ≤ 1000 := fun b hb => d2 b (List.mem_of_mem_drop hb)
            have hlen : (c.2.2.2.2.1.drop s.1.toNat).length ≤ 9000 := by rw [List.length_drop]; omega
            generalize c.2.2.2.2.1.drop s.1.toNat = l at hsub hlen
            rw [take_min l s.2 (by omega)]
            have hc : ∀ j, cartridge_copied 10000 (l.take j) = some (l.take j) := fun j => copied_eq (by rw [List.length_take]; omega) (fun b hb => hsub b (List.mem_of_mem_take hb))
            rw [if_pos (by omega), idxR_eq (d := 10000) (l.take s.2.toNat) (by rw [List.length_take]; omega) (by rw [List.length_take]; omega)]
            simp only [Option.bind_some]
            rcases rd_fst l s.2.toNat 0 (by omega) with ⟨j, e1, e2, e3⟩ | ⟨e1, e2⟩
            · rw [e1, if_pos (by omega), if_pos (by omega), show (0 + (j : Int)).toNat = j by omega, hc, e3]; rfl
            · rw [e1, if_neg (by omega), hc, e2]
              by_cases q : l.length < s.2.toNat
              · rw [if_pos (by omega), if_pos (by omega), if_pos q]; rfl
              · rw [if_neg (by omega), if_pos (by omega), if_neg q]; rfl
/-- Seeking so many marks, from a place on; where that ends. -/
def mk : List Blk → Nat → Int → Int × Int
  | _, 0, i => (i, 0)
  | [], _ + 1, _ => (0, 11)
  | b :: l, n + 1, i => if b.1 = true ∧ b.2.1 = false then mk l n (i + 1) else mk l (n + 1) (i + 1)
/-- Seeking marks on a cartridge. -/
def M (c : Cart) (at_ n : Int) : Int × Int :=
  if okCart c = false then (0, 8) else if at_ < 0 ∨ at_ > (c.2.2.2.2.1.length : Int) ∨ n < 0 then (0, 7) else mk (c.2.2.2.2.1.drop at_.toNat) n.toNat at_
theorem mk_0 (l : List Blk) (i : Int) : mk l 0 i = (i, 0) := by cases l <;> rfl
theorem rMarks_l0 (d : Nat) (c : Cart) (hy : c.2.2.2.2.1.length ≤ 9000) : ∀ (m k : Nat) (i n : Int), 0 ≤ i → i + m = c.2.2.2.2.1.length → m < k → 0 ≤ n → n ≤ 9223372036854775807 →
    tapearchiveref10_Marks_l0 d k i n c = some (if (mk (c.2.2.2.2.1.drop i.toNat) n.toNat i).2 = 0 then .inl (mk (c.2.2.2.2.1.drop i.toNat) n.toNat i).1 else .inr (mk (c.2.2.2.2.1.drop i.toNat) n.toNat i)) := by
  intro m
  induction m with
  | zero =>
    intro k i n h0 h1 hk hn hn2
    obtain ⟨k, rfl⟩ : ∃ j, k = j + 1 := ⟨k - 1, by omega⟩
    rw [List.drop_of_length_le (by omega)]
    simp only [tapearchiveref10_Marks_l0, decide_eq_true_eq]
    by_cases hz : n = 0
    · subst hz
      rw [if_neg (by omega)]; rfl
    · obtain ⟨j, hj⟩ : ∃ j, n.toNat = j + 1 := ⟨n.toNat - 1, by omega⟩
      rw [if_pos (by omega), if_pos (by omega), hj]; rfl
  | succ m ih =>
    intro k i n h0 h1 hk hn hn2
    obtain ⟨k, rfl⟩ : ∃ j, k = j + 1 := ⟨k - 1, by omega⟩
    have hb : (0 : Int) ≤ i ∧ i < (c.2.2.2.2.1.length : Int) := by omega
    rw [drop_getD zBlock h0 (by omega)]
    simp only [tapearchiveref10_Marks_l0, decide_eq_true_eq]
    by_cases hz : n = 0
    · subst hz
      rw [if_neg (by omega), Int.toNat_zero, mk_0]; rfl
    · obtain ⟨j, hj⟩ : ∃ j, n.toNat = j + 1 := ⟨n.toNat - 1, by omega⟩
      rw [if_pos (by omega), if_neg (by omega), if_pos hb, w64 (x := i + 1) (by omega) (by omega), w64 (x := n - 1) (by omega) (by omega), if_pos hb]
      have ih1 := ih k (i + 1) n (by omega) (by omega) (by omega) hn hn2
      have ih2 := ih k (i + 1) (n - 1) (by omega) (by omega) (by omega) (by omega) (by omega)
      rw [hj] at ih1 ⊢
      rw [show (n - 1).toNat = j by omega] at ih2
      unfold mk
      rw [ih1, ih2]
      cases (c.2.2.2.2.1.getD i.toNat zBlock).1 <;> cases (c.2.2.2.2.1.getD i.toNat zBlock).2.1 <;> simp
theorem rmarks_eq {c : Cart} (h1 : c.2.2.2.2.1.length ≤ 9000) (h2 : c.1.size ≤ 9000) (at_ n : Int) (hn : n ≤ 9223372036854775807) : tapearchiveref10_Marks 10000 c at_ n = some (M c at_ n) := by
  unfold tapearchiveref10_Marks M
  rw [rvalid_eq h1 h2]
  cases ho : okCart c with
  | false => rfl
  | true =>
    simp only [Option.bind_some, Bool.not_true, Bool.false_eq_true, Bool.true_eq_false, if_false, decide_eq_true_eq]
    by_cases hx : at_ < 0 ∨ at_ > (c.2.2.2.2.1.length : Int) ∨ n < 0
    · rw [if_pos hx]
      by_cases ha : at_ < 0
      · rw [if_pos ha]; rfl
      · rw [if_neg ha]
        by_cases hb : at_ > (c.2.2.2.2.1.length : Int)
        · rw [if_pos hb]; rfl
        · rw [if_neg hb, if_pos (by omega)]; rfl
    · rw [if_neg hx, if_neg (by omega), if_neg (by omega), if_neg (by omega)]
      simp only [Option.bind_some]
      rw [rMarks_l0 10000 c h1 (c.2.2.2.2.1.length - at_.toNat) 10000 at_ n (by omega) (by omega) (by omega) (by omega) hn]
      by_cases h0 : (mk (c.2.2.2.2.1.drop at_.toNat) n.toNat at_).2 = 0
      · rw [if_pos h0]
        simp only [Option.bind_some]
        rw [← h0]
      · rw [if_neg h0]; rfl
theorem marks_l1 (d : Nat) (a : Int) (ha : 0 ≤ a ∧ a ≤ 9000) (l : List Blk) (hy : l.length ≤ 9000) : ∀ (m k : Nat) (i n : Int), 0 ≤ i → i + m = l.length → m < k → 0 < n → n ≤ 9223372036854775807 →
    cartridge_Marks_l1 d k a n l l.length i = some (if (mk (l.drop i.toNat) n.toNat (a + i)).2 = 0 then .inr (mk (l.drop i.toNat) n.toNat (a + i)) else .inl ()) ∧ ((mk (l.drop i.toNat) n.toNat (a + i)).2 = 0 ∨ mk (l.drop i.toNat) n.toNat (a + i) = (0, 11)) := by
  intro m
  induction m with
  | zero =>
    intro k i n h0 h1 hk hn hn2
    obtain ⟨k, rfl⟩ : ∃ j, k = j + 1 := ⟨k - 1, by omega⟩
    obtain ⟨j, hj⟩ : ∃ j, n.toNat = j + 1 := ⟨n.toNat - 1, by omega⟩
    rw [List.drop_of_length_le (by omega), hj]
    simp only [cartridge_Marks_l1, decide_eq_true_eq]
    rw [if_neg (by omega)]
    exact ⟨rfl, .inr rfl⟩
  | succ m ih =>
    intro k i n h0 h1 hk hn hn2
    obtain ⟨k, rfl⟩ : ∃ j, k = j + 1 := ⟨k - 1, by omega⟩
    obtain ⟨j, hj⟩ : ∃ j, n.toNat = j + 1 := ⟨n.toNat - 1, by omega⟩
    have hb : (0 : Int) ≤ i ∧ i < (l.length : Int) := by omega
    rw [drop_getD zBlock h0 (by omega)]
    simp only [cartridge_Marks_l1, decide_eq_true_eq]
    rw [if_pos hb.2, if_pos hb]
    have ih1 := ih k (i + 1) n (by omega) (by omega) (by omega) hn hn2
    have ih2 := fun q => ih k (i + 1) (n - 1) (by omega) (by omega) (by omega) q (by omega)
    rw [show a + (i + 1) = a + i + 1 by omega] at ih1 ih2
    rw [hj] at ih1 ⊢
    rw [show (n - 1).toNat = j by omega] at ih2
    unfold mk
    by_cases c : (l.getD i.toNat zBlock).1 = true ∧ (l.getD i.toNat zBlock).2.1 = false
    · rw [if_pos c]
      simp only [c.1, c.2, Bool.not_false, if_true, Option.bind_some, w64 (x := n - 1) (by omega) (by omega), w64 (x := i + 1) (by omega) (by omega), w64 (x := a + i) (by omega) (by omega), w64 (x := a + i + 1) (by omega) (by omega)]
      by_cases hz : n - 1 = 0
      · rw [if_pos hz, show j = 0 by omega, mk_0]
        exact ⟨rfl, .inl rfl⟩
      · rw [if_neg hz]
        exact ih2 (by omega)
    · rw [if_neg c]
      have e : (if (l.getD i.toNat zBlock).1 = true then (if (!(l.getD i.toNat zBlock).2.1) = true then some (a, IntKind.i64.wrap (n - 1), i, l, (l.length : Int), i) else some (a, n, i, l, (l.length : Int), i)) else some (a, n, i, l, (l.length : Int), i) : Option (Int × Int × Int × List Blk × Int × Int)) = some (a, n, i, l, (l.length : Int), i) := by
        cases h1 : (l.getD i.toNat zBlock).1 <;> cases h2 : (l.getD i.toNat zBlock).2.1 <;> simp_all
      refine ⟨(congrArg (fun z => Option.bind z _) e).trans ?_, ih1.2⟩
      simp only [Option.bind_some, w64 (x := i + 1) (by omega) (by omega)]
      rw [if_neg (by omega)]
      exact ih1.1
theorem marks_eq {c : Cart} (h1 : c.2.2.2.2.1.length ≤ 9000) (h2 : c.1.size ≤ 9000) (at_ n : Int) (hn : n ≤ 9223372036854775807) : cartridge_Marks 10000 c at_ n = some (M c at_ n) := by
  unfold cartridge_Marks M
  rw [valid_eq h1 h2]
  cases ho : okCart c with
  | false => rfl
  | true =>
    simp only [Option.bind_some, Bool.not_true, Bool.false_eq_true, Bool.true_eq_false, if_false, decide_eq_true_eq]
    by_cases hx : at_ < 0 ∨ at_ > (c.2.2.2.2.1.length : Int) ∨ n < 0
    · rw [if_pos hx]
      by_cases ha : at_ < 0
      · rw [if_pos ha]; rfl
      · rw [if_neg ha]
        by_cases hb : at_ > (c.2.2.2.2.1.length : Int)
        · rw [if_pos hb]; rfl
        · rw [if_neg hb, if_pos (by omega)]; rfl
    · rw [if_neg hx, if_neg (by omega), if_neg (by omega), if_neg (by omega)]
      by_cases hz : n = 0
      · rw [if_pos hz, hz, Int.toNat_zero, mk_0]; rfl
      · rw [if_neg hz]
        simp only [Option.bind_some]
        rw [if_pos (by omega)]
        simp only [Int.toNat_natCast, List.take_length]
        obtain ⟨g1, g2⟩ := marks_l1 10000 at_ (by omega) (c.2.2.2.2.1.drop at_.toNat) (by rw [List.length_drop]; omega) (c.2.2.2.2.1.drop at_.toNat).length 10000 0 n (by omega) (by omega) (by rw [List.length_drop]; omega) (by omega) hn
        rw [Int.add_zero, Int.toNat_zero, List.drop_zero] at g1 g2
        rw [g1]
        by_cases h0 : (mk (c.2.2.2.2.1.drop at_.toNat) n.toNat at_).2 = 0
        · rw [if_pos h0]; rfl
        · rw [if_neg h0]
          rw [g2.resolve_left h0]; rfl
theorem ok64 {n : Int} (h : OkT (.int .i64) n) : -9223372036854775808 ≤ n ∧ n ≤ 9223372036854775807 := by
  simpa [OkT, IntKind.min, IntKind.max, IntKind.signed, IntKind.bits] using h
end Go.Proofs.Ytiaafpihoikeeaa.Den.G10
