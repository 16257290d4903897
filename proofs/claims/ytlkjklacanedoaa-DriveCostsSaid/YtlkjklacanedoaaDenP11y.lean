/- What operations of layer 11 lead to. -/
import Derived.Test.YtlkjklacanedoaaDenP11x
namespace Go.Proofs.Ytlkjklacanedoaa.Den.G11
open Go.Proofs.Ytlkjklacanedoaa.Den Go
set_option linter.unusedVariables false
set_option linter.unusedSectionVars false
set_option linter.unusedSimpArgs false
theorem fst1_mk {m : Mdl} {v : Drv} {c : Cart} (h1 : okM m = true) (h2 : okD v = true) (h3 : okCart c = true) (h4 : v.1 = 1) (h5 : v.2.1 = c.1) (h6 : v.2.2.1 ≤ (c.2.2.2.2.1.length : Int)) : fst1 m v c = 0 := by
  unfold fst1
  rw [if_neg (by simp [h1]), if_neg (by simp [h2]), if_neg (by simp [h3]), if_neg (by omega), if_neg (by omega), if_neg (by simp [h5]), if_neg (by omega)]
theorem pG_b (g : Int × Int × Int × Int × Int × Int) (a b : Int) : 0 ≤ pG g a b ∧ pG g a b ≤ 10000000 := by
  unfold pG pss
  split
  · rename_i h
    obtain ⟨b1, b2, b3, b4⟩ := places_b h.1 h.2
    have hL1 := h.1.1.2.2.1; have hLL := h.1.1.L_le
    have i0 := iabs_nn ((place g.1 g.2.1 a).2.1 - (place g.1 g.2.1 b).2.1); have i1 := iabs_le b1 b2
    have q0 : (iabs ((place g.1 g.2.1 a).2.1 - (place g.1 g.2.1 b).2.1) * 1000 + g.2.1 - 1) / g.2.1 ≤ _ := Int.ediv_le_self _ (by omega)
    have q1 : 0 ≤ (iabs ((place g.1 g.2.1 a).2.1 - (place g.1 g.2.1 b).2.1) * 1000 + g.2.1 - 1) / g.2.1 := Int.ediv_nonneg (by omega) (by omega)
    omega
  · omega
theorem okCnt_iff {x : Int} : okCnt x = true ↔ 0 ≤ x ∧ x ≤ 1125899906842624 := by unfold okCnt; rw [decide_eq_true_eq]
theorem mo_eq {n p : Int} (h : okCnt n = true) (hp : 0 ≤ p ∧ p ≤ 10000000) : mo n p = min (n + p) 1125899906842624 := by
  have h := okCnt_iff.1 h
  unfold mo
  rw [w64 (by omega) (by omega)]
theorem mo_cnt {n p : Int} (h : okCnt n = true) (hp : 0 ≤ p ∧ p ≤ 10000000) : okCnt (mo n p) = true := by
  have h' := okCnt_iff.1 h
  rw [mo_eq h hp]
  exact okCnt_iff.2 (by omega)
theorem okD_parts {v : Drv} : okD v = true ↔ (0 ≤ v.1 ∧ v.1 ≤ 2) ∧ okCnt v.2.2.2.1 = true ∧ okCnt v.2.2.2.2.1 = true ∧ okCnt v.2.2.2.2.2 = true ∧ (0 ≤ v.2.2.1 ∧ v.2.2.1 ≤ 4096) ∧ (¬ v.1 = 0 ∨ (v.2.1 = ⟨#[]⟩ ∧ v.2.2.1 = 0)) := by
  unfold okD
  simp only [Bool.and_eq_true, Bool.or_eq_true, decide_eq_true_eq]
  constructor
  · rintro ⟨⟨⟨⟨⟨h1, h2⟩, h3⟩, h4⟩, h5⟩, h6⟩; exact ⟨h1, h2, h3, h4, h5, h6⟩
  · rintro ⟨h1, h2, h3, h4, h5, h6⟩; exact ⟨⟨⟨⟨⟨h1, h2⟩, h3⟩, h4⟩, h5⟩, h6⟩
theorem okCart_parts {c : Cart} : okCart c = true ↔ okBar c.1 = true ∧ okG c.2.1 = true ∧ ((c.2.2.2.2.1.length : Int) ≤ c.2.1.1 * c.2.1.2.1) ∧ okCnt c.2.2.2.2.2.1 = true ∧ okCnt c.2.2.2.2.2.2.1 = true ∧ okCnt c.2.2.2.2.2.2.2 = true ∧ c.2.2.2.2.1.all okBlk = true := by
  unfold okCart
  simp only [Bool.and_eq_true, decide_eq_true_eq]
  constructor
  · rintro ⟨⟨⟨⟨⟨⟨h1, h2⟩, h3⟩, h4⟩, h5⟩, h6⟩, h7⟩; exact ⟨h1, h2, h3, h4, h5, h6, h7⟩
  · rintro ⟨h1, h2, h3, h4, h5, h6, h7⟩; exact ⟨⟨⟨⟨⟨⟨h1, h2⟩, h3⟩, h4⟩, h5⟩, h6⟩, h7⟩
theorem mv_cart {v : Drv} {c : Cart} {t : Int} (h : okCart c = true) : okCart (mv v c t).2 = true := by
  obtain ⟨h1, h2, h3, h4, h5, h6, h7⟩ := okCart_parts.1 h
  exact okCart_parts.2 ⟨h1, h2, h3, h4, h5, mo_cnt h6 (pG_b _ _ _), h7⟩
theorem mv_drv {v : Drv} {c : Cart} {t : Int} (h : okD v = true) (h1 : v.1 = 1) (ht : 0 ≤ t ∧ t ≤ 4096) : okD (mv v c t).1 = true := by
  obtain ⟨g1, g2, g3, g4, g5, g6⟩ := okD_parts.1 h
  exact okD_parts.2 ⟨g1, g2, mo_cnt g3 (pG_b _ _ _), mo_cnt g4 (pG_b _ _ _), ht, .inl (show ¬ v.1 = 0 by omega)⟩
theorem fst1_mv {m : Mdl} {v : Drv} {c : Cart} {t : Int} (h : fst1 m v c = 0) (h0 : 0 ≤ t) (h1 : t ≤ (c.2.2.2.2.1.length : Int)) : fst1 m (mv v c t).1 (mv v c t).2 = 0 := by
  obtain ⟨k1, k2, k3, k4, k5, k6, k7⟩ := fst1_0 h
  have := (okCart_data k3).1
  exact fst1_mk k1 (mv_drv k2 k4 ⟨h0, by omega⟩) (mv_cart k3) k4 k5 h1
theorem W_0 {c : Cart} {at_ : Int} {l : List Blk} (h : wcode c at_ l = 0) : W c at_ l = (withB c (if l = [] then c.2.2.2.2.1 else c.2.2.2.2.1.take at_.toNat ++ l), 0) := by
  unfold W; rw [if_pos h]
/-- What is written makes a valid cartridge. -/
theorem W_ok {c : Cart} {at_ : Int} {l : List Blk} (h : wcode c at_ l = 0) : okCart (W c at_ l).1 = true := by
  obtain ⟨q1, q2, q3, q4, q5, q6, q7⟩ := wcode_0 h
  have hul := unfit_len q2
  have hall : l.all okBlk = true := List.all_eq_true.2 (fun b hb => (hul b hb).2.2)
  rw [W_0 h]
  obtain ⟨p1, p2, p3, p4, p5, p6, p7⟩ := okCart_parts.1 q1
  refine okCart_parts.2 ⟨p1, p2, ?_, p4, p5, p6, ?_⟩
  · show (((if l = [] then c.2.2.2.2.1 else c.2.2.2.2.1.take at_.toNat ++ l).length : Nat) : Int) ≤ _
    split
    · exact p3
    · rw [List.length_append, List.length_take]
      have : capOfC c = c.2.1.1 * c.2.1.2.1 := rfl
      show _ ≤ c.2.1.1 * c.2.1.2.1
      omega
  · show (if l = [] then c.2.2.2.2.1 else c.2.2.2.2.1.take at_.toNat ++ l).all okBlk = true
    split
    · exact p7
    · rw [List.all_append, hall, Bool.and_true]
      exact List.all_eq_true.2 (fun b hb => List.all_eq_true.1 p7 b (List.mem_of_mem_take hb))
theorem rd_all : ∀ (l : List Blk), l.any unfit = false → rd l l.length = (l, 0)
  | [], _ => rfl
  | b :: l, h => by
    rw [List.any_cons, Bool.or_eq_false_iff] at h
    have h1 := h.1
    unfold unfit at h1
    rw [Bool.or_eq_false_iff] at h1
    rw [List.length_cons]
    unfold rd
    rw [if_neg (by simp [h1.1]), rd_all l h.2]
/-- A failed drive does nothing. -/
theorem failed (m : Mdl) (v : Drv) (c : Cart) (s : Stp) : (op m (2, v.2) c s).2.2.2.2 = 16 ∨ (op m (2, v.2) c s).2.2.2.2 = 8 := by
  have hf : fst1 m (2, v.2) c = 16 ∨ fst1 m (2, v.2) c = 8 := by
    unfold fst1
    split
    · exact .inr rfl
    split
    · exact .inr rfl
    split
    · exact .inr rfl
    · exact .inl rfl
  have hl : le m (2, v.2) c = 16 ∨ le m (2, v.2) c = 8 := by
    unfold le
    split
    · exact .inr rfl
    split
    · exact .inr rfl
    split
    · exact .inr rfl
    · exact .inl rfl
  have hc : ce m (2, v.2) = 16 ∨ ce m (2, v.2) = 8 := by
    unfold ce
    split
    · exact .inr rfl
    split
    · exact .inr rfl
    · exact .inl rfl
  have hn : ¬ fst1 m (2, v.2) c = 0 := by omega
  unfold op
  split
  · show (LoadP m (2, v.2) c).2.2.2 = 16 ∨ (LoadP m (2, v.2) c).2.2.2 = 8
    unfold LoadP; rw [if_neg (by omega)]; exact hl
  split
  · show (UnloadP m (2, v.2) c).2.2.2 = 16 ∨ (UnloadP m (2, v.2) c).2.2.2 = 8
    unfold UnloadP; rw [if_neg hn]; exact hf
  split
  · have e : se m (2, v.2) c s.2.2.1 = fst1 m (2, v.2) c := by unfold se; rw [if_neg hn]
    show (SeekP m (2, v.2) c s.2.2.1).2.2.2 = 16 ∨ (SeekP m (2, v.2) c s.2.2.1).2.2.2 = 8
    unfold SeekP; rw [e, if_neg hn]; exact hf
  split
  · have e : re m (2, v.2) c s.2.2.1 = fst1 m (2, v.2) c := by unfold re; rw [if_neg hn]
    unfold ReadP; rw [e, if_neg hn]; exact hf
  split
  · have e : we m (2, v.2) c s.2.2.2 = fst1 m (2, v.2) c := by unfold we; rw [if_neg hn]
    show (WriteP m (2, v.2) c s.2.2.2).2.2.2 = 16 ∨ (WriteP m (2, v.2) c s.2.2.2).2.2.2 = 8
    unfold WriteP; rw [e, if_neg hn]; exact hf
  · show (CleanP m (2, v.2)).2.2 = 16 ∨ (CleanP m (2, v.2)).2.2 = 8
    unfold CleanP; rw [if_neg (by omega)]; exact hc
theorem le_0 {m : Mdl} {v : Drv} {c : Cart} (h : le m v c = 0) : okM m = true ∧ okD v = true ∧ okCart c = true ∧ v.1 = 0 ∧ due m v = false := by
  unfold le at h
  by_cases a1 : okM m = true
  rotate_left
  · simp [a1] at h
  by_cases a2 : okD v = true
  rotate_left
  · simp [a1, a2] at h
  by_cases a3 : okCart c = true
  rotate_left
  · simp [a1, a2, a3] at h
  rw [if_neg (by simp [a1]), if_neg (by simp [a2]), if_neg (by simp [a3])] at h
  have hd := (okD_parts.1 a2).1
  split at h
  · cases h
  split at h
  · cases h
  split at h
  · cases h
  rename_i q1 q2 q3
  exact ⟨a1, a2, a3, by omega, by simpa using q3⟩
end Go.Proofs.Ytlkjklacanedoaa.Den.G11
