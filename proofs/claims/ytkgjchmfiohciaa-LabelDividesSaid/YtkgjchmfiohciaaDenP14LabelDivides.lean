/- The law LabelDivides holds of the plain functions, for any bytes and blocks. -/
import Derived.Test.YtkgjchmfiohciaaDenS26
import Derived.Test.YtkgjchmfiohciaaDenP14a
set_option linter.unusedVariables false
set_option linter.unusedSimpArgs false
namespace Go.Proofs.Ytkgjchmfiohciaa.Den.G14
open Go.Proofs.Ytkgjchmfiohciaa.Den Go
theorem dv_nil : ∀ n, dv n [] = []
  | 0 => rfl
  | n + 1 => by unfold dv; rw [if_pos rfl]
theorem dv_len : ∀ (n : Nat) (x : List Int), x.length ≤ 64 * n → (dv n x).length = (x.length + 63) / 64
  | 0, x, h => by
    have : x = [] := List.eq_nil_of_length_eq_zero (by omega)
    subst this; rfl
  | n + 1, x, h => by
    unfold dv
    by_cases e : x = []
    · subst e; rw [if_pos rfl]; rfl
    · have hp : 0 < x.length := List.length_pos_iff.2 e
      rw [if_neg e, List.length_cons, dv_len n (x.drop 64) (by rw [List.length_drop]; omega), List.length_drop]
      omega
theorem dv_all : ∀ (n : Nat) (x : List Int), ∀ b ∈ dv n x, b.1 = false ∧ b.2.1 = false ∧ b.2.2.length = 64
  | 0, x, b, h => by simp [dv] at h
  | n + 1, x, b, h => by
    unfold dv at h
    by_cases e : x = []
    · rw [if_pos e] at h; simp at h
    · rw [if_neg e] at h
      rcases List.mem_cons.1 h with rfl | h
      · exact ⟨rfl, rfl, pad_len x⟩
      · exact dv_all n _ b h
theorem dv_bytes (rest : List Blk) : ∀ (n : Nat) (x : List Int), x.length ≤ 64 * n → by_ (dv n x ++ (true, false, []) :: rest) = x ++ List.replicate (64 * (dv n x).length - x.length) 0
  | 0, x, h => by
    have : x = [] := List.eq_nil_of_length_eq_zero (by omega)
    subst this; rfl
  | n + 1, x, h => by
    unfold dv
    by_cases e : x = []
    · subst e; rw [if_pos rfl]; rfl
    · have hp : 0 < x.length := List.length_pos_iff.2 e
      rw [if_neg e, List.cons_append]
      unfold by_
      rw [if_neg (by simp)]
      show pad x ++ by_ _ = _
      rw [dv_bytes rest n (x.drop 64) (by rw [List.length_drop]; omega), List.length_cons, List.length_drop]
      unfold pad
      by_cases hl : x.length ≤ 64
      · rw [List.drop_of_length_le hl, dv_nil, List.take_of_length_le hl, Nat.min_eq_left hl]
        simp
      · rw [Nat.min_eq_right (by omega), Nat.sub_self, List.replicate_zero, List.append_nil, ← List.append_assoc, List.take_append_drop]
        congr 2
        omega
theorem div_l0 (d : Nat) (x : List Int) (rest : List Blk) (l : List Blk) (hy : l.length ≤ 5000) (hd : ∀ b ∈ l, b.1 = false ∧ b.2.1 = false ∧ b.2.2.length = 64) : ∀ (m k : Nat) (i : Int), 0 ≤ i → i + m = l.length → m < k →
    tapearchivelaw14_LabelDivides_l0 d k x rest i l = some (.inl (x, rest, l)) := by
  intro m
  induction m with
  | zero =>
    intro k i h0 h1 hk
    obtain ⟨k, rfl⟩ : ∃ j, k = j + 1 := ⟨k - 1, by omega⟩
    simp only [tapearchivelaw14_LabelDivides_l0, decide_eq_true_eq]
    rw [if_neg (by omega)]
  | succ m ih =>
    intro k i h0 h1 hk
    obtain ⟨k, rfl⟩ : ∃ j, k = j + 1 := ⟨k - 1, by omega⟩
    have ih := ih k (i + 1) (by omega) (by omega) (by omega)
    have hb : (0 : Int) ≤ i ∧ i < (l.length : Int) := by omega
    obtain ⟨q1, q2, q3⟩ := hd _ (mem_getD (z := zBlock) hb.1 hb.2)
    simp only [tapearchivelaw14_LabelDivides_l0, decide_eq_true_eq, if_pos hb, if_pos hb.2, q1, q2, q3, Bool.false_eq_true, if_false]
    rw [w64 (by omega) (by omega), ih]
    rfl
theorem div_l2 (d : Nat) (x : List Int) (r : Nat) (hy : x.length + r ≤ 100000) : ∀ (m k : Nat) (i : Int), (x.length : Int) ≤ i → i + m = x.length + r → m < k →
    tapearchivelaw14_LabelDivides_l2 d k (x ++ List.replicate r 0) i = some (.inl ()) := by
  intro m
  have hl : ((x ++ List.replicate r (0 : Int)).length : Int) = x.length + r := by rw [List.length_append, List.length_replicate]; omega
  induction m with
  | zero =>
    intro k i h0 h1 hk
    obtain ⟨k, rfl⟩ : ∃ j, k = j + 1 := ⟨k - 1, by omega⟩
    simp only [tapearchivelaw14_LabelDivides_l2, decide_eq_true_eq, hl]
    rw [if_neg (by omega)]
  | succ m ih =>
    intro k i h0 h1 hk
    obtain ⟨k, rfl⟩ : ∃ j, k = j + 1 := ⟨k - 1, by omega⟩
    have ih := ih k (i + 1) (by omega) (by omega) (by omega)
    have hz : (x ++ List.replicate r (0 : Int)).getD i.toNat 0 = 0 := by
      rw [List.getD_eq_getElem?_getD, List.getElem?_append_right (by omega), List.getElem?_replicate]
      split <;> rfl
    simp only [tapearchivelaw14_LabelDivides_l2, decide_eq_true_eq, hl]
    rw [if_pos (by omega), if_pos (by omega), hz, w64 (by omega) (by omega), ih]
    rfl
theorem pure_LabelDivides : ∀ (a0 : List Int) (a1 : List (Bool × Bool × List Int)), OkT (.slice (.int .u8)) a0 → OkT (.slice kBlock) a1 → ∃ d, tapearchivelaw14_LabelDivides d a0 a1 = some true := by
  intro x rest _ _
  refine ⟨20000, ?_⟩
  unfold tapearchivelaw14_LabelDivides
  rw [lives_eq]
  simp only [Option.bind_some, Bool.not_true, Bool.false_eq_true, if_false, decide_eq_true_eq]
  by_cases p1 : (x.length : Int) > 4096
  · rw [if_pos p1]; rfl
  rw [if_neg p1]
  obtain ⟨b, hb, hlt⟩ := few_eq rest
  rw [hb]
  cases b with
  | false => rfl
  | true =>
    obtain ⟨h1, h2⟩ := hlt rfl
    have hfit : x.length ≤ 64 * (x.length / 64 + 1) := by omega
    have hlen : (Dv x).length = (x.length + 63) / 64 := dv_len _ x hfit
    have hall : ∀ b ∈ Dv x, b.1 = false ∧ b.2.1 = false ∧ b.2.2.length = 64 := dv_all _ x
    have hby : by_ ((Dv x ++ [(true, false, [])]) ++ rest) = x ++ List.replicate (64 * (Dv x).length - x.length) 0 := by
      rw [List.append_assoc, List.singleton_append]; exact dv_bytes rest _ x hfit
    simp only [Option.bind_some, Bool.not_true, Bool.false_eq_true, if_false]
    rw [divide_eq (by omega)]
    simp only [Option.bind_some]
    rw [w64 (x := (x.length : Int) + 64) (by omega) (by omega), w64 (x := (x.length : Int) + 64 - 1) (by omega) (by omega), Int.tdiv_eq_ediv_of_nonneg (by omega), w64 (by omega) (by omega), decide_eq_true (show ((Dv x).length : Int) = ((x.length : Int) + 64 - 1) / 64 by omega), if_neg (by simp)]
    rw [div_l0 20000 x rest (Dv x) (by omega) hall (Dv x).length 20000 0 (by omega) (by omega) (by omega)]
    simp only [Option.bind_some]
    have hdD : ∀ b ∈ Dv x, b.2.2.length ≤ 1000 := fun b hb => by rw [(hall b hb).2.2]; omega
    rw [copied_eq (by omega) hdD]
    simp only [Option.bind_some, decide_eq_true_eq, List.length_append, List.length_singleton]
    rw [if_pos (by omega), if_pos (by omega)]
    rw [bytes_eq (by simp only [List.length_append, List.length_singleton]; omega) (fun b hb => by
      rcases List.mem_append.1 hb with hb | hb
      · rcases List.mem_append.1 hb with hb | hb
        · exact hdD b hb
        · rw [List.mem_singleton.1 hb]; simp
      · have := h2 b hb; omega), hby]
    generalize hr : 64 * (Dv x).length - x.length = r
    have hl : ((x ++ List.replicate r (0 : Int)).length : Int) = x.length + r := by rw [List.length_append, List.length_replicate]; omega
    simp only [Option.bind_some, hl]
    rw [w64 (x := ((Dv x).length : Int) * 64) (by omega) (by omega), decide_eq_true (show (x.length : Int) + r = ((Dv x).length : Int) * 64 by omega), if_neg (by simp), if_pos (by omega), Int.toNat_natCast, List.take_left', List.drop_zero, decide_eq_true rfl, if_neg (by simp)]
    · simp only [Option.bind_some]
      rw [div_l2 20000 x r (by omega) r 20000 x.length (by omega) (by omega) (by omega)]
      rfl
    · rfl
end Go.Proofs.Ytkgjchmfiohciaa.Den.G14
