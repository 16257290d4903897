/- The law CartridgeCounts holds of the plain functions, for any cartridge, place and number of marks. -/
import Derived.Test.YtiaafpihoikeeaaDenS26
import Derived.Test.YtiaafpihoikeeaaDenP10i
namespace Go.Proofs.Ytiaafpihoikeeaa.Den.G10
open Go.Proofs.Ytiaafpihoikeeaa.Den Go
set_option linter.unusedVariables false
theorem mk_cons (b : Blk) (l : List Blk) (n : Nat) (i : Int) : mk (b :: l) (n + 1) i = if b.1 = true ∧ b.2.1 = false then mk l n (i + 1) else mk l (n + 1) (i + 1) := rfl
/-- One mark after another is the same as so many at once. -/
theorem mk_one : ∀ (l : List Blk) (n : Nat) (i : Int), 0 ≤ i → (mk l 1 i = (0, 11) ∧ mk l (n + 1) i = (0, 11)) ∨
    (∃ j : Nat, mk l 1 i = (i + j + 1, 0) ∧ j < l.length ∧ (l.getD j zBlock).1 = true ∧ mk l (n + 1) i = mk (l.drop (j + 1)) n (i + j + 1))
  | [], n, i, _ => .inl ⟨rfl, rfl⟩
  | b :: l, n, i, h => by
    rw [mk_cons b l n i, show mk (b :: l) 1 i = if b.1 = true ∧ b.2.1 = false then mk l 0 (i + 1) else mk l 1 (i + 1) from rfl]
    by_cases c : b.1 = true ∧ b.2.1 = false
    · refine .inr ⟨0, ?_, by simp, ?_, ?_⟩
      · rw [if_pos c, mk_0]; simp
      · simpa using c.1
      · rw [if_pos c]; simp
    · rw [if_neg c, if_neg c]
      rcases mk_one l n (i + 1) (by omega) with ⟨h1, h2⟩ | ⟨j, h1, h2, h3, h4⟩
      · exact .inl ⟨h1, h2⟩
      · refine .inr ⟨j + 1, ?_, by simpa using h2, by simpa using h3, ?_⟩
        · rw [h1, show i + 1 + (j : Int) + 1 = i + ((j + 1 : Nat) : Int) + 1 by omega]
        · rw [h4, List.drop_succ_cons, show i + 1 + (j : Int) + 1 = i + ((j + 1 : Nat) : Int) + 1 by omega]
theorem counts_l0 {c : Cart} (h1 : c.2.2.2.2.1.length ≤ 9000) (h2 : c.1.size ≤ 9000) (ho : okCart c = true) (N : Int) (hN : N ≤ 300) : ∀ (m k : Nat) (a i : Int) (t : Int × Int), 0 ≤ a → a ≤ c.2.2.2.2.1.length → 0 ≤ i → i + m = N → m < k → mk (c.2.2.2.2.1.drop a.toNat) m a = t →
    tapearchivelaw10_CartridgeCounts_l0 10000 k a N t.1 t.2 i c = some (.inr true) ∨ ∃ a', tapearchivelaw10_CartridgeCounts_l0 10000 k a N t.1 t.2 i c = some (.inl (a', t.1, t.2)) ∧ (t.2 = 0 → t.1 = a') := by
  intro m
  induction m with
  | zero =>
    intro k a i t h0 h0' hi him hk ht
    obtain ⟨k, rfl⟩ : ∃ j, k = j + 1 := ⟨k - 1, by omega⟩
    simp only [tapearchivelaw10_CartridgeCounts_l0, decide_eq_true_eq]
    rw [if_neg (by omega)]
    refine .inr ⟨a, rfl, fun _ => ?_⟩
    rw [← ht, mk_0]
  | succ m ih =>
    intro k a i t h0 h0' hi him hk ht
    obtain ⟨k, rfl⟩ : ∃ j, k = j + 1 := ⟨k - 1, by omega⟩
    have hM : M c a 1 = mk (c.2.2.2.2.1.drop a.toNat) 1 a := by
      unfold M
      rw [if_neg (by simp [ho]), if_neg (by omega)]; rfl
    simp only [tapearchivelaw10_CartridgeCounts_l0, decide_eq_true_eq]
    rw [if_pos (by omega), marks_eq h1 h2 a 1 (by omega), hM, w64 (x := i + 1) (by omega) (by omega)]
    rcases mk_one (c.2.2.2.2.1.drop a.toNat) m a h0 with ⟨g1, g2⟩ | ⟨j, g1, g2, g3, g4⟩
    · left
      rw [g1]
      rw [g2] at ht
      subst ht
      simp [awake_eq]
    · rw [g1]
      rw [g4, List.drop_drop] at ht
      rw [List.length_drop] at g2
      have hd : (c.2.2.2.2.1.drop a.toNat).getD j zBlock = c.2.2.2.2.1.getD (a + j).toNat zBlock := by
        rw [List.getD_eq_getElem?_getD, List.getD_eq_getElem?_getD, List.getElem?_drop]
        congr 2
        omega
      rw [hd] at g3
      simp only [Option.bind_some, decide_true, Bool.not_true, Bool.false_eq_true, if_false]
      rw [if_neg (by omega), if_neg (by omega), w64 (x := a + j + 1 - 1) (by omega) (by omega), if_pos (by omega), show a + (j : Int) + 1 - 1 = a + j by omega, g3]
      simp only [Bool.not_true, Bool.false_eq_true, if_false]
      exact ih k (a + j + 1) (i + 1) t (by omega) (by omega) (by omega) (by omega) (by omega) (by rw [← ht]; congr 2; omega)
theorem counts_bad {c : Cart} (h1 : c.2.2.2.2.1.length ≤ 9000) (h2 : c.1.size ≤ 9000) (a N : Int) (q1 : (M c a N).1 = 0) (q2 : (M c a N).2 ≠ 0) (q3 : M c a 1 = M c a N) (hN : 0 ≤ N) (k : Nat) :
    tapearchivelaw10_CartridgeCounts_l0 10000 (k + 1) a N (M c a N).1 (M c a N).2 0 c = some (.inr true) ∨ ∃ a', tapearchivelaw10_CartridgeCounts_l0 10000 (k + 1) a N (M c a N).1 (M c a N).2 0 c = some (.inl (a', (M c a N).1, (M c a N).2)) ∧ ((M c a N).2 = 0 → (M c a N).1 = a') := by
  simp only [tapearchivelaw10_CartridgeCounts_l0]
  by_cases p3 : N = 0
  · right
    refine ⟨a, ?_, fun h => absurd h q2⟩
    rw [if_neg (by rw [decide_eq_true_eq]; omega)]
  · left
    rw [if_pos (by rw [decide_eq_true_eq]; omega), marks_eq h1 h2 a 1 (by omega), q3]
    simp only [Option.bind_some]
    rw [decide_eq_false q2, if_pos (by simp), if_pos (by simp), if_pos (by rw [q1]; rfl), awake_eq]; rfl
theorem pure_CartridgeCounts : ∀ (a0 : ByteArray × (Int × Int × Int × Int × Int × Int) × Bool × Bool × (List (Bool × Bool × List Int)) × Int × Int × Int) (a1 : Int) (a2 : Int), OkT kCartridge a0 → OkT (.int .i64) a1 → OkT (.int .i64) a2 → ∃ d, tapearchivelaw10_CartridgeCounts d a0 a1 a2 = some true := by
  intro c a N _ _ hN
  have hN := (ok64 hN).2
  refine ⟨10000, ?_⟩
  unfold tapearchivelaw10_CartridgeCounts
  obtain ⟨b, hb, hlt⟩ := light_eq c
  rw [hb]
  cases b with
  | false => simp only [Option.bind_some, awake_eq]; rfl
  | true =>
    obtain ⟨⟨h1, h3⟩, h2⟩ := hlt rfl
    simp only [Option.bind_some, Bool.not_true, Bool.false_eq_true, if_false, decide_eq_true_eq]
    by_cases p1 : N < 0
    · rw [if_pos p1]; simp [awake_eq]
    rw [if_neg p1]
    by_cases p2 : N > 300
    · rw [if_pos p2]; simp [awake_eq]
    rw [if_neg p2]
    simp only [Option.bind_some]
    rw [marks_eq (by omega) (by omega) a N hN]
    simp only [Option.bind_some]
    have key : tapearchivelaw10_CartridgeCounts_l0 10000 10000 a N (M c a N).1 (M c a N).2 0 c = some (.inr true) ∨ ∃ a', tapearchivelaw10_CartridgeCounts_l0 10000 10000 a N (M c a N).1 (M c a N).2 0 c = some (.inl (a', (M c a N).1, (M c a N).2)) ∧ ((M c a N).2 = 0 → (M c a N).1 = a') := by
      by_cases hx : okCart c = false ∨ a < 0 ∨ a > (c.2.2.2.2.1.length : Int)
      · have hM : (M c a N).1 = 0 ∧ (M c a N).2 ≠ 0 ∧ ∀ n, 0 ≤ n → M c a n = M c a N := by
          unfold M
          rcases hx with hx | hx | hx
          · simp [hx]
          · cases okCart c <;> simp [hx]
          · cases okCart c
            · simp
            · have : ¬ a < 0 := by omega
              simp [hx]
        obtain ⟨q1, q2, q3⟩ := hM
        exact counts_bad (by omega) (by omega) a N q1 q2 (q3 1 (by omega)) (by omega) 9999
      · have ho : okCart c = true := by cases h : okCart c <;> simp_all
        have hM : M c a N = mk (c.2.2.2.2.1.drop a.toNat) N.toNat a := by
          unfold M
          rw [if_neg (by simp [ho]), if_neg (by omega)]
        exact counts_l0 (by omega) (by omega) ho N (by omega) N.toNat 10000 a 0 _ (by omega) (by omega) (by omega) (by omega) (by omega) hM.symm
    rcases key with h | ⟨a', h, hh⟩
    · rw [h]; rfl
    · rw [h]
      simp only [Option.bind_some]
      by_cases z : (M c a N).2 = 0
      · rw [decide_eq_true z, if_neg (by simp), if_pos (hh z), awake_eq]; rfl
      · rw [decide_eq_false z, if_pos (by simp), awake_eq]; rfl
end Go.Proofs.Ytiaafpihoikeeaa.Den.G10
