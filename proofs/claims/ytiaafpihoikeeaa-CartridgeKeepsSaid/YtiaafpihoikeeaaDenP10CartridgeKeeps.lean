/- The law CartridgeKeeps holds of the plain functions, for any cartridge and steps. -/
import Derived.Test.YtiaafpihoikeeaaDenS26
import Derived.Test.YtiaafpihoikeeaaDenP10j
namespace Go.Proofs.Ytiaafpihoikeeaa.Den.G10
open Go.Proofs.Ytiaafpihoikeeaa.Den Go
set_option linter.unusedVariables false
theorem keeps_l0 (t : List (Bool × Int × List Blk)) (ht : t.length ≤ 20) (c0 : Cart) : ∀ (m k : Nat) (i : Int) (c : Cart), 0 ≤ i → i + m = t.length → m < k → okCart c = true → c.1.size ≤ 100 → c.2.2.1 = true → c.2.2.2.2.2.1 = c0.2.2.2.2.2.1 →
    tapearchivelaw10_CartridgeKeeps_l0 10000 k t i c0 c = some (.inl ()) ∨ tapearchivelaw10_CartridgeKeeps_l0 10000 k t i c0 c = some (.inr true) := by
  intro m
  induction m with
  | zero =>
    intro k i c h0 h1 hk ho hs hw he
    obtain ⟨k, rfl⟩ : ∃ j, k = j + 1 := ⟨k - 1, by omega⟩
    simp only [tapearchivelaw10_CartridgeKeeps_l0, decide_eq_true_eq]
    rw [if_neg (by omega)]
    exact .inl rfl
  | succ m ih =>
    intro k i c h0 h1 hk ho hs hw he
    obtain ⟨k, rfl⟩ : ∃ j, k = j + 1 := ⟨k - 1, by omega⟩
    have ih := fun c => ih k (i + 1) c (by omega) (by omega) (by omega)
    obtain ⟨d1, d2⟩ := okCart_data ho
    have hb : (0 : Int) ≤ i ∧ i < (t.length : Int) := by omega
    simp only [tapearchivelaw10_CartridgeKeeps_l0, decide_eq_true_eq, if_pos hb, if_pos hb.2]
    generalize t.getD i.toNat ztapearchivelaw10_Step = s
    obtain ⟨b, hlb, hlt⟩ := lightBlocks_eq s.2.2
    rw [hlb]
    cases b with
    | false => right; simp only [Option.bind_some, Bool.not_false, if_true, awake_eq]
    | true =>
      have hl := (hlt rfl).1
      simp only [Option.bind_some, Bool.not_true, Bool.false_eq_true, if_false, write_eq (c := c) (at_ := s.2.1) (l := s.2.2) (by omega) (by omega) (by omega), erase_eq (c := c) (by omega) (by omega)]
      have hwr : IntKind.i64.wrap (i + 1) = i + 1 := w64 (by omega) (by omega)
      by_cases hs1 : s.1 = true
      · rw [if_pos hs1]
        have hX : (X c).2 ≠ 0 := by
          unfold X
          rw [if_neg (by simp [ho]), if_pos (.inr hw)]
          simp
        simp only [Option.bind_some, hwr]
        rw [decide_eq_false hX, if_pos (by simp)]
        exact ih c ho hs hw he
      · rw [if_neg hs1]
        simp only [Option.bind_some, hwr]
        by_cases hz : (W c s.2.1 s.2.2).2 = 0
        · have h0 : wcode c s.2.1 s.2.2 = 0 := by
            unfold W at hz
            split at hz
            · assumption
            · exact hz
          obtain ⟨q1, q2, q3, q4, q5, q6, q7⟩ := wcode_0 h0
          have hW := W_0 h0
          have hok := W_ok h0
          have hp : ∃ r, (W c s.2.1 s.2.2).1.2.2.2.2.1 = c.2.2.2.2.1 ++ r := by
            rw [hW]
            show ∃ r, (if s.2.2 = [] then c.2.2.2.2.1 else c.2.2.2.2.1.take s.2.1.toNat ++ s.2.2) = c.2.2.2.2.1 ++ r
            split
            · exact ⟨[], by simp⟩
            · exact ⟨s.2.2, by rw [List.take_of_length_le (by have := q6 hw; omega)]⟩
          obtain ⟨r, hr⟩ := hp
          have hlen : (W c s.2.1 s.2.2).1.2.2.2.2.1.length = c.2.2.2.2.1.length + r.length := by rw [hr, List.length_append]
          have hq : (W c s.2.1 s.2.2).1.1 = c.1 ∧ (W c s.2.1 s.2.2).1.2.2.1 = c.2.2.1 ∧ (W c s.2.1 s.2.2).1.2.2.2.2.2.1 = c.2.2.2.2.2.1 := by rw [hW]; exact ⟨rfl, rfl, rfl⟩
          rw [decide_eq_true hz, if_neg (by simp), if_neg (by omega), if_pos (by omega), Int.toNat_natCast, List.drop_zero, hr, List.take_left', sameBlocks_refl (by omega)]
          · simp only [Option.bind_some, Bool.not_true, Bool.false_eq_true, if_false]
            rw [hq.2.2, he, decide_eq_true rfl, if_neg (by simp)]
            exact ih _ hok (by rw [hq.1]; exact hs) (by rw [hq.2.1]; exact hw) (by rw [hq.2.2]; exact he)
          · rfl
        · rw [decide_eq_false hz, if_pos (by simp)]
          exact ih c ho hs hw he
theorem pure_CartridgeKeeps : ∀ (a0 : ByteArray × (Int × Int × Int × Int × Int × Int) × Bool × Bool × (List (Bool × Bool × List Int)) × Int × Int × Int) (a1 : List (Bool × Int × List (Bool × Bool × List Int))), OkT kCartridge a0 → OkT (.slice ktapearchivelaw10_Step) a1 → ∃ d, tapearchivelaw10_CartridgeKeeps d a0 a1 = some true := by
  intro c t _ _
  refine ⟨10000, ?_⟩
  unfold tapearchivelaw10_CartridgeKeeps
  obtain ⟨b, hb, hlt⟩ := light_eq c
  rw [hb]
  cases b with
  | false => simp only [Option.bind_some, awake_eq]; rfl
  | true =>
    obtain ⟨⟨h1, h3⟩, h2⟩ := hlt rfl
    simp only [Option.bind_some, Bool.not_true, Bool.false_eq_true, if_false, decide_eq_true_eq, rvalid_eq (c := c) (by omega) (by omega), awake_eq]
    by_cases p1 : (t.length : Int) > 20
    · rw [if_pos p1]; rfl
    rw [if_neg p1]
    cases hw : c.2.2.1 with
    | false => rfl
    | true =>
      cases ho : okCart c with
      | false => rfl
      | true =>
        simp only [Option.bind_some, Bool.not_true, Bool.false_eq_true, if_false]
        rcases keeps_l0 t (by omega) c t.length 10000 0 c (by omega) (by omega) (by omega) ho h2 hw rfl with h | h
        · rw [h]; rfl
        · rw [h]; rfl
end Go.Proofs.Ytiaafpihoikeeaa.Den.G10
