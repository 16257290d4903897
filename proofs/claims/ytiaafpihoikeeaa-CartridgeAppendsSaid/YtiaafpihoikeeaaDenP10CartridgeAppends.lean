/- The law CartridgeAppends holds of the plain functions, for any cartridge and blocks. -/
import Derived.Test.YtiaafpihoikeeaaDenS26
import Derived.Test.YtiaafpihoikeeaaDenP10j
namespace Go.Proofs.Ytiaafpihoikeeaa.Den.G10
open Go.Proofs.Ytiaafpihoikeeaa.Den Go
set_option linter.unusedVariables false
theorem rd_all : ∀ (l : List Blk), l.any unfit = false → rd l l.length = (l, 0)
  | [], _ => rfl
  | b :: l, h => by
    rw [List.any_cons, Bool.or_eq_false_iff] at h
    have h1 := h.1
    unfold unfit at h1
    rw [Bool.or_eq_false_iff] at h1
    rw [List.length_cons]
    unfold rd
    rw [if_neg (by simp [h1.1]), rd_all l h.2]
/-- The places that are free. -/
def Fr (c : Cart) : Int := if okCart c = false ∨ c.2.2.2.1 = true then 0 else capOfC c - c.2.2.2.2.1.length
theorem free_eq {c : Cart} (h1 : c.2.2.2.2.1.length ≤ 9000) (h2 : c.1.size ≤ 9000) : cartridge_Free 10000 c = some (Fr c) := by
  unfold cartridge_Free Fr
  rw [valid_eq h1 h2]
  cases ho : okCart c with
  | false => rfl
  | true =>
    obtain ⟨hg, hc1, hc2, _⟩ := okCart_g ho
    cases hk : c.2.2.2.1 with
    | true => simp
    | false =>
      simp only [Option.bind_some, Bool.not_true, Bool.false_eq_true, Bool.true_eq_false, if_false, or_self, (cap_ok ho).1]
      rw [w64 (by omega) (by omega)]
theorem pure_CartridgeAppends : ∀ (a0 : ByteArray × (Int × Int × Int × Int × Int × Int) × Bool × Bool × (List (Bool × Bool × List Int)) × Int × Int × Int) (a1 : List (Bool × Bool × List Int)), OkT kCartridge a0 → OkT (.slice kBlock) a1 → ∃ d, tapearchivelaw10_CartridgeAppends d a0 a1 = some true := by
  intro c l _ _
  refine ⟨10000, ?_⟩
  unfold tapearchivelaw10_CartridgeAppends
  obtain ⟨b, hb, hlt⟩ := light_eq c
  obtain ⟨b2, hb2, hlt2⟩ := lightBlocks_eq l
  rw [hb]
  cases b with
  | false => simp only [Option.bind_some, awake_eq]; rfl
  | true =>
    rw [hb2]
    cases b2 with
    | false => simp only [Option.bind_some, awake_eq]; rfl
    | true =>
      obtain ⟨⟨h1, h3⟩, h2⟩ := hlt rfl
      obtain ⟨h4, h5⟩ := hlt2 rfl
      simp only [Option.bind_some, Bool.not_true, Bool.false_eq_true, if_false, write_eq (c := c) (at_ := (c.2.2.2.2.1.length : Int)) (l := l) (by omega) (by omega) (by omega), rvalid_eq (c := c) (by omega) (by omega), awake_eq]
      by_cases hz : (W c (c.2.2.2.2.1.length : Int) l).2 = 0
      · have h0 : wcode c (c.2.2.2.2.1.length : Int) l = 0 := by
          unfold W at hz
          split at hz
          · assumption
          · exact hz
        obtain ⟨q1, q2, q3, q4, q5, q6, q7⟩ := wcode_0 h0
        obtain ⟨hg, hc1, hc2, _⟩ := okCart_g q1
        have hok := W_ok h0
        have hW := W_0 h0
        have hr : (W c (c.2.2.2.2.1.length : Int) l).1.2.2.2.2.1 = c.2.2.2.2.1 ++ l := by
          rw [hW]
          show (if l = [] then c.2.2.2.2.1 else c.2.2.2.2.1.take ((c.2.2.2.2.1.length : Int)).toNat ++ l) = c.2.2.2.2.1 ++ l
          rw [Int.toNat_natCast, List.take_length]
          split
          · rename_i h; subst h; simp
          · rfl
        have hlen : (W c (c.2.2.2.2.1.length : Int) l).1.2.2.2.2.1.length = c.2.2.2.2.1.length + l.length := by rw [hr, List.length_append]
        have hq : (W c (c.2.2.2.2.1.length : Int) l).1.1 = c.1 ∧ (W c (c.2.2.2.2.1.length : Int) l).1.2.2.2.1 = c.2.2.2.1 ∧ capOfC (W c (c.2.2.2.2.1.length : Int) l).1 = capOfC c := by rw [hW]; exact ⟨rfl, rfl, rfl⟩
        have hR : R (W c (c.2.2.2.2.1.length : Int) l).1 ((c.2.2.2.2.1.length : Int), (l.length : Int)) = (l, 0) := by
          unfold R
          rw [if_neg (by simp [hok]), if_neg (by simp only; omega), hr]
          simp only [Int.toNat_natCast, List.drop_left]
          exact rd_all l q2
        have hsz : (W c (c.2.2.2.2.1.length : Int) l).1.1.size ≤ 9000 := by rw [hq.1]; omega
        have hF : Fr (W c (c.2.2.2.2.1.length : Int) l).1 = capOfC c - ((c.2.2.2.2.1.length + l.length : Nat) : Int) := by
          unfold Fr
          rw [if_neg (by rw [hok, hq.2.1, q3]; simp), hq.2.2, hlen]
        have hF2 : Fr c = capOfC c - (c.2.2.2.2.1.length : Int) := by
          unfold Fr
          rw [if_neg (by rw [q1, q3]; simp)]
        rw [decide_eq_true hz, if_neg (by simp), read_eq (by omega) hsz, hR]
        simp only [Option.bind_some, decide_true, if_true]
        rw [sameBlocks_refl (by omega), w64 (by omega) (by omega), hlen, valid_eq (by omega) hsz, hok, free_eq (by omega) hsz, free_eq (by omega) (by omega), hF, hF2]
        simp only [Option.bind_some, if_true]
        rw [if_pos (by rw [decide_eq_true_eq]; omega), if_pos (by rw [decide_eq_true_eq]; omega), Int.toNat_natCast, List.drop_zero, hr, List.take_left', sameBlocks_refl (by omega)]
        · simp only [Option.bind_some, if_true]
          rw [w64 (by omega) (by omega), if_pos (by rw [decide_eq_true_eq]; omega)]
        · rfl
      · have h0 : W c (c.2.2.2.2.1.length : Int) l = (zC, wcode c (c.2.2.2.2.1.length : Int) l) := by
          unfold W
          rw [if_neg]
          intro h
          exact hz (by rw [W_0 h])
        rw [decide_eq_false hz, if_pos (by simp)]
        cases ho : okCart c with
        | false => rfl
        | true =>
          have h7 : wcode c (c.2.2.2.2.1.length : Int) l ≠ 7 := by
            unfold wcode
            split
            · decide
            · split
              · decide
              · rw [if_neg (by omega)]
                split
                · decide
                · split <;> decide
          rw [h0, decide_eq_false h7]
          rfl
end Go.Proofs.Ytiaafpihoikeeaa.Den.G10
