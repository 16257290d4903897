/- The law CartridgeNew holds of the plain functions, for any cartridge. -/
import Derived.Test.YtiaafpihoikeeaaDenS26
import Derived.Test.YtiaafpihoikeeaaDenP10e
namespace Go.Proofs.Ytiaafpihoikeeaa.Den.G10
open Go.Proofs.Ytiaafpihoikeeaa.Den Go
set_option linter.unusedVariables false
set_option linter.unusedSimpArgs false
theorem rValid_l0 (d : Nat) (l : List Blk) (hy : (l.length : Int) ≤ 9223372036854775806) (a : ByteArray) (b0 b1 b2 b3 b4 b5 : Int) (p q : Bool) (x y z : Int) : ∀ (m k : Nat) (i : Int), 0 ≤ i → i + m = l.length → m < k →
    tapearchiveref10_Valid_l0 d k i a b0 b1 b2 b3 b4 b5 p q l x y z = some (if (l.drop i.toNat).all okBlk = true then .inl (a, b0, b1, b2, b3, b4, b5, p, q, l, x, y, z) else .inr false) := by
  intro m
  induction m with
  | zero =>
    intro k i h0 h1 hk
    obtain ⟨k, rfl⟩ : ∃ j, k = j + 1 := ⟨k - 1, by omega⟩
    rw [List.drop_of_length_le (by omega)]
    simp only [tapearchiveref10_Valid_l0, decide_eq_true_eq]
    rw [if_neg (by omega)]
    rfl
  | succ m ih =>
    intro k i h0 h1 hk
    obtain ⟨k, rfl⟩ : ∃ j, k = j + 1 := ⟨k - 1, by omega⟩
    have ih := ih k (i + 1) (by omega) (by omega) (by omega)
    rw [drop_getD z54 h0 (by omega), List.all_cons]
    simp only [tapearchiveref10_Valid_l0, rblock_eq, Option.bind_some, decide_eq_true_eq]
    rw [if_pos (by omega), if_pos (by omega), w64 (by omega) (by omega), ih]
    cases okBlk (l.getD i.toNat z54) <;> rfl
theorem rvalid_eq {c : Cart} (h1 : c.2.2.2.2.1.length ≤ 900) (h2 : c.1.size ≤ 900) : tapearchiveref10_Valid 1000 c = some (okCart c) := by
  obtain ⟨s, g, w, dm, l, x, y, z⟩ := c
  have hl := rValid_l0 1000 l (by simp at h1; omega) s g.1 g.2.1 g.2.2.1 g.2.2.2.1 g.2.2.2.2.1 g.2.2.2.2.2 w dm x y z l.length 1000 0 (by omega) (by omega) (by simp at h1; omega)
  rw [Int.toNat_zero, List.drop_zero] at hl
  unfold tapearchiveref10_Valid
  simp only at h1 h2
  simp only [rbar_eq h2, rGeo_eq, rcap_eq, Option.bind_some, okCart, decide_eq_true_eq]
  cases okBar s
  · rfl
  · cases hg : okG g
    · rfl
    · simp only [Bool.not_true, Bool.false_eq_true, if_false, if_true, Bool.true_and]
      by_cases hc : (l.length : Int) ≤ g.1 * g.2.1
      · rw [if_neg (by omega), decide_eq_true hc]
        simp only [Option.bind_some, hl]
        cases l.all okBlk
        · cases okCnt x <;> cases okCnt y <;> cases okCnt z <;> rfl
        · simp only [if_true, rcount_eq, Option.bind_some]
          cases okCnt x <;> cases okCnt y <;> cases okCnt z <;> rfl
      · rw [if_pos (by omega), decide_eq_false hc]
        rfl
theorem same_empty : tapearchiveref10_SameBlocks 1000 [] [] = some true := by kernel_rfl
theorem same_refl (c : Cart) (h : c.2.2.2.2.1 = []) : tapearchiveref10_Same 1000 c c = some true := by
  unfold tapearchiveref10_Same
  rw [h, same_empty]
  simp
theorem free_same {c : Cart} (h1 : c.2.2.2.2.1.length ≤ 900) (h2 : c.1.size ≤ 900) : ∃ n, cartridge_Free 1000 c = some n ∧ tapearchiveref10_Free 1000 c = some n := by
  unfold cartridge_Free tapearchiveref10_Free
  rw [valid_eq h1 h2, rvalid_eq h1 h2]
  simp only [Option.bind_some, cap_eq, rcap_eq]
  cases okCart c
  · exact ⟨_, rfl, rfl⟩
  · cases c.2.2.2.1
    · exact ⟨_, rfl, rfl⟩
    · exact ⟨_, rfl, rfl⟩
theorem pure_CartridgeNew : ∀ (a0 : ByteArray × (Int × Int × Int × Int × Int × Int) × Bool × Bool × (List (Bool × Bool × List Int)) × Int × Int × Int), OkT k26 a0 → ∃ d, tapearchivelaw10_CartridgeNew d a0 = some true := by
  intro c _
  refine ⟨1000, ?_⟩
  unfold tapearchivelaw10_CartridgeNew
  obtain ⟨b, hb⟩ := light_some c
  rw [hb]
  cases b with
  | false => simp only [Option.bind_some, awake_eq]; rfl
  | true =>
    obtain ⟨h1, h2⟩ := light_ok hb
    obtain ⟨n, hn1, hn2⟩ := free_same (c := c) (by omega) (by omega)
    have hnew : ∃ r, cartridge_New 1000 c.1 c.2.1 c.2.2.1 = some r ∧ tapearchiveref10_New 1000 c.1 c.2.1 c.2.2.1 = some r ∧ r.1.2.2.2.2.1 = [] := by
      unfold cartridge_New tapearchiveref10_New
      rw [bar_eq (by omega), rbar_eq (by omega), geo_eq (by omega), rGeo_eq]
      simp only [Option.bind_some]
      cases okBar c.1
      · exact ⟨_, rfl, rfl, rfl⟩
      · cases okG c.2.1
        · exact ⟨_, rfl, rfl, rfl⟩
        · exact ⟨_, rfl, rfl, rfl⟩
    obtain ⟨r, hr1, hr2, hr3⟩ := hnew
    simp only [Option.bind_some, Bool.not_true, Bool.false_eq_true, if_false, hr1, hr2, valid_eq (c := c) (by omega) (by omega), rvalid_eq (c := c) (by omega) (by omega), same_refl r.1 hr3, hn1, hn2, awake_eq, decide_true, if_true]
end Go.Proofs.Ytiaafpihoikeeaa.Den.G10
