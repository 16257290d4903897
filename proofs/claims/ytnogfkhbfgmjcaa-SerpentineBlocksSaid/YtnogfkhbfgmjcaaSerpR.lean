/- What the functions of the reference of layer 9 compute, in plain numbers, for any geometry and any numbers within an int. -/
import Derived.Test.YtnogfkhbfgmjcaaPx10
import Derived.Test.YtnogfkhbfgmjcaaPx12
import Derived.Test.YtnogfkhbfgmjcaaPx14
import Derived.Test.YtnogfkhbfgmjcaaPx17
import Derived.Test.YtnogfkhbfgmjcaaPx6
import Derived.Test.YtnogfkhbfgmjcaaPx7
import Derived.Test.YtnogfkhbfgmjcaaPx8
import Derived.Test.YtnogfkhbfgmjcaaPx9
import Derived.Test.YtnogfkhbfgmjcaaSerpC
namespace Go.Proofs.Ytnogfkhbfgmjcaa.P
open Go.RowKit Go.Proofs.YtnogfkhbfgmjcaaW.PrintWords Go.Proofs.YtnogfkhbfgmjcaaW.PureKit
set_option linter.unusedVariables false
set_option linter.unusedSimpArgs false

theorem rtime_eq (x : Int) : tapearchiveref09_time.f x = some (decide (TmOk x)) := by
  unfold tapearchiveref09_time.f
  by_cases a : x ≥ 0
  · rw [if_pos a]; congr 1; rw [decide_eq_decide]; unfold TmOk; omega
  · rw [if_neg a, decide_eq_false (by unfold TmOk; omega)]

theorem rValid_ev (W L S T J R : Int) : Ev (fun k => tapearchiveref09_Valid.f k W L S T J R) (decide (GV W L S T J R)) := by
  refine Ev.shift 1 ⟨0, fun k hk => ?_⟩
  simp only [tapearchiveref09_Valid.f, tapearchiveref09_Valid.j0, rtime_eq, Option.bind_some, if_true]
  by_cases a : W < 1
  · rw [if_pos a, decide_eq_false (by unfold GV; omega)]
  · rw [if_neg a]
    by_cases b : W > 32
    · rw [if_pos b, decide_eq_false (by unfold GV; omega)]
    · rw [if_neg b]
      by_cases c : L < 1
      · rw [if_pos c, decide_eq_false (by unfold GV; omega)]
      · rw [if_neg c]
        by_cases d : L > 4096
        · rw [if_pos d, decide_eq_false]
          intro hv
          have := hv.L_le
          omega
        · rw [if_neg d]
          have h1 : W * L ≤ 32 * 4096 := Int.mul_le_mul (by omega) (by omega) (by omega) (by omega)
          have h2 : 0 ≤ W * L := Int.mul_nonneg (by omega) (by omega)
          rw [w64 (by omega) (by omega)]
          by_cases e : W * L > 4096
          · rw [if_pos (by simpa using e), decide_eq_false]
            intro hv
            have := hv.2.2.2.1
            omega
          · rw [if_neg (by simpa using e)]
            have hb : decide (GV W L S T J R) = decide (TmOk S ∧ TmOk T ∧ TmOk J ∧ TmOk R) := by
              rw [decide_eq_decide]
              unfold GV
              constructor
              · intro hh; exact hh.2.2.2.2
              · intro hh; exact ⟨by omega, by omega, by omega, by omega, hh⟩
            rw [hb]
            by_cases s : TmOk S <;> by_cases t : TmOk T <;> by_cases j : TmOk J <;> simp [s, t, j]

theorem rCapacity_ev (W L S T J R : Int) : Ev (fun k => tapearchiveref09_Capacity.f k W L S T J R) (cap W L S T J R) := by
  obtain ⟨K, h⟩ := rValid_ev W L S T J R
  refine ⟨K, fun k hk => ?_⟩
  simp only [tapearchiveref09_Capacity.f, h k hk, Option.bind_some, cap]
  by_cases g : GV W L S T J R
  · have := g.C_pos; have := g.2.2.2.1
    rw [if_pos (by simpa using g), if_pos g, w64 (by omega) (by omega)]
  · rw [if_neg (by simpa using g), if_neg g]

theorem rPlace_in {W L S T J R b : Int} (g : GV W L S T J R) (h0 : 0 ≤ b) (h1 : b < W * L) : Ev (fun k => tapearchiveref09_Place.f k W L S T J R b) ((place0 L b).1, (place0 L b).2.1, (place0 L b).2.2, true) := by
  obtain ⟨K, h⟩ := rValid_ev W L S T J R
  obtain ⟨K2, h2⟩ := rCapacity_ev W L S T J R
  have hC := g.2.2.2.1; have hL := g.L_le; have hL1 := g.2.2.1
  have a1 : 0 ≤ b / L := Int.ediv_nonneg h0 (by omega)
  have a2 : b / L ≤ b := Int.ediv_le_self _ h0
  have a3 := Int.emod_nonneg b (show L ≠ 0 by omega)
  have a4 := Int.emod_lt_of_pos b (show 0 < L by omega)
  refine Ev.shift 2 ⟨K + K2, fun k hk => ?_⟩
  have hc : cap W L S T J R = W * L := if_pos g
  simp only [tapearchiveref09_Place.f, tapearchiveref09_Place.j0, h (k + 1) (by omega), h2 (k + 1) (by omega), h2 k (by omega), hc, Option.bind_some]
  rw [if_pos (by simpa using g), if_neg (by omega), if_neg (by simp; omega), if_neg (by omega), if_neg (by omega), tdiv_nn h0, tmod_nn h0, w64 (x := b / L) (by omega) (by omega), tmod_nn a1, w64 (x := L - 1) (by omega) (by omega), w64 (by omega) (by omega)]
  unfold place0
  split <;> rfl
theorem rPlace_ev (W L S T J R b : Int) : Ev (fun k => tapearchiveref09_Place.f k W L S T J R b) (placeR W L S T J R b) := by
  obtain ⟨K, h⟩ := rValid_ev W L S T J R
  obtain ⟨K2, h2⟩ := rCapacity_ev W L S T J R
  by_cases g : GV W L S T J R
  · have hC := g.2.2.2.1; have hL := g.L_le; have hL1 := g.2.2.1; have hp := g.C_pos
    have hc : cap W L S T J R = W * L := if_pos g
    by_cases h0 : b < 0
    · refine Ev.shift 2 ⟨K + K2, fun k hk => ?_⟩
      simp only [tapearchiveref09_Place.f, tapearchiveref09_Place.j0, h (k + 1) (by omega), h2 (k + 1) (by omega), h2 k (by omega), hc, Option.bind_some]
      rw [if_pos (by simpa using g), if_pos h0, if_pos trivial]
      simp only [placeR]
      rw [if_neg (by unfold Blk; omega)]
    · by_cases h1 : b > W * L
      · refine Ev.shift 2 ⟨K + K2, fun k hk => ?_⟩
        simp only [tapearchiveref09_Place.f, tapearchiveref09_Place.j0, h (k + 1) (by omega), h2 (k + 1) (by omega), h2 k (by omega), hc, Option.bind_some]
        rw [if_pos (by simpa using g), if_neg h0, if_pos (by simpa using h1)]
        simp only [placeR]
        rw [if_neg (by unfold Blk; omega)]
      · have hB : Blk W L S T J R b := ⟨g, by omega, by omega⟩
        by_cases e : b = W * L
        · obtain ⟨K3, h3⟩ := rPlace_in (b := b - 1) g (by omega) (by omega)
          have hb := place0_b (L := L) (b := b - 1) hL1 (by omega)
          refine Ev.shift 2 ⟨K + K2 + K3, fun k hk => ?_⟩
          simp only [tapearchiveref09_Place.f, tapearchiveref09_Place.j0, h (k + 1) (by omega), h2 (k + 1) (by omega), h2 k (by omega), hc, Option.bind_some]
          rw [if_pos (by simpa using g), if_neg h0, if_neg (by simp; omega), if_pos e, w64 (x := b - 1) (by omega) (by omega)]
          simp only [h3 k (by omega), Option.bind_some, placeR, if_pos hB, place, if_pos e]
          rw [w64 (x := (place0 L (b - 1)).2.1 - 1) (by omega) (by omega), w64 (x := (place0 L (b - 1)).2.1 + 1) (by omega) (by omega)]
          split <;> rfl
        · have := rPlace_in (b := b) g (by omega) (by omega)
          simpa [placeR, if_pos hB, place, if_neg e] using this
  · refine Ev.shift 2 ⟨K + K2, fun k hk => ?_⟩
    simp only [tapearchiveref09_Place.f, tapearchiveref09_Place.j0, h (k + 1) (by omega), Option.bind_some]
    rw [if_neg (by simpa using g), if_pos trivial]
    simp only [placeR]
    rw [if_neg (fun hb => g hb.1)]
theorem rsize_eq {a : Int} (h1 : -9223372036854775807 ≤ a) : tapearchiveref09_size.f a = some (iabs a) ∨ 9223372036854775807 < a := by
  by_cases h : a ≤ 9223372036854775807
  · left
    unfold tapearchiveref09_size.f iabs
    split
    · rw [w64 (by omega) (by omega)]
    · rfl
  · right; omega
theorem rsize_eq' {a : Int} (h1 : -4611686018427387904 ≤ a) (h2 : a ≤ 4611686018427387904) : tapearchiveref09_size.f a = some (iabs a) := by
  rcases rsize_eq (a := a) (by omega) with h | h
  · exact h
  · omega
theorem rLocate_ev (W L S T J R a b : Int) : Ev (fun k => tapearchiveref09_Locate.f k W L S T J R a b) (loc W L S T J R a b) := by
  obtain ⟨K1, h1⟩ := rPlace_ev W L S T J R a
  obtain ⟨K2, h2⟩ := rPlace_ev W L S T J R b
  by_cases ga : Blk W L S T J R a
  · by_cases gb : Blk W L S T J R b
    · by_cases e : a = b
      · refine Ev.shift 1 ⟨K1 + K2, fun k hk => ?_⟩
        simp only [tapearchiveref09_Locate.f, tapearchiveref09_Locate.j0, h1 (k + 1) (by omega), h2 (k + 1) (by omega), placeR, if_pos ga, if_pos gb, Option.bind_some, if_true, loc]
        rw [if_pos (by simpa using e), if_neg (fun h => h.1 e)]
      · obtain ⟨b1, b2, b3, b4⟩ := places_b ga gb
        have hb := mot_b (n := 5000) (p := place W L a) (q := place W L b) ga.1.2.2.2.2.1 ga.1.2.2.2.2.2.1 ga.1.2.2.2.2.2.2.1 b1 b2 b3 b4
        have c := ga.1.2.2.2.2.2.1.1; have d := ga.1.2.2.2.2.2.1.2
        have s1 := rsize_eq' (a := (place W L b).2.1 - (place W L a).2.1) (by omega) (by omega)
        have s2 := rsize_eq' (a := (place W L b).1 - (place W L a).1) (by omega) (by omega)
        rw [iabs_comm] at s1 s2
        refine Ev.shift 2 ⟨K1 + K2, fun k hk => ?_⟩
        simp only [tapearchiveref09_Locate.f, tapearchiveref09_Locate.j0, tapearchiveref09_Locate.j1, h1 (k + 2) (by omega), h2 (k + 2) (by omega), placeR, if_pos ga, if_pos gb, Option.bind_some, if_true, loc]
        rw [if_neg (by simpa using e), if_pos ⟨e, ga, gb⟩]
        simp only [w64 (x := (place W L b).2.1 - (place W L a).2.1) (by omega) (by omega), w64 (x := (place W L b).1 - (place W L a).1) (by omega) (by omega), s1, s2, Option.bind_some]
        rw [w64 (x := S * _) (by omega) (by omega), w64 (x := J * _) (by omega) (by omega), w64 (x := S * _ + _) (by omega) (by omega), w64 (x := _ + T) (by omega) (by omega)]
        unfold mot opp
        rcases Int.lt_trichotomy (place W L a).2.1 (place W L b).2.1 with a1 | a1 | a1
        · rw [if_pos (show (place W L b).2.1 - (place W L a).2.1 > 0 by omega), if_neg (show ¬ (place W L b).2.1 - (place W L a).2.1 < 0 by omega), if_neg (show ¬ (place W L b).2.1 - (place W L a).2.1 = 0 by omega), if_pos (show (place W L b).2.1 > (place W L a).2.1 by omega)]
          split <;> simp
        · rw [if_neg (show ¬ (place W L b).2.1 - (place W L a).2.1 > 0 by omega), if_neg (show ¬ (place W L b).2.1 - (place W L a).2.1 < 0 by omega), if_pos (show (place W L b).2.1 - (place W L a).2.1 = 0 by omega), if_neg (show ¬ (place W L b).2.1 > (place W L a).2.1 by omega), if_neg (show ¬ (place W L b).2.1 < (place W L a).2.1 by omega)]
          split <;> simp
        · rw [if_neg (show ¬ (place W L b).2.1 - (place W L a).2.1 > 0 by omega), if_pos (show (place W L b).2.1 - (place W L a).2.1 < 0 by omega), if_neg (show ¬ (place W L b).2.1 - (place W L a).2.1 = 0 by omega), if_neg (show ¬ (place W L b).2.1 > (place W L a).2.1 by omega), if_pos (show (place W L b).2.1 < (place W L a).2.1 by omega)]
          cases (place W L b).2.2 <;> simp
    · refine Ev.shift 1 ⟨K1 + K2, fun k hk => ?_⟩
      simp only [tapearchiveref09_Locate.f, tapearchiveref09_Locate.j0, h1 (k + 1) (by omega), h2 (k + 1) (by omega), placeR, if_pos ga, if_neg gb, Option.bind_some, if_true, loc]
      rw [if_neg (by simp), if_neg (fun h => gb h.2.2)]
  · refine Ev.shift 1 ⟨K1 + K2, fun k hk => ?_⟩
    simp only [tapearchiveref09_Locate.f, tapearchiveref09_Locate.j0, h1 (k + 1) (by omega), h2 (k + 1) (by omega), placeR, if_neg ga, Option.bind_some, if_true, loc]
    rw [if_neg (by simp), if_neg (fun h => ga h.2.1)]
theorem rRead_l0 {W L S T J R a n : Int} (g : Blk W L S T J R a) (h2 : n ≤ W * L - a) : ∀ (d k : Nat) (i : Int), 0 ≤ i → i + d = n → d < k → tapearchiveref09_Read.l0 k (acc L T J R a i) i W L S T J R a n = some (acc L T J R a n) := by
  intro d
  have hL1 := g.1.2.2.1; have h0 := g.2.1; have hC := g.1.2.2.2.1
  have t1 := g.1.2.2.2.2.2.1; have t2 := g.1.2.2.2.2.2.2.1; have t3 := g.1.2.2.2.2.2.2.2
  unfold TmOk at t1 t2 t3
  induction d with
  | zero =>
    intro k i h0 h1 hk
    obtain ⟨k, rfl⟩ : ∃ m, k = m + 1 := ⟨k - 1, by omega⟩
    simp only [tapearchiveref09_Read.l0]
    rw [if_neg (by omega), show i = n by omega]
  | succ d ih =>
    intro k i h3 h1 hk
    obtain ⟨k, rfl⟩ : ∃ m, k = m + 1 := ⟨k - 1, by omega⟩
    have b1 := acc_b g (i := i) h3 (by omega)
    simp only [tapearchiveref09_Read.l0]
    have ih' := ih k (i + 1) (by omega) (by omega) (by omega)
    rw [acc_step hL1 h3] at ih'
    rw [if_pos (by omega), w64 (x := i + 1) (by omega) (by omega), w64 (x := acc L T J R a i + R) (by omega) (by omega), w64 (x := acc L T J R a i + R + J) (by omega) (by omega), w64 (x := acc L T J R a i + R + J + T) (by omega) (by omega), w64 (x := a + i) (by omega) (by omega), tmod_nn (by omega)]
    by_cases e : i > 0
    · rw [if_pos e, if_neg (by omega)]
      by_cases f : (a + i) % L = 0
      · rw [if_pos ⟨e, f⟩] at ih'
        rw [if_pos f, show acc L T J R a i + R + J + T = acc L T J R a i + R + (J + T) by omega]
        exact ih'
      · rw [if_neg (fun h => f h.2), Int.add_zero] at ih'
        rw [if_neg f]
        exact ih'
    · rw [if_neg (fun h => e h.1), Int.add_zero] at ih'
      rw [if_neg e]
      exact ih'
theorem rRead_ev (W L S T J R a n : Int) : Ev (fun k => tapearchiveref09_Read.f k W L S T J R a n) (rdt W L S T J R a n) := by
  obtain ⟨K, h⟩ := rValid_ev W L S T J R
  obtain ⟨K2, h2⟩ := rCapacity_ev W L S T J R
  refine Ev.shift 1 ⟨K + K2 + n.toNat + 1, fun k hk => ?_⟩
  simp only [tapearchiveref09_Read.f, tapearchiveref09_Read.j0, h (k + 1) (by omega), h2 (k + 1) (by omega), Option.bind_some, rdt, if_true]
  by_cases g : GV W L S T J R
  · have hC := g.2.2.2.1; have hL1 := g.2.2.1; have hp := g.C_pos
    have hc : cap W L S T J R = W * L := if_pos g
    rw [if_pos (by simpa using g), hc]
    by_cases c1 : a < 0
    · rw [if_pos c1, if_neg (by unfold Blk; omega)]
    · rw [if_neg c1]
      by_cases c2 : a > W * L
      · rw [if_pos c2, if_neg (by unfold Blk; omega)]
      · rw [if_neg c2]
        by_cases c3 : n < 0
        · rw [if_pos c3, if_neg (by omega)]
        · rw [if_neg c3]
          by_cases c4 : n > W * L
          · rw [if_pos c4, if_neg (by omega)]
          · rw [if_neg c4, w64 (x := a + n) (by omega) (by omega)]
            by_cases c5 : a + n > W * L
            · rw [if_pos (by simpa using c5), if_neg (by omega)]
            · have hB : Blk W L S T J R a := ⟨g, by omega, by omega⟩
              have := rRead_l0 hB (n := n) (by omega) n.toNat k 0 (by omega) (by omega) (by omega)
              rw [if_neg (by simpa using c5)]
              have e0 : acc L T J R a 0 = 0 := if_pos rfl
              rw [e0] at this
              rw [this]
              congr 1
              unfold acc
              by_cases e : n = 0
              · rw [if_pos e, if_neg (by omega)]
              · rw [if_neg e, if_pos ⟨hB, by omega, by omega⟩]
  · rw [if_neg (by simpa using g), if_neg (fun h => g h.1.1)]

theorem rPasses_ev (W L S T J R a b : Int) : Ev (fun k => tapearchiveref09_Passes.f k W L S T J R a b) (pss W L S T J R a b) := by
  obtain ⟨K1, h1⟩ := rPlace_ev W L S T J R a
  obtain ⟨K2, h2⟩ := rPlace_ev W L S T J R b
  refine ⟨K1 + K2, fun k hk => ?_⟩
  simp only [tapearchiveref09_Passes.f, h1 k (by omega), h2 k (by omega), placeR, Option.bind_some, pss]
  by_cases ga : Blk W L S T J R a
  · by_cases gb : Blk W L S T J R b
    · obtain ⟨b1, b2, b3, b4⟩ := places_b ga gb
      have hL1 := ga.1.2.2.1; have hLL := ga.1.L_le
      have i0 := iabs_nn ((place W L a).2.1 - (place W L b).2.1); have i1 := iabs_le b1 b2
      have q0 : (iabs ((place W L a).2.1 - (place W L b).2.1) * 1000 + L - 1) / L ≤ _ := Int.ediv_le_self _ (by omega)
      have q1 : 0 ≤ (iabs ((place W L a).2.1 - (place W L b).2.1) * 1000 + L - 1) / L := Int.ediv_nonneg (by omega) (by omega)
      have s1 := rsize_eq' (a := (place W L b).2.1 - (place W L a).2.1) (by omega) (by omega)
      rw [iabs_comm] at s1
      simp only [if_pos ga, if_pos gb, if_true]
      rw [w64 (x := (place W L b).2.1 - (place W L a).2.1) (by omega) (by omega), s1]
      simp only [Option.bind_some]
      rw [if_neg (by omega), if_pos ⟨ga, gb⟩, w64 (x := _ * 1000) (by omega) (by omega), w64 (x := _ * 1000 + L) (by omega) (by omega), w64 (x := _ * 1000 + L - 1) (by omega) (by omega), tdiv_nn (by omega), w64 (by omega) (by omega)]
    · simp only [if_pos ga, if_neg gb, if_true]
      rw [if_neg (by simp), if_neg (fun h => gb h.2)]
  · simp only [if_neg ga]
    rw [if_neg (by simp), if_neg (fun h => ga h.1)]

theorem rfar_l2 {W L S T J R : Int} (l : List Int) (hl : (l.length : Int) ≤ 1000) (x r : Int) (hx0 : 0 ≤ x) (hx : x < l.length) : ∀ (d : Nat) (m i : Int), 0 ≤ i → i + d = l.length →
    Ev (fun k => tapearchiveref09_Farthest.l1 k l ((l.drop i.toNat).foldl (fun m b => max m (loc W L S T J R (rd l x) b)) m) (wrap64 (x + 1)) W L S T J R) r → Ev (fun k => tapearchiveref09_Farthest.l2 k l m x i W L S T J R) r := by
  intro d
  induction d with
  | zero =>
    intro m i h0 h1 he
    rw [List.drop_of_length_le (by omega)] at he
    refine Ev.step (fun k => ?_) he
    simp only [tapearchiveref09_Farthest.l2]
    rw [if_neg (by omega)]; rfl
  | succ d ih =>
    intro m i h0 h1 he
    rw [drop_rd h0 (by omega)] at he
    obtain ⟨K, hK⟩ := rLocate_ev W L S T J R (rd l x) (rd l i)
    obtain ⟨K2, hK2⟩ := ih (max m (loc W L S T J R (rd l x) (rd l i))) (i + 1) (by omega) (by omega) he
    refine Ev.shift 1 ⟨K + K2, fun k hk => ?_⟩
    simp only [tapearchiveref09_Farthest.l2]
    rw [if_pos (by omega), if_pos hx0, if_pos (by omega), if_pos h0]
    simp only [hK k (by omega), Option.bind_some]
    rw [w64 (x := i + 1) (by omega) (by omega)]
    have := hK2 k (by omega)
    by_cases e : loc W L S T J R (rd l x) (rd l i) > m
    · rw [if_pos e]
      rw [Int.max_eq_right (by omega)] at this
      exact this
    · rw [if_neg e]
      rw [Int.max_eq_left (by omega)] at this
      exact this
theorem rfar_l1 {W L S T J R : Int} (l : List Int) (hl : (l.length : Int) ≤ 1000) : ∀ (d : Nat) (m i : Int), 0 ≤ i → i + d = l.length →
    Ev (fun k => tapearchiveref09_Farthest.l1 k l m i W L S T J R) ((l.drop i.toNat).foldl (fun m a => l.foldl (fun m b => max m (loc W L S T J R a b)) m) m) := by
  intro d
  induction d with
  | zero =>
    intro m i h0 h1
    rw [List.drop_of_length_le (by omega)]
    refine Ev.shift 1 ⟨0, fun k _ => ?_⟩
    simp only [tapearchiveref09_Farthest.l1]
    rw [if_neg (by omega)]; rfl
  | succ d ih =>
    intro m i h0 h1
    rw [drop_rd h0 (by omega)]
    have h := ih (l.foldl (fun m b => max m (loc W L S T J R (rd l i) b)) m) (i + 1) (by omega) (by omega)
    obtain ⟨K, hK⟩ := rfar_l2 l hl i _ h0 (by omega) l.length m 0 (by omega) (by omega) (by rw [w64 (x := i + 1) (by omega) (by omega)]; exact h)
    refine Ev.shift 1 ⟨K, fun k hk => ?_⟩
    simp only [tapearchiveref09_Farthest.l1]
    rw [if_pos (by omega)]
    exact hK k hk
theorem rfar_l0 {W L S T J R r : Int} (g : GV W L S T J R) : ∀ (d : Nat) (i : Int) (x : List Int), 0 ≤ i → i + d = W → (x.length : Int) = 1 + 2 * i → Ev (fun k => tapearchiveref09_Farthest.l1 k (x ++ endsFrom L i d) 0 0 W L S T J R) r → Ev (fun k => tapearchiveref09_Farthest.l0 k x i W L S T J R) r := by
  intro d
  have hL1 := g.2.2.1; have hC := g.2.2.2.1; have hW := g.2.1; have hLL := g.L_le
  induction d with
  | zero =>
    intro i x h0 h1 _ he
    refine Ev.step (fun k => ?_) he
    simp only [tapearchiveref09_Farthest.l0]
    rw [if_neg (by omega)]; simp [endsFrom]
  | succ d ih =>
    intro i x h0 h1 hx he
    obtain ⟨w1, w2, w3⟩ := wrap_b hL1 hC h0 (show i < W by omega)
    have he2 := ih (i + 1) (x ++ [i * L, (i + 1) * L - 1]) (by omega) (by omega) (by simp; omega) (by simpa [endsFrom] using he)
    refine Ev.step (fun k => ?_) he2
    simp only [tapearchiveref09_Farthest.l0, Option.bind_some]
    rw [if_pos (by omega), w64 (x := i + 1) (by omega) (by omega), w64 (x := i * L) (by omega) (by omega), w64 (x := (i + 1) * L) (by omega) (by omega), w64 (x := (i + 1) * L - 1) (by omega) (by omega), if_pos (by simp; omega)]
theorem rFarthest_ev (W L S T J R : Int) : Ev (fun k => tapearchiveref09_Farthest.f k W L S T J R) (far W L S T J R) := by
  obtain ⟨K, h⟩ := rValid_ev W L S T J R
  by_cases g : GV W L S T J R
  · obtain ⟨K2, h2⟩ := rCapacity_ev W L S T J R
    have hW := g.2.1; have hc : cap W L S T J R = W * L := if_pos g
    obtain ⟨K3, h3⟩ := rfar_l0 g W.toNat 0 [W * L] (by omega) (by have := g.1; omega) (by simp) (rfar_l1 (endsL W L) (by rw [endsL_length]; omega) (endsL W L).length 0 0 (by omega) (by omega))
    refine ⟨K + K2 + K3, fun k hk => ?_⟩
    simp only [tapearchiveref09_Farthest.f, h k (by omega), h2 k (by omega), hc, h3 k (by omega), Option.bind_some, far, if_pos g]
    rw [if_pos (by simpa using g)]; rfl
  · refine ⟨K, fun k hk => ?_⟩
    simp only [tapearchiveref09_Farthest.f, h k (by omega), Option.bind_some, far, if_neg g]
    rw [if_neg (by simpa using g)]

end Go.Proofs.Ytnogfkhbfgmjcaa.P
