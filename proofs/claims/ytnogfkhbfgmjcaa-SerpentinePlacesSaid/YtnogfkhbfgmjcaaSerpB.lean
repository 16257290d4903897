/- What Block of layer 9 computes, in plain numbers, for any geometry and place. -/
import Derived.Test.YtnogfkhbfgmjcaaPx26
import Derived.Test.YtnogfkhbfgmjcaaPx5
import Derived.Test.YtnogfkhbfgmjcaaSerpC
namespace Go.Proofs.Ytnogfkhbfgmjcaa.P
open Go.RowKit Go.Proofs.YtnogfkhbfgmjcaaW.PrintWords Go.Proofs.YtnogfkhbfgmjcaaW.PureKit
set_option linter.unusedVariables false
set_option linter.unusedSimpArgs false

/-- A block that has this place. -/
def Has (W L S T J R : Int) (p : Int × Int × Bool) (b : Int) : Prop := Blk W L S T J R b ∧ place W L b = p
theorem wrap_of {W L S T J R b : Int} (h : Blk W L S T J R b) : 0 ≤ (place W L b).1 ∧ (place W L b).1 < W := by
  obtain ⟨g, h0, h1⟩ := h
  have hp := g.C_pos; have hL1 := g.2.2.1
  have key : ∀ c, 0 ≤ c → c < W * L → 0 ≤ (place0 L c).1 ∧ (place0 L c).1 < W := by
    intro c c0 c1
    have a1 : 0 ≤ c / L := Int.ediv_nonneg c0 (by omega)
    have a2 := (Int.ediv_lt_iff_lt_mul (a := c) (b := W) (show 0 < L by omega)).2 c1
    unfold place0
    split <;> exact ⟨a1, a2⟩
  unfold place
  by_cases e : b = W * L
  · rw [if_pos e]
    have := key (b - 1) (by omega) (by omega)
    simp only
    split <;> exact this
  · rw [if_neg e]; exact key b h0 (by omega)
theorem mod2 {x : Int} (h : 0 ≤ x) : Int.tmod x 2 = x % 2 := tmod_nn h
theorem Block_has {W L S T J R w x : Int} {bk : Bool} {b : Int} (hL : L ≤ 9223372036854775807) (h : Has W L S T J R (w, x, bk) b) : Ev (fun k => serpentine_Block.f k W L S T J R w x bk) (b, true) := by
  obtain ⟨hb, hp⟩ := h
  have g := hb.1
  have hC := g.2.2.2.1; have hL1 := g.2.2.1; have hcp := g.C_pos; have hLL := g.L_le
  have hw := wrap_of hb
  rw [hp] at hw
  obtain ⟨K, h⟩ := Valid_ev W L S T J R hL
  obtain ⟨K1, h1⟩ := on_ev g (b := W * L) (by omega) (by omega)
  obtain ⟨K2, h2⟩ := on_ev g hb.2.1 hb.2.2
  refine Ev.shift 3 ⟨K + K1 + K2, fun k hk => ?_⟩
  simp only [serpentine_Block.f, serpentine_Block.j0, h (k + 3) (by omega), Option.bind_some]
  rw [if_pos (by simpa using g), if_neg (by omega), if_neg (by simp; omega), w64 (x := W * L) (by omega) (by omega)]
  simp only [h1 (k + 2) (by omega), Option.bind_some]
  by_cases e : b = W * L
  · rw [if_pos (place_three.2 (by rw [← e, hp])), e]
  · rw [if_neg (fun hh => e (place_inj (hp.trans (place_three.1 hh).symm)))]
    have hpl : place W L b = place0 L b := by unfold place; rw [if_neg e]
    have hp0 : place0 L b = (w, x, bk) := hpl.symm.trans hp
    have hpb := place0_b (L := L) (b := b) hL1 hb.2.1
    rw [hp0] at hpb
    simp only at hpb hw
    have hun := unplace_place0 L b
    rw [hp0] at hun
    unfold unplace at hun
    simp only at hun
    obtain ⟨w1, w2, w3⟩ := wrap_b hL1 hC hw.1 hw.2
    have hbk : bk = decide (w % 2 = 1) := by
      unfold place0 at hp0
      split at hp0 <;> (injection hp0 with q1 q2; injection q2 with q2 q3; subst q1; simp_all)
    rw [if_neg (by omega)]
    simp only [serpentine_Block.j1]
    rw [if_neg (by simp; omega), mod2 hw.1]
    simp only [serpentine_Block.j2]
    rw [w64 (x := w * L) (by omega) (by omega), w64 (x := w * L + L) (by omega) (by omega), w64 (x := w * L + L - 1) (by omega) (by omega), w64 (x := w * L + L - 1 - x) (by omega) (by omega), w64 (x := w * L + x) (by omega) (by omega)]
    have fin : ∀ n, n = b → ((serpentine_on.f k W L S T J R n).bind fun bt => if (!(bt.1 == w) || (!(bt.2.1 == x) || (!(bt.2.2 == bk)))) = true then (some ((0 : Int), false)) else (some (n, true))) = some (b, true) := by
      intro n hn
      subst hn
      simp only [h2 k (by omega), Option.bind_some, hp]
      rw [if_neg (by simp)]
    by_cases c : w % 2 = 1
    · rw [if_pos c]
      refine fin _ ?_
      rw [if_pos (by simp [hbk, c])] at hun
      omega
    · rw [if_neg c]
      refine fin _ ?_
      rw [if_neg (by simp [hbk, c])] at hun
      omega
theorem Block_none {W L S T J R w x : Int} {bk : Bool} (hL : L ≤ 9223372036854775807) (hn : ¬ ∃ b, Has W L S T J R (w, x, bk) b) : Ev (fun k => serpentine_Block.f k W L S T J R w x bk) (0, false) := by
  obtain ⟨K, h⟩ := Valid_ev W L S T J R hL
  by_cases g : GV W L S T J R
  · have hC := g.2.2.2.1; have hL1 := g.2.2.1; have hcp := g.C_pos; have hLL := g.L_le
    by_cases c1 : w < 0
    · refine Ev.shift 3 ⟨K, fun k hk => ?_⟩
      simp only [serpentine_Block.f, serpentine_Block.j0, h (k + 3) (by omega), Option.bind_some]
      rw [if_pos (by simpa using g), if_pos c1]
      rfl
    · by_cases c2 : w ≥ W
      · refine Ev.shift 3 ⟨K, fun k hk => ?_⟩
        simp only [serpentine_Block.f, serpentine_Block.j0, h (k + 3) (by omega), Option.bind_some]
        rw [if_pos (by simpa using g), if_neg c1, if_pos (by simpa using c2)]
      · obtain ⟨K1, h1⟩ := on_ev g (b := W * L) (by omega) (by omega)
        have hne : place W L (W * L) ≠ (w, x, bk) := fun e => hn ⟨_, ⟨g, by omega, by omega⟩, e⟩
        obtain ⟨w1, w2, w3⟩ := wrap_b hL1 hC (show 0 ≤ w by omega) (show w < W by omega)
        by_cases c3 : 0 ≤ x ∧ x < L
        · have fin : ∀ n, 0 ≤ n → n ≤ W * L → ∃ K3, ∀ k, K3 ≤ k → ((serpentine_on.f k W L S T J R n).bind fun bt => if (!(bt.1 == w) || (!(bt.2.1 == x) || (!(bt.2.2 == bk)))) = true then (some ((0 : Int), false)) else (some (n, true))) = some (0, false) := by
            intro n n0 n1
            obtain ⟨K3, h3⟩ := on_ev g n0 n1
            refine ⟨K3, fun k hk => ?_⟩
            simp only [h3 k hk, Option.bind_some]
            rw [if_pos]
            have hnn : place W L n ≠ (w, x, bk) := fun e => hn ⟨_, ⟨g, n0, n1⟩, e⟩
            cases hh : (!((place W L n).1 == w) || (!((place W L n).2.1 == x) || (!((place W L n).2.2 == bk)))) with
            | true => rfl
            | false => exact absurd (place_three.1 (by simpa using hh)) hnn
          obtain ⟨K4, h4⟩ := fin (w * L + L - 1 - x) (by omega) (by omega)
          obtain ⟨K5, h5⟩ := fin (w * L + x) (by omega) (by omega)
          refine Ev.shift 3 ⟨K + K1 + K4 + K5, fun k hk => ?_⟩
          simp only [serpentine_Block.f, serpentine_Block.j0, h (k + 3) (by omega), Option.bind_some]
          rw [if_pos (by simpa using g), if_neg c1, if_neg (by simpa using c2), w64 (x := W * L) (by omega) (by omega)]
          simp only [h1 (k + 2) (by omega), Option.bind_some]
          rw [if_neg (fun hh => hne (place_three.1 hh)), if_neg (by omega)]
          simp only [serpentine_Block.j1]
          rw [if_neg (by simp; omega), mod2 (by omega)]
          simp only [serpentine_Block.j2]
          rw [w64 (x := w * L) (by omega) (by omega), w64 (x := w * L + L) (by omega) (by omega), w64 (x := w * L + L - 1) (by omega) (by omega), w64 (x := w * L + L - 1 - x) (by omega) (by omega), w64 (x := w * L + x) (by omega) (by omega), h4 k (by omega), h5 k (by omega)]
          split <;> rfl
        · refine Ev.shift 3 ⟨K + K1, fun k hk => ?_⟩
          simp only [serpentine_Block.f, serpentine_Block.j0, h (k + 3) (by omega), Option.bind_some]
          rw [if_pos (by simpa using g), if_neg c1, if_neg (by simpa using c2), w64 (x := W * L) (by omega) (by omega)]
          simp only [h1 (k + 2) (by omega), Option.bind_some]
          rw [if_neg (fun hh => hne (place_three.1 hh))]
          simp only [serpentine_Block.j1, if_true]
          by_cases c4 : x < 0
          · rw [if_pos c4]
          · rw [if_neg c4, if_pos (by simp; omega)]
  · refine Ev.shift 3 ⟨K, fun k hk => ?_⟩
    simp only [serpentine_Block.f, serpentine_Block.j0, h (k + 3) (by omega), Option.bind_some]
    rw [if_neg (by simpa using g)]
    rfl
end Go.Proofs.Ytnogfkhbfgmjcaa.P
