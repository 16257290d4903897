/- What Block of the reference of layer 9 computes, in plain numbers, for any geometry and place. -/
import Derived.Test.YtnogfkhbfgmjcaaPx27
import Derived.Test.YtnogfkhbfgmjcaaSerpR
import Derived.Test.YtnogfkhbfgmjcaaSerpB
namespace Go.Proofs.Ytnogfkhbfgmjcaa.P
open Go.RowKit Go.Proofs.YtnogfkhbfgmjcaaW.PrintWords Go.Proofs.YtnogfkhbfgmjcaaW.PureKit
set_option linter.unusedVariables false
set_option linter.unusedSimpArgs false

theorem rBlock_l0 {W L S T J R w x : Int} {bk : Bool} {c : Int} (g : GV W L S T J R) (h1 : c ≤ W * L) (hno : ∀ b, 0 ≤ b → b < c → place W L b ≠ (w, x, bk)) {r : Int × Bool} : ∀ (d : Nat) (i : Int), 0 ≤ i → i + d = c →
    Ev (fun k => tapearchiveref09_Block.l0 k c W L S T J R w x bk) r → Ev (fun k => tapearchiveref09_Block.l0 k i W L S T J R w x bk) r := by
  intro d
  have hC := g.2.2.2.1
  have hc : cap W L S T J R = W * L := if_pos g
  induction d with
  | zero =>
    intro i h0 hi he
    rw [show i = c by omega]; exact he
  | succ d ih =>
    intro i h0 hi he
    obtain ⟨K, h⟩ := rCapacity_ev W L S T J R
    obtain ⟨K1, hp⟩ := rPlace_ev W L S T J R i
    obtain ⟨K2, h2⟩ := ih (i + 1) (by omega) (by omega) he
    refine Ev.shift 1 ⟨K + K1 + K2, fun k hk => ?_⟩
    have hB : Blk W L S T J R i := ⟨g, h0, by omega⟩
    simp only [tapearchiveref09_Block.l0, h k (by omega), hp k (by omega), hc, placeR, if_pos hB, Option.bind_some]
    rw [if_pos (by omega), if_neg (fun hh => hno i h0 (by omega) (place_three.1 hh)), w64 (x := i + 1) (by omega) (by omega)]
    exact h2 k (by omega)
theorem rBlock_has {W L S T J R w x : Int} {bk : Bool} {b : Int} (h : Has W L S T J R (w, x, bk) b) : Ev (fun k => tapearchiveref09_Block.f k W L S T J R w x bk) (b, true) := by
  obtain ⟨hb, hp⟩ := h
  have g := hb.1
  have hC := g.2.2.2.1
  have hc : cap W L S T J R = W * L := if_pos g
  obtain ⟨K, h⟩ := rCapacity_ev W L S T J R
  obtain ⟨K1, h1⟩ := rPlace_ev W L S T J R b
  obtain ⟨K3, h3⟩ := rValid_ev W L S T J R
  have last : Ev (fun k => tapearchiveref09_Block.l0 k b W L S T J R w x bk) (b, true) := by
    refine Ev.shift 1 ⟨K + K1, fun k hk => ?_⟩
    simp only [tapearchiveref09_Block.l0, h k (by omega), h1 k (by omega), hc, placeR, if_pos hb, Option.bind_some]
    rw [if_pos hb.2.2, if_pos (place_three.2 hp)]
  obtain ⟨K2, h2⟩ := rBlock_l0 g hb.2.2 (fun c c0 c1 e => by have := place_inj (e.trans hp.symm); omega) b.toNat 0 (by omega) (by have := hb.2.1; omega) last
  refine ⟨K2 + K3, fun k hk => ?_⟩
  simp only [tapearchiveref09_Block.f, h3 k (by omega), Option.bind_some]
  rw [if_pos (by simpa using g)]
  exact h2 k (by omega)
theorem rBlock_none {W L S T J R w x : Int} {bk : Bool} (hn : ¬ ∃ b, Has W L S T J R (w, x, bk) b) : Ev (fun k => tapearchiveref09_Block.f k W L S T J R w x bk) (0, false) := by
  obtain ⟨K3, h3⟩ := rValid_ev W L S T J R
  by_cases g : GV W L S T J R
  · have hC := g.2.2.2.1; have hcp := g.C_pos
    have hc : cap W L S T J R = W * L := if_pos g
    obtain ⟨K, h⟩ := rCapacity_ev W L S T J R
    obtain ⟨K1, h1⟩ := rPlace_ev W L S T J R (W * L)
    obtain ⟨K5, h5⟩ := rPlace_ev W L S T J R (W * L + 1)
    have last : Ev (fun k => tapearchiveref09_Block.l0 k (W * L) W L S T J R w x bk) (0, false) := by
      refine Ev.shift 2 ⟨K + K1 + K5, fun k hk => ?_⟩
      have hB : Blk W L S T J R (W * L) := ⟨g, by omega, by omega⟩
      simp only [tapearchiveref09_Block.l0, h (k + 1) (by omega), h k (by omega), h1 (k + 1) (by omega), hc, placeR, if_pos hB, Option.bind_some]
      rw [if_pos (Int.le_refl _), if_neg (fun hh => hn ⟨_, hB, place_three.1 hh⟩), w64 (x := W * L + 1) (by omega) (by omega), if_neg (by omega)]
    obtain ⟨K2, h2⟩ := rBlock_l0 g (Int.le_refl _) (fun c c0 c1 e => hn ⟨c, ⟨g, c0, by omega⟩, e⟩) (W * L).toNat 0 (by omega) (by omega) last
    refine ⟨K2 + K3, fun k hk => ?_⟩
    simp only [tapearchiveref09_Block.f, h3 k (by omega), Option.bind_some]
    rw [if_pos (by simpa using g)]
    exact h2 k (by omega)
  · refine ⟨K3, fun k hk => ?_⟩
    simp only [tapearchiveref09_Block.f, h3 k (by omega), Option.bind_some]
    rw [if_neg (by simpa using g)]
end Go.Proofs.Ytnogfkhbfgmjcaa.P
