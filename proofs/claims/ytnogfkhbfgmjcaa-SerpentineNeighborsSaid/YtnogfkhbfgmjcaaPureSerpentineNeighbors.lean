/- successive blocks of a wrap are at the distance 1, and where a wrap ends, the next one begins at the same position in the opposite direction: the plain law. -/
import Derived.Test.YtnogfkhbfgmjcaaPx25
import Derived.Test.YtnogfkhbfgmjcaaOpenP
import Derived.Test.YtnogfkhbfgmjcaaSerpC
import Derived.Test.YtnogfkhbfgmjcaaSerpAw
namespace Go.Proofs.Ytnogfkhbfgmjcaa.P
open Go.Proofs.YtnogfkhbfgmjcaaW.PureKit Go.RowKit Go.Proofs.YtnogfkhbfgmjcaaW.PrintWords Go.Proofs.YtnogfkhbfgmjcaaW.OpenKd
set_option linter.unusedVariables false
set_option linter.unusedSimpArgs false

theorem pure_SerpentineNeighbors : ∀ (x0 : S23) (a1 : Int), Ok23 x0 → OkInt .i64 a1 → ∃ k : Nat, tapearchivelaw09_SerpentineNeighbors.f k x0.f0 x0.f1 x0.f2 x0.f3 x0.f4 x0.f5 a1 = some true := by
  intro x0 a1 h0 h1
  obtain ⟨W, L, S, T, J, R⟩ := x0
  show ∃ k : Nat, tapearchivelaw09_SerpentineNeighbors.f k W L S T J R a1 = some true
  have hL := (h0.2.1).i64.2; have ha := h1.i64
  simp only at hL
  obtain ⟨K9, e9⟩ := awake_ev
  obtain ⟨K1, e1⟩ := Capacity_ev W L S T J R hL
  by_cases c1 : a1 < 0
  · refine ⟨K9 + 1, ?_⟩
    simp only [tapearchivelaw09_SerpentineNeighbors.f, tapearchivelaw09_SerpentineNeighbors.j0, if_pos c1, if_true, e9 K9 (by omega), Option.bind_some]
  · by_cases g : GV W L S T J R
    · have hC := g.2.2.2.1; have hL1 := g.2.2.1; have hp := g.C_pos; have hLL := g.L_le
      have hc : cap W L S T J R = W * L := if_pos g
      by_cases c2 : a1 ≥ W * L - 1
      · refine ⟨K1 + K9 + 1, ?_⟩
        simp only [tapearchivelaw09_SerpentineNeighbors.f, tapearchivelaw09_SerpentineNeighbors.j0, if_neg c1, e1 (K1 + K9 + 1) (by omega), hc, e9 (K1 + K9) (by omega), Option.bind_some]
        rw [w64 (by omega) (by omega), if_pos (by simpa using c2)]
      · obtain ⟨K2, e2⟩ := Place_ev W L S T J R a1 hL
        obtain ⟨K3, e3⟩ := Place_ev W L S T J R (a1 + 1) hL
        have hA : Blk W L S T J R a1 := ⟨g, by omega, by omega⟩
        have hB : Blk W L S T J R (a1 + 1) := ⟨g, by omega, by omega⟩
        have pa : place W L a1 = place0 L a1 := by unfold place; rw [if_neg (by omega)]
        have pb : place W L (a1 + 1) = place0 L (a1 + 1) := by unfold place; rw [if_neg (by omega)]
        refine ⟨K1 + K2 + K3 + K9 + 2, ?_⟩
        generalize hk : K1 + K2 + K3 + K9 = k
        simp only [tapearchivelaw09_SerpentineNeighbors.f, tapearchivelaw09_SerpentineNeighbors.j0, if_neg c1, e1 (k + 2) (by omega), hc, Option.bind_some]
        rw [w64 (x := W * L - 1) (by omega) (by omega), if_neg (by simp; omega), w64 (x := a1 + 1) (by omega) (by omega)]
        simp only [e2 (k + 1) (by omega), e3 (k + 1) (by omega), placeR, if_pos hA, if_pos hB, pa, pb, Option.bind_some, if_true]
        simp only [tapearchivelaw09_SerpentineNeighbors.j1, Bool.not_true, Bool.false_eq_true, if_false]
        have q0 : 0 ≤ a1 / L := Int.ediv_nonneg (by omega) (by omega)
        have q1 : a1 / L ≤ a1 := Int.ediv_le_self _ (by omega)
        have m0 := Int.emod_nonneg a1 (show L ≠ 0 by omega)
        have m1 := Int.emod_lt_of_pos a1 (show 0 < L by omega)
        have n0 := Int.emod_nonneg (a1 + 1) (show L ≠ 0 by omega)
        have n1 := Int.emod_lt_of_pos (a1 + 1) (show 0 < L by omega)
        have d1 := Int.mul_ediv_add_emod a1 L
        have d2 := Int.mul_ediv_add_emod (a1 + 1) L
        have ds := div_step (x := a1 + 1) hL1
        rw [show a1 + 1 - 1 = a1 by omega] at ds
        rw [if_neg (by omega), w64 (x := a1 + 1) (by omega) (by omega), tmod_nn (by omega)]
        by_cases f : (a1 + 1) % L = 0
        · rw [if_pos f] at ds
          have hm : a1 % L = L - 1 := by
            rw [ds, f] at d2
            rw [Int.mul_add] at d2
            omega
          rw [if_pos f]
          unfold place0
          rw [ds, f, hm]
          by_cases o : a1 / L % 2 = 1
          · have o2 : ¬ (a1 / L + 1) % 2 = 1 := by omega
            rw [if_pos o, if_neg o2]
            simp only
            rw [w64 (by omega) (by omega)]
            simp [e9 k (by omega)]
          · have o2 : (a1 / L + 1) % 2 = 1 := by omega
            rw [if_neg o, if_pos o2]
            simp only
            rw [w64 (by omega) (by omega)]
            simp [e9 k (by omega)]
        · rw [if_neg f, Int.add_zero] at ds
          have hm : (a1 + 1) % L = a1 % L + 1 := by
            rw [ds] at d2
            omega
          rw [if_neg f]
          unfold place0
          rw [ds, hm]
          by_cases o : a1 / L % 2 = 1
          · rw [if_pos o, if_pos o]
            simp only
            rw [w64 (x := L - 1 - a1 % L + -1) (by omega) (by omega)]
            simp [e9 k (by omega)]
            omega
          · rw [if_neg o, if_neg o]
            simp only
            rw [w64 (x := a1 % L + 1) (by omega) (by omega)]
            simp [e9 k (by omega)]
    · have hc : cap W L S T J R = 0 := if_neg g
      refine ⟨K1 + K9 + 1, ?_⟩
      simp only [tapearchivelaw09_SerpentineNeighbors.f, tapearchivelaw09_SerpentineNeighbors.j0, if_neg c1, e1 (K1 + K9 + 1) (by omega), hc, e9 (K1 + K9) (by omega), Option.bind_some]
      rw [w64 (by omega) (by omega), if_pos (by simp; omega)]

end Go.Proofs.Ytnogfkhbfgmjcaa.P
