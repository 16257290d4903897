/- within a wrap the time to a block that lies behind is the sum by way of any block between, and reading a span costs as much as reading both of its parts and the change of the wrap between them: the plain law. -/
import Derived.Test.YtnogfkhbfgmjcaaPx24
import Derived.Test.YtnogfkhbfgmjcaaOpenP
import Derived.Test.YtnogfkhbfgmjcaaSerpC
import Derived.Test.YtnogfkhbfgmjcaaSerpAw
namespace Go.Proofs.Ytnogfkhbfgmjcaa.P
open Go.Proofs.YtnogfkhbfgmjcaaW.PureKit Go.RowKit Go.Proofs.YtnogfkhbfgmjcaaW.PrintWords Go.Proofs.YtnogfkhbfgmjcaaW.OpenKd
set_option linter.unusedVariables false
set_option linter.unusedSimpArgs false

theorem pure_SerpentineAdds : ∀ (x0 : S23) (a1 : Int) (a2 : Int) (a3 : Int), Ok23 x0 → OkInt .i64 a1 → OkInt .i64 a2 → OkInt .i64 a3 → ∃ k : Nat, tapearchivelaw09_SerpentineAdds.f k x0.f0 x0.f1 x0.f2 x0.f3 x0.f4 x0.f5 a1 a2 a3 = some true := by
  intro x0 a b c h0 h1 h2 h3
  obtain ⟨W, L, S, T, J, R⟩ := x0
  show ∃ k : Nat, tapearchivelaw09_SerpentineAdds.f k W L S T J R a b c = some true
  have hL := (h0.2.1).i64.2; have ha := h1.i64; have hb := h2.i64; have hc' := h3.i64
  simp only at hL
  obtain ⟨K9, e9⟩ := awake_ev
  obtain ⟨K1, e1⟩ := Capacity_ev W L S T J R hL
  by_cases bad : a < 0 ∨ a > b ∨ b > c ∨ c ≥ cap W L S T J R
  · refine ⟨K1 + K9 + 1, ?_⟩
    simp only [tapearchivelaw09_SerpentineAdds.f, tapearchivelaw09_SerpentineAdds.j0, e1 (K1 + K9 + 1) (by omega), e9 (K1 + K9) (by omega), Option.bind_some, if_true]
    by_cases c1 : a < 0
    · rw [if_pos c1]
    · rw [if_neg c1]
      by_cases c2 : a > b
      · rw [if_pos c2]
      · rw [if_neg c2]
        by_cases c3 : b > c
        · rw [if_pos c3]
        · rw [if_neg c3, if_pos (by simp; omega)]
  · have g : GV W L S T J R := by
      by_cases g : GV W L S T J R
      · exact g
      · have hc : cap W L S T J R = 0 := if_neg g
        omega
    have hc : cap W L S T J R = W * L := if_pos g
    have hC := g.2.2.2.1; have hL1 := g.2.2.1; have hp := g.C_pos; have hLL := g.L_le
    have t1 := g.2.2.2.2.2.1; have t2 := g.2.2.2.2.2.2.1; have t3 := g.2.2.2.2.2.2.2; have t0 := g.2.2.2.2.1
    have A : Blk W L S T J R a := ⟨g, by omega, by omega⟩
    have B : Blk W L S T J R b := ⟨g, by omega, by omega⟩
    have C : Blk W L S T J R c := ⟨g, by omega, by omega⟩
    have pa : place W L a = place0 L a := by unfold place; rw [if_neg (by omega)]
    have pb : place W L b = place0 L b := by unfold place; rw [if_neg (by omega)]
    have pc : place W L c = place0 L c := by unfold place; rw [if_neg (by omega)]
    obtain ⟨K2, e2⟩ := Locate_ev W L S T J R a c hL
    obtain ⟨K3, e3⟩ := Locate_ev W L S T J R a b hL
    obtain ⟨K4, e4⟩ := Locate_ev W L S T J R b c hL
    obtain ⟨K5, e5⟩ := Read_ev W L S T J R a (b - a) hL
    obtain ⟨K6, e6⟩ := Read_ev W L S T J R b (c - b) hL
    obtain ⟨K7, e7⟩ := Read_ev W L S T J R a (c - a) hL
    have q0 : 0 ≤ a / L := Int.ediv_nonneg (by omega) (by omega)
    have q1 : a / L ≤ a := Int.ediv_le_self _ (by omega)
    have q2 : 0 ≤ c / L := Int.ediv_nonneg (by omega) (by omega)
    have q3 : c / L ≤ c := Int.ediv_le_self _ (by omega)
    have q4 := div_mono hL1 (show a ≤ b by omega)
    have q5 := div_mono hL1 (show b ≤ c by omega)
    have d1 := Int.mul_ediv_add_emod a L
    have d2 := Int.mul_ediv_add_emod b L
    have d3 := Int.mul_ediv_add_emod c L
    -- the motions within a wrap
    have within1 : ∀ x y, 0 ≤ x → x ≤ y → y < W * L → x / L = y / L → loc W L S T J R x y = S * (y - x) := by
      intro x y x0 xy yC hq
      have px : place W L x = place0 L x := by unfold place; rw [if_neg (by omega)]
      have py : place W L y = place0 L y := by unfold place; rw [if_neg (by omega)]
      have dx := Int.mul_ediv_add_emod x L
      have dy := Int.mul_ediv_add_emod y L
      rw [hq] at dx
      unfold loc
      by_cases e : x = y
      · subst e
        rw [if_neg (fun h => h.1 rfl)]
        simp
      · rw [if_pos ⟨e, ⟨g, x0, by omega⟩, ⟨g, by omega, by omega⟩⟩, px, py]
        have hlt : x % L < y % L := by omega
        have ho : opp (place0 L x) (place0 L y) = false := by
          unfold opp place0
          rw [hq]
          by_cases o : y / L % 2 = 1
          · rw [if_pos o, if_pos o]
            simp only
            rw [if_neg (show ¬ L - 1 - y % L > L - 1 - x % L by omega), if_pos (show L - 1 - y % L < L - 1 - x % L by omega)]
            rfl
          · rw [if_neg o, if_neg o]
            simp only
            rw [if_pos (show y % L > x % L by omega)]
        unfold mot
        rw [ho]
        unfold place0
        rw [hq]
        have z1 : iabs (y - x) = y - x := by unfold iabs; rw [if_neg (by omega)]
        have z2 : iabs (x % L - y % L) = y - x := by unfold iabs; rw [if_pos (by omega)]; omega
        by_cases o : y / L % 2 = 1
        · rw [if_pos o, if_pos o]
          simp only
          rw [show L - 1 - x % L - (L - 1 - y % L) = y - x by omega, Int.sub_self, z1]
          simp [iabs]
        · rw [if_neg o, if_neg o]
          simp only
          rw [Int.sub_self, z2]
          simp [iabs]
    -- the reads
    have hacc : ∀ x n, 0 ≤ x → 0 ≤ n → x + n < W * L → rdt W L S T J R x n = acc L T J R x n := by
      intro x n x0 n0 xC
      unfold rdt acc
      by_cases e : n = 0
      · rw [if_pos e, if_neg (by omega)]
      · rw [if_neg e, if_pos ⟨⟨g, x0, by omega⟩, by omega, by omega⟩]
    have r1 := hacc a (b - a) (by omega) (by omega) (by omega)
    have r2 := hacc b (c - b) (by omega) (by omega) (by omega)
    have r3 := hacc a (c - a) (by omega) (by omega) (by omega)
    have b1 := acc_b A (i := b - a) (by omega) (by omega)
    have b2 := acc_b B (i := c - b) (by omega) (by omega)
    have b3 := acc_b A (i := c - a) (by omega) (by omega)
    unfold TmOk at t0 t1 t2 t3
    have last : acc L T J R a (c - a) = acc L T J R a (b - a) + acc L T J R b (c - b) + (if a < b ∧ b < c ∧ b % L = 0 then J + T else 0) := by
      unfold acc
      by_cases e1 : a = b
      · subst e1
        rw [Int.sub_self, if_pos (rfl : (0:Int) = 0), if_neg (show ¬ (a < a ∧ a < c ∧ a % L = 0) by omega)]
        omega
      · by_cases e2 : b = c
        · subst e2
          rw [Int.sub_self, if_pos (rfl : (0:Int) = 0), if_neg (show ¬ (a < b ∧ b < b ∧ b % L = 0) by omega)]
          omega
        · rw [if_neg (by omega), if_neg (by omega), if_neg (by omega), show a + (c - a) - 1 = c - 1 by omega, show a + (b - a) - 1 = b - 1 by omega, show b + (c - b) - 1 = c - 1 by omega]
          have ds := div_step (x := b) hL1
          have er : R * (c - a) = R * (b - a) + R * (c - b) := by rw [← Int.mul_add]; congr 1; omega
          rw [er]
          by_cases f : b % L = 0
          · rw [if_pos f] at ds
            rw [if_pos ⟨by omega, by omega, f⟩]
            have : (J + T) * ((c - 1) / L - a / L) = (J + T) * ((b - 1) / L - a / L) + (J + T) * ((c - 1) / L - b / L) + (J + T) := by
              rw [← Int.mul_add, show (J + T) * ((b - 1) / L - a / L + ((c - 1) / L - b / L)) + (J + T) = (J + T) * (((b - 1) / L - a / L + ((c - 1) / L - b / L)) + 1) by rw [Int.mul_add (J + T) _ 1, Int.mul_one]]
              congr 1
              omega
            omega
          · rw [if_neg f] at ds
            rw [if_neg (fun h => f h.2.2)]
            have : (J + T) * ((c - 1) / L - a / L) = (J + T) * ((b - 1) / L - a / L) + (J + T) * ((c - 1) / L - b / L) := by
              rw [← Int.mul_add]
              congr 1
              omega
            omega
    have m1 := mul_bd (S := S) (d := b - a) (m := 1000000) (n := 4096) (by omega) (by omega) (by omega) (by omega)
    have m2 := mul_bd (S := S) (d := c - b) (m := 1000000) (n := 4096) (by omega) (by omega) (by omega) (by omega)
    have m3 : S * (c - a) = S * (b - a) + S * (c - b) := by rw [← Int.mul_add]; congr 1; omega
    refine ⟨K1 + K2 + K3 + K4 + K5 + K6 + K7 + K9 + 3, ?_⟩
    generalize hk : K1 + K2 + K3 + K4 + K5 + K6 + K7 + K9 = k
    simp only [tapearchivelaw09_SerpentineAdds.f, e1 (k + 3) (by omega), hc, Option.bind_some]
    rw [if_neg (by omega), if_neg (by omega), if_neg (by omega), show decide (c ≥ W * L) = false from decide_eq_false (by omega)]
    have step : tapearchivelaw09_SerpentineAdds.j1 (k + 2) a b c false W L S T J R = some true := by
      simp only [tapearchivelaw09_SerpentineAdds.j1, Bool.false_eq_true, if_false]
      rw [w64 (x := b - a) (by omega) (by omega), w64 (x := c - b) (by omega) (by omega), w64 (x := c - a) (by omega) (by omega)]
      simp only [e5 (k + 1) (by omega), e6 (k + 1) (by omega), e7 (k + 1) (by omega), r1, r2, r3, Option.bind_some]
      rw [if_neg (show ¬ L = 0 by omega), tmod_nn (by omega)]
      simp only [tapearchivelaw09_SerpentineAdds.j2, e9 k (by omega), Option.bind_some, Bool.false_eq_true, if_false]
      rw [w64 (x := acc L T J R a (b - a) + acc L T J R b (c - b)) (by omega) (by omega), w64 (x := acc L T J R a (c - a) - J) (by omega) (by omega), w64 (x := acc L T J R a (c - a) - J - T) (by omega) (by omega)]
      by_cases f1 : a < b
      · rw [if_pos f1]
        by_cases f2 : b < c
        · rw [if_pos f2]
          by_cases f3 : b % L = 0
          · rw [if_pos ⟨f1, f2, f3⟩] at last
            rw [if_pos (by simpa using f3), if_pos (by omega)]
          · rw [if_neg (fun h => f3 h.2.2)] at last
            rw [if_neg (by simpa using f3), if_pos (by omega)]
        · rw [if_neg (fun h => f2 h.2.1)] at last
          rw [if_neg f2, if_pos (by omega)]
      · rw [if_neg (fun h => f1 h.1)] at last
        rw [if_neg f1, if_pos (by omega)]
    simp only [tapearchivelaw09_SerpentineAdds.j0, Bool.false_eq_true, if_false]
    rw [if_neg (by omega), tdiv_nn (by omega), tdiv_nn (by omega), w64 (x := a / L) (by omega) (by omega), w64 (x := c / L) (by omega) (by omega)]
    by_cases hq : a / L = c / L
    · rw [if_pos hq]
      have w1 := within1 a c (by omega) (by omega) (by omega) hq
      have w2 := within1 a b (by omega) (by omega) (by omega) (by omega)
      have w3 := within1 b c (by omega) (by omega) (by omega) (by omega)
      simp only [e2 (k + 2) (by omega), e3 (k + 2) (by omega), e4 (k + 2) (by omega), Option.bind_some]
      rw [w1, w2, w3, w64 (x := S * (b - a) + S * (c - b)) (by omega) (by omega), m3, bne_self_eq_false]
      exact step
    · rw [if_neg hq]
      exact step

end Go.Proofs.Ytnogfkhbfgmjcaa.P
