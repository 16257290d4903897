/- What the reference of layer 9 computes, as layer 11 uses it. -/
import Derived.Test.YtlkjklacanedoaaDenP11s
namespace Go.Proofs.Ytlkjklacanedoaa.Den.G11
open Go.Proofs.Ytlkjklacanedoaa.Den Go
set_option linter.unusedVariables false
set_option linter.unusedSectionVars false
set_option linter.unusedSimpArgs false
variable {D : Nat} [hBig : Big D]
/-- What the reference's Place returns. -/
def placeR (W L S T J R b : Int) : (Int × Int × Bool) × Bool := if PB W L S T J R b then (place W L b, true) else ((0, 0, false), false)
theorem rPlace_in {W L S T J R b : Int} (g : GV W L S T J R) (h0 : 0 ≤ b) (h1 : b < W * L) (k : Nat) : tapearchiveref09_Place (k + 1) (W, L, S, T, J, R) b = some (place0 L b, true) := by
  have hC := g.2.2.2.1; have hL := g.L_le; have hL1 := g.2.2.1
  have a1 : 0 ≤ b / L := Int.ediv_nonneg h0 (by omega)
  have a2 : b / L ≤ b := Int.ediv_le_self _ h0
  have a3 := Int.emod_nonneg b (show L ≠ 0 by omega)
  have a4 := Int.emod_lt_of_pos b (show 0 < L by omega)
  rw [tapearchiveref09_Place]
  simp only [rValid_gv, rCap_gv, if_pos g, Option.bind_some, decide_eq_true_eq]
  rw [decide_eq_true g, if_neg (by simp), if_neg (by omega), if_neg (by omega)]
  simp only [Option.bind_some, rCap_gv, if_pos g]
  rw [if_neg (by omega), if_neg (by omega), if_neg (by omega), tdiv_nn h0, tmod_nn h0, w64 (x := b / L) (by omega) (by omega), tmod_nn a1, w64 (x := L - 1) (by omega) (by omega), w64 (by omega) (by omega)]
  unfold place0
  split <;> rfl
theorem rPlace_eq {d : Nat} (hd : 2 ≤ d) (W L S T J R b : Int) : tapearchiveref09_Place d (W, L, S, T, J, R) b = some (placeR W L S T J R b) := by
  obtain ⟨k, rfl⟩ : ∃ k, d = k + 2 := ⟨d - 2, by omega⟩
  by_cases g : GV W L S T J R
  · have hC := g.2.2.2.1; have hL := g.L_le; have hL1 := g.2.2.1; have hp := g.C_pos
    by_cases h0 : b < 0
    · rw [tapearchiveref09_Place]
      simp only [rValid_gv, rCap_gv, if_pos g, Option.bind_some, decide_eq_true_eq]
      rw [decide_eq_true g, if_neg (by simp), if_pos h0]
      unfold placeR
      rw [if_neg (by unfold PB; omega)]; rfl
    · by_cases h1 : b > W * L
      · rw [tapearchiveref09_Place]
        simp only [rValid_gv, rCap_gv, if_pos g, Option.bind_some, decide_eq_true_eq]
        rw [decide_eq_true g, if_neg (by simp), if_neg h0, if_pos h1]
        unfold placeR
        rw [if_neg (by unfold PB; omega)]; rfl
      · have hB : PB W L S T J R b := ⟨g, by omega, by omega⟩
        by_cases e : b = W * L
        · have hb := place0_b (L := L) (b := b - 1) hL1 (by omega)
          rw [tapearchiveref09_Place]
          simp only [rValid_gv, rCap_gv, if_pos g, Option.bind_some, decide_eq_true_eq]
          rw [decide_eq_true g, if_neg (by simp), if_neg h0, if_neg h1]
          simp only [Option.bind_some, rCap_gv, if_pos g]
          rw [if_pos e, w64 (x := b - 1) (by omega) (by omega), rPlace_in g (by omega) (by omega)]
          simp only [Option.bind_some, placeR, if_pos hB, place, if_pos e]
          rw [w64 (x := (place0 L (b - 1)).2.1 - 1) (by omega) (by omega), w64 (x := (place0 L (b - 1)).2.1 + 1) (by omega) (by omega)]
          split <;> rfl
        · rw [rPlace_in g (by omega) (by omega)]
          simp only [placeR, if_pos hB, place, if_neg e]
  · rw [tapearchiveref09_Place]
    simp only [rValid_gv, Option.bind_some]
    rw [decide_eq_false g, if_pos (by simp)]
    unfold placeR
    rw [if_neg (fun hb => g hb.1)]; rfl
theorem rsize_eq {d : Nat} {a : Int} (h1 : -4611686018427387904 ≤ a) (h2 : a ≤ 4611686018427387904) : tapearchiveref09_size d a = some (iabs a) := by
  unfold tapearchiveref09_size iabs
  simp only [decide_eq_true_eq]
  split
  · rw [w64 (by omega) (by omega)]; congr 1; omega
  · rfl
theorem rlocate_eq (W L S T J R a b : Int) : tapearchiveref09_Locate D (W, L, S, T, J, R) a b = some (loc W L S T J R a b) := by
  have hD := hBig.h
  unfold tapearchiveref09_Locate
  simp only [rPlace_eq (d := D) (by omega), Option.bind_some, decide_eq_true_eq, placeR, loc]
  by_cases ga : PB W L S T J R a
  · by_cases gb : PB W L S T J R b
    · simp only [if_pos ga, if_pos gb]
      by_cases e : a = b
      · simp [e]
      · obtain ⟨b1, b2, b3, b4⟩ := places_b ga gb
        have hb := mot_b (n := 5000) (p := place W L a) (q := place W L b) ga.1.2.2.2.2.1 ga.1.2.2.2.2.2.1 ga.1.2.2.2.2.2.2.1 b1 b2 b3 b4
        have c := ga.1.2.2.2.2.2.1.1; have d := ga.1.2.2.2.2.2.1.2
        have s1 := rsize_eq (d := D) (a := (place W L b).2.1 - (place W L a).2.1) (by omega) (by omega)
        have s2 := rsize_eq (d := D) (a := (place W L b).1 - (place W L a).1) (by omega) (by omega)
        rw [iabs_comm] at s1 s2
        rw [if_neg (by simp), if_neg (by simp), if_neg e, if_pos ⟨e, ga, gb⟩]
        simp only [Option.bind_some, w64 (x := (place W L b).2.1 - (place W L a).2.1) (by omega) (by omega), w64 (x := (place W L b).1 - (place W L a).1) (by omega) (by omega), s1, s2]
        rw [w64 (x := S * _) (by omega) (by omega), w64 (x := J * _) (by omega) (by omega), w64 (x := S * _ + _) (by omega) (by omega), w64 (x := _ + T) (by omega) (by omega)]
        unfold mot opp
        rcases Int.lt_trichotomy (place W L a).2.1 (place W L b).2.1 with a1 | a1 | a1
        · rw [if_pos (show (place W L b).2.1 - (place W L a).2.1 > 0 by omega), if_neg (show ¬ (place W L b).2.1 - (place W L a).2.1 < 0 by omega), if_neg (show ¬ (place W L b).2.1 - (place W L a).2.1 = 0 by omega), if_pos (show (place W L b).2.1 > (place W L a).2.1 by omega)]
          split <;> simp
        · rw [if_neg (show ¬ (place W L b).2.1 - (place W L a).2.1 > 0 by omega), if_neg (show ¬ (place W L b).2.1 - (place W L a).2.1 < 0 by omega), if_pos (show (place W L b).2.1 - (place W L a).2.1 = 0 by omega), if_neg (show ¬ (place W L b).2.1 > (place W L a).2.1 by omega), if_neg (show ¬ (place W L b).2.1 < (place W L a).2.1 by omega)]
          cases (place W L a).2.2 <;> cases (place W L b).2.2 <;> simp
        · rw [if_neg (show ¬ (place W L b).2.1 - (place W L a).2.1 > 0 by omega), if_pos (show (place W L b).2.1 - (place W L a).2.1 < 0 by omega), if_neg (show ¬ (place W L b).2.1 - (place W L a).2.1 = 0 by omega), if_neg (show ¬ (place W L b).2.1 > (place W L a).2.1 by omega), if_pos (show (place W L b).2.1 < (place W L a).2.1 by omega)]
          cases (place W L b).2.2 <;> simp
    · simp only [if_pos ga, if_neg gb]
      rw [if_neg (by simp), if_pos (by simp), if_neg (fun h => gb h.2.2)]; rfl
  · simp only [if_neg ga]
    rw [if_pos (by simp), if_neg (fun h => ga h.2.1)]; rfl
theorem rRead_l0 {W L S T J R a n : Int} (g : PB W L S T J R a) (h2 : n ≤ W * L - a) (d : Nat) : ∀ (m k : Nat) (i : Int), 0 ≤ i → i + m = n → m < k → tapearchiveref09_Read_l0 d k (acc L T J R a i) i (W, L, S, T, J, R) (a, n) = some (acc L T J R a n) := by
  intro m
  have hL1 := g.1.2.2.1; have h0 := g.2.1; have hC := g.1.2.2.2.1
  have t1 := g.1.2.2.2.2.2.1; have t2 := g.1.2.2.2.2.2.2.1; have t3 := g.1.2.2.2.2.2.2.2
  unfold TmOk at t1 t2 t3
  induction m with
  | zero =>
    intro k i h0 h1 hk
    obtain ⟨k, rfl⟩ : ∃ m, k = m + 1 := ⟨k - 1, by omega⟩
    simp only [tapearchiveref09_Read_l0, decide_eq_true_eq]
    rw [if_neg (by omega), show i = n by omega]
  | succ m ih =>
    intro k i h3 h1 hk
    obtain ⟨k, rfl⟩ : ∃ m, k = m + 1 := ⟨k - 1, by omega⟩
    have b1 := acc_b g (i := i) h3 (by omega)
    simp only [tapearchiveref09_Read_l0, decide_eq_true_eq]
    have ih' := ih k (i + 1) (by omega) (by omega) (by omega)
    rw [acc_step hL1 h3] at ih'
    rw [if_pos (by omega), w64 (x := i + 1) (by omega) (by omega), w64 (x := acc L T J R a i + R) (by omega) (by omega), w64 (x := acc L T J R a i + R + J) (by omega) (by omega), w64 (x := acc L T J R a i + R + J + T) (by omega) (by omega), w64 (x := a + i) (by omega) (by omega), tmod_nn (by omega)]
    by_cases e : i > 0
    · rw [if_pos e, if_neg (by omega)]
      by_cases f : (a + i) % L = 0
      · rw [if_pos ⟨e, f⟩] at ih'
        rw [if_pos f, show acc L T J R a i + R + J + T = acc L T J R a i + R + (J + T) by omega]
        exact ih'
      · rw [if_neg (fun h => f h.2), Int.add_zero] at ih'
        rw [if_neg f]
        exact ih'
    · rw [if_neg (fun h => e h.1), Int.add_zero] at ih'
      rw [if_neg e]
      exact ih'
theorem rsread_eq (W L S T J R a n : Int) : tapearchiveref09_Read D (W, L, S, T, J, R) (a, n) = some (rdt W L S T J R a n) := by
  have hD := hBig.h
  unfold tapearchiveref09_Read
  simp only [rValid_gv, rCap_gv, Option.bind_some, rdt, decide_eq_true_eq]
  by_cases g : GV W L S T J R
  · have hC := g.2.2.2.1; have hL1 := g.2.2.1; have hp := g.C_pos
    rw [decide_eq_true g, if_neg (by simp), if_pos g]
    by_cases c1 : a < 0
    · rw [if_pos c1, if_neg (by unfold PB; omega)]; rfl
    · rw [if_neg c1]
      by_cases c2 : a > W * L
      · rw [if_pos c2, if_neg (by unfold PB; omega)]; rfl
      · rw [if_neg c2]
        by_cases c3 : n < 0
        · rw [if_pos c3, if_neg (by omega)]; rfl
        · rw [if_neg c3]
          by_cases c4 : n > W * L
          · rw [if_pos c4, if_neg (by omega)]; rfl
          · rw [if_neg c4, w64 (x := a + n) (by omega) (by omega)]
            by_cases c5 : a + n > W * L
            · rw [if_pos c5, if_neg (by omega)]; rfl
            · have hB : PB W L S T J R a := ⟨g, by omega, by omega⟩
              have := rRead_l0 hB (n := n) (by omega) D n.toNat D 0 (by omega) (by omega) (by omega)
              rw [if_neg c5]
              have e0 : acc L T J R a 0 = 0 := if_pos rfl
              rw [e0] at this
              simp only [Option.bind_some]
              rw [this]
              simp only [Option.bind_some]
              congr 1
              unfold acc
              by_cases e : n = 0
              · rw [if_pos e, if_neg (by omega)]
              · rw [if_neg e, if_pos ⟨hB, by omega, by omega⟩]
  · rw [decide_eq_false g, if_pos (by simp), if_neg (fun h => g h.1.1)]; rfl
theorem rpasses_eq (W L S T J R a b : Int) : tapearchiveref09_Passes D (W, L, S, T, J, R) a b = some (pss W L S T J R a b) := by
  have hD := hBig.h
  unfold tapearchiveref09_Passes
  simp only [rPlace_eq (d := D) (by omega), placeR, Option.bind_some, pss, decide_eq_true_eq]
  by_cases ga : PB W L S T J R a
  · by_cases gb : PB W L S T J R b
    · obtain ⟨b1, b2, b3, b4⟩ := places_b ga gb
      have hL1 := ga.1.2.2.1; have hLL := ga.1.L_le
      have i0 := iabs_nn ((place W L a).2.1 - (place W L b).2.1); have i1 := iabs_le b1 b2
      have q0 : (iabs ((place W L a).2.1 - (place W L b).2.1) * 1000 + L - 1) / L ≤ _ := Int.ediv_le_self _ (by omega)
      have q1 : 0 ≤ (iabs ((place W L a).2.1 - (place W L b).2.1) * 1000 + L - 1) / L := Int.ediv_nonneg (by omega) (by omega)
      have s1 := rsize_eq (d := D) (a := (place W L b).2.1 - (place W L a).2.1) (by omega) (by omega)
      rw [iabs_comm] at s1
      simp only [if_pos ga, if_pos gb]
      rw [if_neg (by simp), if_neg (by simp)]
      simp only [Option.bind_some]
      rw [w64 (x := (place W L b).2.1 - (place W L a).2.1) (by omega) (by omega), s1]
      simp only [Option.bind_some]
      rw [if_neg (by omega), if_pos ⟨ga, gb⟩, w64 (x := _ * 1000) (by omega) (by omega), w64 (x := _ * 1000 + L) (by omega) (by omega), w64 (x := _ * 1000 + L - 1) (by omega) (by omega), tdiv_nn (by omega), w64 (by omega) (by omega)]
    · simp only [if_pos ga, if_neg gb]
      rw [if_neg (by simp), if_pos (by simp), if_neg (fun h => gb h.2)]; rfl
  · simp only [if_neg ga]
    rw [if_pos (by simp), if_neg (fun h => ga h.1)]; rfl
end Go.Proofs.Ytlkjklacanedoaa.Den.G11
