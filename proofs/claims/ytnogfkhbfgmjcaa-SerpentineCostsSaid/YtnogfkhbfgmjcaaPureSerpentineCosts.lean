/- the time of a motion follows from both places, is at most Farthest, and differs from that of the motion back by at most Turn: the plain law. -/
import Derived.Test.YtnogfkhbfgmjcaaPx22
import Derived.Test.YtnogfkhbfgmjcaaOpenP
import Derived.Test.YtnogfkhbfgmjcaaSerpC
import Derived.Test.YtnogfkhbfgmjcaaSerpAw
namespace Go.Proofs.Ytnogfkhbfgmjcaa.P
open Go.Proofs.YtnogfkhbfgmjcaaW.PureKit Go.RowKit Go.Proofs.YtnogfkhbfgmjcaaW.PrintWords Go.Proofs.YtnogfkhbfgmjcaaW.OpenKd
set_option linter.unusedVariables false
set_option linter.unusedSimpArgs false

theorem lsize_eq {a : Int} (h1 : -9223372036854775807 ≤ a) (h2 : a ≤ 9223372036854775807) : tapearchivelaw09_size.f a = some (iabs a) := by
  unfold tapearchivelaw09_size.f iabs
  split
  · rw [w64 (by omega) (by omega)]
  · rfl
theorem place_w {W L S T J R b : Int} (h : Blk W L S T J R b) : 0 ≤ (place W L b).1 ∧ (place W L b).1 < W ∧ (place W L b).2.2 = decide ((place W L b).1 % 2 = 1) ∧ (b ≠ W * L → 0 ≤ (place W L b).2.1 ∧ (place W L b).2.1 ≤ L - 1) ∧ (b = W * L → (place W L b).2.1 = -1 ∨ (place W L b).2.1 = L) := by
  obtain ⟨g, h0, h1⟩ := h
  have hp := g.C_pos; have hL1 := g.2.2.1; have hC := g.2.2.2.1
  have key : ∀ c, 0 ≤ c → c < W * L → 0 ≤ (place0 L c).1 ∧ (place0 L c).1 < W ∧ (place0 L c).2.2 = decide ((place0 L c).1 % 2 = 1) := by
    intro c c0 c1
    have a1 : 0 ≤ c / L := Int.ediv_nonneg c0 (by omega)
    have a2 := (Int.ediv_lt_iff_lt_mul (a := c) (b := W) (show 0 < L by omega)).2 c1
    unfold place0
    by_cases o : c / L % 2 = 1
    · rw [if_pos o]; exact ⟨a1, a2, by simp [o]⟩
    · rw [if_neg o]; exact ⟨a1, a2, by simp [o]⟩
  by_cases e : b = W * L
  · have k1 := key (b - 1) (by omega) (by omega)
    have hm : (b - 1) % L = L - 1 := by
      have d := Int.mul_ediv_add_emod (b - 1) L
      have m0 := Int.emod_nonneg (b - 1) (show L ≠ 0 by omega)
      have m1 := Int.emod_lt_of_pos (b - 1) (show 0 < L by omega)
      have ds := div_step (x := b) hL1
      have hb0 : b % L = 0 := by rw [e]; exact Int.mul_emod_left W L
      have hq : b / L = W := by rw [e]; exact Int.mul_ediv_cancel W (by omega)
      rw [if_pos hb0, hq] at ds
      have : (b - 1) / L = W - 1 := by omega
      rw [this, Int.mul_sub, Int.mul_one, Int.mul_comm] at d
      omega
    unfold place
    rw [if_pos e]
    simp only
    have hx : (place0 L (b - 1)).2.1 = if (place0 L (b - 1)).2.2 = true then 0 else L - 1 := by
      unfold place0
      by_cases o : (b - 1) / L % 2 = 1
      · rw [if_pos o]; simp [hm]
      · rw [if_neg o]; simp [hm]
    by_cases o : (place0 L (b - 1)).2.2 = true
    · rw [if_pos o]
      rw [if_pos o] at hx
      refine ⟨k1.1, k1.2.1, k1.2.2, fun h => absurd e h, fun _ => .inl ?_⟩
      simp only
      omega
    · rw [if_neg o]
      rw [if_neg o] at hx
      refine ⟨k1.1, k1.2.1, k1.2.2, fun h => absurd e h, fun _ => .inr ?_⟩
      simp only
      omega
  · have k1 := key b h0 (by omega)
    have hb := place0_b (L := L) (b := b) hL1 h0
    unfold place
    rw [if_neg e]
    exact ⟨k1.1, k1.2.1, k1.2.2, fun _ => ⟨hb.2.2.1, hb.2.2.2⟩, fun h => absurd h e⟩
theorem mem_endsFrom (L : Int) : ∀ (d : Nat) (i w : Int), i ≤ w → w < i + d → w * L ∈ endsFrom L i d ∧ ((w + 1) * L - 1) ∈ endsFrom L i d := by
  intro d
  induction d with
  | zero => intro i w h1 h2; omega
  | succ d ih =>
    intro i w h1 h2
    by_cases e : w = i
    · subst e; simp [endsFrom]
    · have := ih (i + 1) w (by omega) (by omega)
      simp only [endsFrom, List.mem_cons]
      exact ⟨.inr (.inr this.1), .inr (.inr this.2)⟩
theorem end_at {W L S T J R w x : Int} (g : GV W L S T J R) (h0 : 0 ≤ w) (h1 : w < W) (hx : x = 0 ∨ x = L - 1) : ∃ e, e ∈ endsL W L ∧ Blk W L S T J R e ∧ place W L e = (w, x, decide (w % 2 = 1)) := by
  have hL1 := g.2.2.1; have hC := g.2.2.2.1
  obtain ⟨w1, w2, w3⟩ := wrap_b hL1 hC h0 h1
  have hm := mem_endsFrom L W.toNat 0 w h0 (by omega)
  have q1 : (w * L) / L = w := Int.mul_ediv_cancel w (by omega)
  have q2 : (w * L) % L = 0 := Int.mul_emod_left w L
  have q3 : ((w + 1) * L - 1) / L = w := ediv_is hL1 (by omega) (by omega)
  have q4 : ((w + 1) * L - 1) % L = L - 1 := by
    have d := Int.mul_ediv_add_emod ((w + 1) * L - 1) L
    rw [q3, Int.mul_comm] at d
    omega
  have p1 : place W L (w * L) = if w % 2 = 1 then (w, L - 1, true) else (w, 0, false) := by
    unfold place
    rw [if_neg (by omega)]
    unfold place0
    rw [q1, q2]
    split <;> simp
  have p2 : place W L ((w + 1) * L - 1) = if w % 2 = 1 then (w, 0, true) else (w, L - 1, false) := by
    unfold place
    rw [if_neg (by omega)]
    unfold place0
    rw [q3, q4]
    split <;> simp
  have m1 : w * L ∈ endsL W L := by unfold endsL; exact List.mem_append_right _ hm.1
  have m2 : ((w + 1) * L - 1) ∈ endsL W L := by unfold endsL; exact List.mem_append_right _ hm.2
  by_cases o : w % 2 = 1
  · rw [if_pos o] at p1 p2
    rcases hx with rfl | rfl
    · exact ⟨_, m2, ⟨g, by omega, by omega⟩, by rw [p2]; simp [o]⟩
    · exact ⟨_, m1, ⟨g, by omega, by omega⟩, by rw [p1]; simp [o]⟩
  · rw [if_neg o] at p1 p2
    rcases hx with rfl | rfl
    · exact ⟨_, m1, ⟨g, by omega, by omega⟩, by rw [p1]; simp [o]⟩
    · exact ⟨_, m2, ⟨g, by omega, by omega⟩, by rw [p2]; simp [o]⟩
theorem end_lo {W L S T J R b : Int} (h : Blk W L S T J R b) : ∃ e, e ∈ endsL W L ∧ Blk W L S T J R e ∧ (place W L e).1 = (place W L b).1 ∧ (place W L e).2.2 = (place W L b).2.2 ∧ (place W L e).2.1 ≤ (place W L b).2.1 := by
  by_cases e : b = W * L
  · exact ⟨b, by rw [e]; simp [endsL], h, rfl, rfl, Int.le_refl _⟩
  · obtain ⟨h0, h1, h2, h3, _⟩ := place_w h
    obtain ⟨x, hm, hb, hp⟩ := end_at h.1 h0 h1 (.inl rfl)
    exact ⟨x, hm, hb, by rw [hp], by rw [hp, h2], by rw [hp]; exact (h3 e).1⟩
theorem end_hi {W L S T J R b : Int} (h : Blk W L S T J R b) : ∃ e, e ∈ endsL W L ∧ Blk W L S T J R e ∧ (place W L e).1 = (place W L b).1 ∧ (place W L e).2.2 = (place W L b).2.2 ∧ (place W L b).2.1 ≤ (place W L e).2.1 := by
  by_cases e : b = W * L
  · exact ⟨b, by rw [e]; simp [endsL], h, rfl, rfl, Int.le_refl _⟩
  · obtain ⟨h0, h1, h2, h3, _⟩ := place_w h
    obtain ⟨x, hm, hb, hp⟩ := end_at h.1 h0 h1 (.inr rfl)
    exact ⟨x, hm, hb, by rw [hp], by rw [hp, h2], by rw [hp]; exact (h3 e).2⟩
theorem loc_is {W L S T J R a b : Int} (hne : a ≠ b) (ha : Blk W L S T J R a) (hb : Blk W L S T J R b) : loc W L S T J R a b = mot S T J (place W L a) (place W L b) := if_pos ⟨hne, ha, hb⟩
theorem loc_ends {W L S T J R a b : Int} (hne : a ≠ b) (ha : Blk W L S T J R a) (hb : Blk W L S T J R b) : ∃ x y, x ∈ endsL W L ∧ y ∈ endsL W L ∧ loc W L S T J R a b ≤ loc W L S T J R x y := by
  have hS := ha.1.2.2.2.2.1.1
  rw [loc_is hne ha hb]
  rcases Int.lt_trichotomy (place W L a).2.1 (place W L b).2.1 with c | c | c
  · obtain ⟨x, mx_, bx, x1, x2, x3⟩ := end_lo ha
    obtain ⟨y, my, by_, y1, y2, y3⟩ := end_hi hb
    refine ⟨x, y, mx_, my, ?_⟩
    rw [loc_is (fun e => by subst e; omega) bx by_]
    unfold mot opp
    rw [x1, y1, y2, if_pos (show (place W L b).2.1 > (place W L a).2.1 by omega), if_pos (show (place W L y).2.1 > (place W L x).2.1 by omega)]
    have : S * iabs ((place W L a).2.1 - (place W L b).2.1) ≤ S * iabs ((place W L x).2.1 - (place W L y).2.1) := Int.mul_le_mul_of_nonneg_left (by unfold iabs; rw [if_pos (by omega), if_pos (by omega)]; omega) hS
    omega
  · have ea : a ≠ W * L := by
      intro e
      by_cases f : b = W * L
      · omega
      · have h1 := (place_w ha).2.2.2.2 e
        have h2 := (place_w hb).2.2.2.1 f
        omega
    have eb : b ≠ W * L := by
      intro e
      have h1 := (place_w hb).2.2.2.2 e
      have h2 := (place_w ha).2.2.2.1 ea
      omega
    obtain ⟨a0, a1, a2, _, _⟩ := place_w ha
    obtain ⟨b0, b1, b2, _, _⟩ := place_w hb
    obtain ⟨x, mx_, bx, px⟩ := end_at ha.1 a0 a1 (.inl rfl)
    obtain ⟨y, my, by_, py⟩ := end_at hb.1 b0 b1 (.inl rfl)
    refine ⟨x, y, mx_, my, ?_⟩
    have hw : (place W L a).1 ≠ (place W L b).1 := by
      intro e
      apply hne
      apply place_inj (W := W) (L := L)
      have h3 : (place W L a).2.2 = (place W L b).2.2 := by rw [a2, b2, e]
      exact Prod.ext e (Prod.ext c h3)
    rw [loc_is (fun e => by subst e; rw [px] at py; injection py with q _; exact hw q) bx by_, px, py]
    unfold mot opp
    simp only
    rw [c, if_neg (show ¬ (place W L b).2.1 > (place W L b).2.1 by omega), if_neg (show ¬ (place W L b).2.1 < (place W L b).2.1 by omega), ← a2, ← b2]
    simp
  · obtain ⟨x, mx_, bx, x1, x2, x3⟩ := end_hi ha
    obtain ⟨y, my, by_, y1, y2, y3⟩ := end_lo hb
    refine ⟨x, y, mx_, my, ?_⟩
    rw [loc_is (fun e => by subst e; omega) bx by_]
    unfold mot opp
    rw [x1, y1, y2, if_neg (show ¬ (place W L b).2.1 > (place W L a).2.1 by omega), if_neg (show ¬ (place W L y).2.1 > (place W L x).2.1 by omega), if_pos (show (place W L b).2.1 < (place W L a).2.1 by omega), if_pos (show (place W L y).2.1 < (place W L x).2.1 by omega)]
    have : S * iabs ((place W L a).2.1 - (place W L b).2.1) ≤ S * iabs ((place W L x).2.1 - (place W L y).2.1) := Int.mul_le_mul_of_nonneg_left (by unfold iabs; rw [if_neg (by omega), if_neg (by omega)]; omega) hS
    omega
theorem fold_ge {f : Int → Int} : ∀ (l : List Int) (m : Int), m ≤ l.foldl (fun m b => max m (f b)) m ∧ ∀ x, x ∈ l → f x ≤ l.foldl (fun m b => max m (f b)) m
  | [], m => ⟨Int.le_refl _, fun x h => by simp at h⟩
  | y :: l, m => by
    have := fold_ge (f := f) l (max m (f y))
    simp only [List.foldl_cons]
    refine ⟨by omega, fun x hx => ?_⟩
    rcases List.mem_cons.1 hx with rfl | hx
    · omega
    · exact this.2 x hx
theorem fold2_ge {f : Int → Int → Int} (l0 : List Int) : ∀ (l : List Int) (m : Int), m ≤ l.foldl (fun m a => l0.foldl (fun m b => max m (f a b)) m) m ∧ ∀ x y, x ∈ l → y ∈ l0 → f x y ≤ l.foldl (fun m a => l0.foldl (fun m b => max m (f a b)) m) m
  | [], m => ⟨Int.le_refl _, fun x y h => by simp at h⟩
  | z :: l, m => by
    have h1 := fold_ge (f := f z) l0 m
    have := fold2_ge (f := f) l0 l (l0.foldl (fun m b => max m (f z b)) m)
    simp only [List.foldl_cons]
    refine ⟨by omega, fun x y hx hy => ?_⟩
    rcases List.mem_cons.1 hx with rfl | hx
    · have := h1.2 y hy
      omega
    · exact this.2 x y hx hy
theorem loc_far {W L S T J R a b : Int} (hne : a ≠ b) (ha : Blk W L S T J R a) (hb : Blk W L S T J R b) : loc W L S T J R a b ≤ far W L S T J R := by
  obtain ⟨x, y, hx, hy, h⟩ := loc_ends hne ha hb
  unfold far
  rw [if_pos ha.1]
  have := (fold2_ge (f := loc W L S T J R) (endsL W L) (endsL W L) 0).2 x y hx hy
  omega

theorem pure_SerpentineCosts : ∀ (x0 : S23) (a1 : Int) (a2 : Int), Ok23 x0 → OkInt .i64 a1 → OkInt .i64 a2 → ∃ k : Nat, tapearchivelaw09_SerpentineCosts.f k x0.f0 x0.f1 x0.f2 x0.f3 x0.f4 x0.f5 a1 a2 = some true := by
  intro x0 a b h0 h1 h2
  obtain ⟨W, L, S, T, J, R⟩ := x0
  show ∃ k : Nat, tapearchivelaw09_SerpentineCosts.f k W L S T J R a b = some true
  have hL := (h0.2.1).i64.2
  simp only at hL
  obtain ⟨K9, e9⟩ := awake_ev
  obtain ⟨K1, e1⟩ := Place_ev W L S T J R a hL
  obtain ⟨K2, e2⟩ := Place_ev W L S T J R b hL
  obtain ⟨K3, e3⟩ := Locate_ev W L S T J R a b hL
  obtain ⟨K4, e4⟩ := Locate_ev W L S T J R b a hL
  obtain ⟨K5, e5⟩ := Farthest_ev W L S T J R hL
  refine ⟨K1 + K2 + K3 + K4 + K5 + K9 + 1, ?_⟩
  generalize hk : K1 + K2 + K3 + K4 + K5 + K9 = k
  have zero : loc W L S T J R a b = 0 → ∀ p1 p2 p3 q1 q2 q3, tapearchivelaw09_SerpentineCosts.j0 (k + 1) a b (loc W L S T J R a b) true W L S T J R p1 p2 p3 q1 q2 q3 = some true := by
    intro hz p1 p2 p3 q1 q2 q3
    simp only [tapearchivelaw09_SerpentineCosts.j0, hz, if_true, e9 k (by omega), Option.bind_some]
  simp only [tapearchivelaw09_SerpentineCosts.f, e1 (k + 1) (by omega), e2 (k + 1) (by omega), e3 (k + 1) (by omega), Option.bind_some, placeR]
  by_cases ga : Blk W L S T J R a
  · by_cases gb : Blk W L S T J R b
    · simp only [if_pos ga, if_pos gb, if_true]
      by_cases e : a = b
      · rw [show (a == b) = true from by simpa using e]
        exact zero (by unfold loc; rw [if_neg (fun h => h.1 e)]) _ _ _ _ _ _
      · rw [show (a == b) = false from by simpa using e]
        obtain ⟨b1, b2, b3, b4⟩ := places_b ga gb
        obtain ⟨m1, m2, m3, m4, m5, m6⟩ := mot_b (n := 5000) (p := place W L a) (q := place W L b) ga.1.2.2.2.2.1 ga.1.2.2.2.2.2.1 ga.1.2.2.2.2.2.2.1 b1 b2 b3 b4
        have hT := ga.1.2.2.2.2.2.1
        unfold TmOk at hT
        have l1 := loc_is e ga gb
        have l2 := loc_is (fun h => e h.symm) gb ga
        have hf := loc_far e ga gb
        have s1 := lsize_eq (a := (place W L b).2.1 - (place W L a).2.1) (by omega) (by omega)
        have s2 := lsize_eq (a := (place W L b).1 - (place W L a).1) (by omega) (by omega)
        rw [iabs_comm] at s1 s2
        have hn : loc W L S T J R a b = S * iabs ((place W L a).2.1 - (place W L b).2.1) + J * iabs ((place W L a).1 - (place W L b).1) + (if opp (place W L a) (place W L b) = true then T else 0) := l1
        have hm : loc W L S T J R b a = S * iabs ((place W L a).2.1 - (place W L b).2.1) + J * iabs ((place W L a).1 - (place W L b).1) + (if opp (place W L b) (place W L a) = true then T else 0) := by rw [l2]; unfold mot; rw [iabs_comm, iabs_comm (place W L b).1]
        have s3 := lsize_eq (a := loc W L S T J R a b - loc W L S T J R b a) (by rw [hn, hm]; split <;> split <;> omega) (by rw [hn, hm]; split <;> split <;> omega)
        have hd : iabs (loc W L S T J R a b - loc W L S T J R b a) ≤ T := by
          apply iabs_le <;> (rw [hn, hm]; split <;> split <;> omega)
        have w1 : wrap64 (loc W L S T J R a b - loc W L S T J R b a) = loc W L S T J R a b - loc W L S T J R b a := w64 (by rw [hn, hm]; split <;> split <;> omega) (by rw [hn, hm]; split <;> split <;> omega)
        simp only [tapearchivelaw09_SerpentineCosts.j0, Bool.false_eq_true, if_false]
        rw [w64 (x := (place W L b).2.1 - (place W L a).2.1) (by omega) (by omega), w64 (x := (place W L b).1 - (place W L a).1) (by omega) (by omega), s1, s2]
        simp only [Option.bind_some, e4 k (by omega), e5 k (by omega), e9 k (by omega)]
        rw [w64 (x := S * _) (by omega) (by omega), w64 (x := J * _) (by omega) (by omega), w64 (x := S * _ + _) (by omega) (by omega), w64 (x := S * _ + _ + T) (by omega) (by omega), w1, s3]
        simp only [Option.bind_some]
        rw [if_pos hf, if_pos hd]
        by_cases c : loc W L S T J R a b = S * iabs ((place W L a).2.1 - (place W L b).2.1) + J * iabs ((place W L a).1 - (place W L b).1)
        · rw [if_pos c]
        · rw [if_neg c, if_pos]
          rw [hn] at c ⊢
          split
          · rfl
          · rename_i ho
            rw [if_neg ho] at c
            omega
    · simp only [if_pos ga, if_neg gb, if_true, Bool.false_eq_true, if_false]
      exact zero (by unfold loc; rw [if_neg (fun h => gb h.2.2)]) _ _ _ _ _ _
  · simp only [if_neg ga, Bool.false_eq_true, if_false]
    exact zero (by unfold loc; rw [if_neg (fun h => ga h.2.1)]) _ _ _ _ _ _

end Go.Proofs.Ytnogfkhbfgmjcaa.P
