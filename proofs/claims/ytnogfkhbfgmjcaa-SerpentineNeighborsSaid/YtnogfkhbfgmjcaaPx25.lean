-- Written by a program of this session (wip/gen/myprint.py): plain functions of the Go code, and the proofs of the walks.
import Derived.Test.YtnogfkhbfgmjcaaPx0
import Derived.Test.YtnogfkhbfgmjcaaPx18
import Derived.Test.YtnogfkhbfgmjcaaPx19
import Derived.Test.YtnogfkhbfgmjcaaPx23
namespace Go.Proofs.Ytnogfkhbfgmjcaa.P
open Go.RowKit Go.Proofs.YtnogfkhbfgmjcaaW.PrintWords Go.Proofs.YtnogfkhbfgmjcaaW.PrintLast Go.Proofs.YtnogfkhbfgmjcaaW.PrintMore
open Go.Proofs.YtnogfkhbfgmjcaaW.Mine
attribute [local go_sem] isSome_setCell Go.Instr.field Go.asAgg
attribute [local go_sem] max2_int min2_int max_two min_two max_three min_three max_four min_four   -- for this text's walks alone
set_option linter.unusedVariables false
set_option linter.unusedSimpArgs false

/-! ### tapearchivelaw09_SerpentineNeighbors: function 6 -/
mutual
def tapearchivelaw09_SerpentineNeighbors.j0 : Nat → Int → Bool → Int → Int → Int → Int → Int → Int → Option (Bool)
  | 0, _, _, _, _, _, _, _, _ => none
  | k + 1, x1, x18, x300000, x300001, x300002, x300003, x300004, x300005 => if x18 = true then ((tapearchivelaw09_awake.f k).bind fun t301 => (some t301)) else ((serpentine_Place.f k x300000 x300001 x300002 x300003 x300004 x300005 x1).bind fun bt302 => ((serpentine_Place.f k x300000 x300001 x300002 x300003 x300004 x300005 (wrap64 (x1 + 1))).bind fun bt307 => (if bt302.2.2.2 = true then (tapearchivelaw09_SerpentineNeighbors.j1 k x1 (!bt307.2.2.2) x300000 x300001 x300002 x300003 x300004 x300005 bt302.1 bt302.2.1 bt302.2.2.1 bt307.1 bt307.2.1 bt307.2.2.1) else (tapearchivelaw09_SerpentineNeighbors.j1 k x1 true x300000 x300001 x300002 x300003 x300004 x300005 bt302.1 bt302.2.1 bt302.2.2.1 bt307.1 bt307.2.1 bt307.2.2.1))))
def tapearchivelaw09_SerpentineNeighbors.j1 : Nat → Int → Bool → Int → Int → Int → Int → Int → Int → Int → Int → Bool → Int → Int → Bool → Option (Bool)
  | 0, _, _, _, _, _, _, _, _, _, _, _, _, _, _ => none
  | k + 1, x1, x38, x300000, x300001, x300002, x300003, x300004, x300005, x307000, x307001, x307002, x312000, x312001, x312002 => if x38 = true then (some false) else (if x300001 = 0 then (none) else (if (Int.tmod (wrap64 (x1 + 1)) x300001) = 0 then (if x307001 = x312001 then (if (wrap64 (x307000 + 1)) = x312000 then (if (x307002 != x312002) = true then ((tapearchivelaw09_awake.f k).bind fun t312 => (some t312)) else (some false)) else (some false)) else (some false)) else (if x307002 = true then (if x307000 = x312000 then (if (x307002 == x312002) = true then (if x312001 = (wrap64 (x307001 + (-1))) then ((tapearchivelaw09_awake.f k).bind fun t313 => (some t313)) else (some false)) else (some false)) else (some false)) else (if x307000 = x312000 then (if (x307002 == x312002) = true then (if x312001 = (wrap64 (x307001 + 1)) then ((tapearchivelaw09_awake.f k).bind fun t314 => (some t314)) else (some false)) else (some false)) else (some false)))))
end
def tapearchivelaw09_SerpentineNeighbors.f (k : Nat) (a0_0 : Int) (a0_1 : Int) (a0_2 : Int) (a0_3 : Int) (a0_4 : Int) (a0_5 : Int) (a1 : Int) : Option (Bool) := if a1 < 0 then (tapearchivelaw09_SerpentineNeighbors.j0 k a1 true a0_0 a0_1 a0_2 a0_3 a0_4 a0_5) else ((serpentine_Capacity.f k a0_0 a0_1 a0_2 a0_3 a0_4 a0_5).bind fun t300 => (tapearchivelaw09_SerpentineNeighbors.j0 k a1 (decide (a1 ≥ (wrap64 (t300 - 1)))) a0_0 a0_1 a0_2 a0_3 a0_4 a0_5))
theorem tapearchivelaw09_SerpentineNeighbors.mono_l : ∀ k, (∀ y0 y1 y2 y3 y4 y5 y6 y7, LeO (tapearchivelaw09_SerpentineNeighbors.j0 k y0 y1 y2 y3 y4 y5 y6 y7) (tapearchivelaw09_SerpentineNeighbors.j0 (k + 1) y0 y1 y2 y3 y4 y5 y6 y7)) ∧ (∀ y0 y1 y2 y3 y4 y5 y6 y7 y8 y9 y10 y11 y12 y13, LeO (tapearchivelaw09_SerpentineNeighbors.j1 k y0 y1 y2 y3 y4 y5 y6 y7 y8 y9 y10 y11 y12 y13) (tapearchivelaw09_SerpentineNeighbors.j1 (k + 1) y0 y1 y2 y3 y4 y5 y6 y7 y8 y9 y10 y11 y12 y13))
  | 0 => ⟨fun _ _ _ _ _ _ _ _ r h => by simp [tapearchivelaw09_SerpentineNeighbors.j0] at h, fun _ _ _ _ _ _ _ _ _ _ _ _ _ _ r h => by simp [tapearchivelaw09_SerpentineNeighbors.j1] at h⟩
  | k + 1 => by
    obtain ⟨ih0, ih1⟩ := tapearchivelaw09_SerpentineNeighbors.mono_l k
    refine ⟨?_, ?_⟩
    · intro y0 y1 y2 y3 y4 y5 y6 y7
      unfold tapearchivelaw09_SerpentineNeighbors.j0
      repeat' first
      | (with_reducible exact ih0 _ _ _ _ _ _ _ _)
      | (with_reducible exact ih1 _ _ _ _ _ _ _ _ _ _ _ _ _ _)
      | (with_reducible exact serpentine_Capacity.mono _ _ _ _ _ _ _)
      | (with_reducible exact serpentine_Place.mono _ _ _ _ _ _ _ _)
      | (with_reducible exact tapearchivelaw09_awake.mono _)
      | (with_reducible exact LeO.refl _)
      | (with_reducible exact LeO.none _)
      | (with_reducible refine LeO.ite ?_ ?_)
      | (with_reducible refine LeO.bind ?_ (fun _ => ?_))
      | exact ih0 _ _ _ _ _ _ _ _
      | exact ih1 _ _ _ _ _ _ _ _ _ _ _ _ _ _
      | exact serpentine_Capacity.mono _ _ _ _ _ _ _
      | exact serpentine_Place.mono _ _ _ _ _ _ _ _
      | exact tapearchivelaw09_awake.mono _
      | exact LeO.none _
      | refine LeO.ite ?_ ?_
      | refine LeO.bind ?_ (fun _ => ?_)
    · intro y0 y1 y2 y3 y4 y5 y6 y7 y8 y9 y10 y11 y12 y13
      unfold tapearchivelaw09_SerpentineNeighbors.j1
      repeat' first
      | (with_reducible exact ih0 _ _ _ _ _ _ _ _)
      | (with_reducible exact ih1 _ _ _ _ _ _ _ _ _ _ _ _ _ _)
      | (with_reducible exact serpentine_Capacity.mono _ _ _ _ _ _ _)
      | (with_reducible exact serpentine_Place.mono _ _ _ _ _ _ _ _)
      | (with_reducible exact tapearchivelaw09_awake.mono _)
      | (with_reducible exact LeO.refl _)
      | (with_reducible exact LeO.none _)
      | (with_reducible refine LeO.ite ?_ ?_)
      | (with_reducible refine LeO.bind ?_ (fun _ => ?_))
      | exact ih0 _ _ _ _ _ _ _ _
      | exact ih1 _ _ _ _ _ _ _ _ _ _ _ _ _ _
      | exact serpentine_Capacity.mono _ _ _ _ _ _ _
      | exact serpentine_Place.mono _ _ _ _ _ _ _ _
      | exact tapearchivelaw09_awake.mono _
      | exact LeO.none _
      | refine LeO.ite ?_ ?_
      | refine LeO.bind ?_ (fun _ => ?_)
theorem tapearchivelaw09_SerpentineNeighbors.mono : ∀ a0 a1 a2 a3 a4 a5 a6 k, LeO (tapearchivelaw09_SerpentineNeighbors.f k a0 a1 a2 a3 a4 a5 a6) (tapearchivelaw09_SerpentineNeighbors.f (k + 1) a0 a1 a2 a3 a4 a5 a6) := by
  intro a0 a1 a2 a3 a4 a5 a6 k
  obtain ⟨ih0, ih1⟩ := tapearchivelaw09_SerpentineNeighbors.mono_l k
  unfold tapearchivelaw09_SerpentineNeighbors.f
  repeat' first
      | (with_reducible exact ih0 _ _ _ _ _ _ _ _)
      | (with_reducible exact ih1 _ _ _ _ _ _ _ _ _ _ _ _ _ _)
      | (with_reducible exact serpentine_Capacity.mono _ _ _ _ _ _ _)
      | (with_reducible exact serpentine_Place.mono _ _ _ _ _ _ _ _)
      | (with_reducible exact tapearchivelaw09_awake.mono _)
      | (with_reducible exact LeO.refl _)
      | (with_reducible exact LeO.none _)
      | (with_reducible refine LeO.ite ?_ ?_)
      | (with_reducible refine LeO.bind ?_ (fun _ => ?_))
      | exact ih0 _ _ _ _ _ _ _ _
      | exact ih1 _ _ _ _ _ _ _ _ _ _ _ _ _ _
      | exact serpentine_Capacity.mono _ _ _ _ _ _ _
      | exact serpentine_Place.mono _ _ _ _ _ _ _ _
      | exact tapearchivelaw09_awake.mono _
      | exact LeO.none _
      | refine LeO.ite ?_ ?_
      | refine LeO.bind ?_ (fun _ => ?_)
set_option maxHeartbeats 8000000 in
set_option maxRecDepth 100000 in
theorem tapearchivelaw09_SerpentineNeighbors.calls (k : Nat) (a0_0 : Int) (a0_1 : Int) (a0_2 : Int) (a0_3 : Int) (a0_4 : Int) (a0_5 : Int) (a1 : Int) (r : Bool) (w : World) (h : tapearchivelaw09_SerpentineNeighbors.f k a0_0 a0_1 a0_2 a0_3 a0_4 a0_5 a1 = some r) :
    Calls Try.prog 6 #[.agg #[.int .i64 a0_0, .int .i64 a0_1, .int .i64 a0_2, .int .i64 a0_3, .int .i64 a0_4, .int .i64 a0_5], .int .i64 a1] w fun e w' => e = .returned (.bool r) ∧ Below w.heap.size w w' := by
  have hu23 := Try.underlying23
  have hu32 := Try.underlying32
  have HB := Aside0.mk (Below.refl w.heap.size w)
  have H : (if a1 < 0 then (tapearchivelaw09_SerpentineNeighbors.j0 k a1 true a0_0 a0_1 a0_2 a0_3 a0_4 a0_5) else ((serpentine_Capacity.f k a0_0 a0_1 a0_2 a0_3 a0_4 a0_5).bind fun t300 => (tapearchivelaw09_SerpentineNeighbors.j0 k a1 (decide (a1 ≥ (wrap64 (t300 - 1)))) a0_0 a0_1 a0_2 a0_3 a0_4 a0_5))) = some r := h
  clear h
  have HC3 := Aside0.mk H
  clear H
  go_enter Try.func6, Try.ntmps6
  go_upto_region 1 with (first | ((with_reducible refine gate_dst (N := 2) rfl ?_); refine box_event ?hg (N := 2) ?hd (cs := #[.int .i64 a0_0, .int .i64 a0_1, .int .i64 a0_2, .int .i64 a0_3, .int .i64 a0_4, .int .i64 a0_5]) (t := 23) ?hr ?_; (case hd => rfl); (case hg => rfl); (case hr => first | (go_simp; done) | (go_simp; rfl)); intro gb299 hg w4 hbox hb; have n0_ := Aside0.mk (below_step bB_ hb); have n1_ := Aside0.mk (hbox); have n2_ := Aside0.mk (gB_ hg (below_size bB_)); have n3_ := Aside0.mk (gB_ hg (below_size bB_)); clear HB; have HB := n0_; have BK299 := n1_; have GW299 := n2_; have GE299 := n3_; clear n0_ n1_ n2_ n3_; clear hb hbox hg))
  (try simp only [Act.put, List.setIfInBounds_toArray, List.set_cons_zero, List.set_cons_succ])
  go_cut [18] (fun v18 wc => ∃ (kq : Nat) (x18_2 : Bool), v18 = .bool x18_2 ∧ Aside0 (tapearchivelaw09_SerpentineNeighbors.j0 kq a1 x18_2 a0_0 a0_1 a0_2 a0_3 a0_4 a0_5 = some r) ∧ Aside0 (kq ≤ k) ∧ Aside0 (wc.heap[gb299]? = some (.cells #[.int .i64 a0_0, .int .i64 a0_1, .int .i64 a0_2, .int .i64 a0_3, .int .i64 a0_4, .int .i64 a0_5] 23 (0, 0))) ∧ Aside0 (Below w.heap.size w wc))
  case first =>
    have H := HC3.out
    clear HC3
    by_cases c5 : a1 < 0
    · rw [if_pos c5] at H
      have c5b0 : decide (a1 < 0) = true := decide_eq_true c5
      clear c5
      (first | rw [c5b0] | (simp only [i64_w, i32_w]; rw [c5b0]) | skip)
      have H' := Aside0.mk H
      clear H
      go_wp2
      go_meet
      case rel => exact ⟨_, (true), (by first | rfl | (simp; done) | (simp [*]; done)), H', ⟨by first | omega | exact Nat.le_refl _⟩, ⟨by (with_reducible repeat (first | refine blk_drewN ?_ _ | refine blk_drew ?_ | refine blk_alloc ?_ _)); exact BK299.out⟩, ⟨bB_⟩⟩
    · rw [if_neg c5] at H
      have c5b0 : decide (a1 < 0) = false := decide_eq_false c5
      clear c5
      (first | rw [c5b0] | (simp only [i64_w, i32_w]; rw [c5b0]) | skip)
      replace H := Option.bind_eq_some_iff.mp H
      obtain ⟨t300, A60, H⟩ := H
      replace H : (tapearchivelaw09_SerpentineNeighbors.j0 k a1 (decide (a1 ≥ (wrap64 (t300 - 1)))) a0_0 a0_1 a0_2 a0_3 a0_4 a0_5) = some r := H
      have A6 := Aside0.mk A60
      clear A60
      have H' := Aside0.mk H
      clear H
      obtain ⟨hcz7_0, hcz7_1, hcz7_2, hcz7_3, hcz7_4, hcz7_5, hfz7_0, hfz7_1, hfz7_2, hfz7_3, hfz7_4, hfz7_5⟩ := cz6 BK299.out
      go_wp2_with (first | (go_at_call 20; (with_reducible refine (serpentine_Capacity.calls k a0_0 a0_1 a0_2 a0_3 a0_4 a0_5 t300 _ A6.out).mono ?_); rintro e w8 ⟨rfl, hb⟩; have n0_ := Aside0.mk (blk_below (kB_ BK299.out) hb); have n1_ := Aside0.mk (below_step bB_ hb); clear BK299; clear HB; have BK299 := n0_; have HB := n1_; clear n0_ n1_; (try clear hb); (try clear hb2); (try clear hk); (try clear hi)))
      go_meet
      case rel => exact ⟨_, (decide (a1 ≥ (wrap64 (t300 - 1)))), (by first | rfl | (simp; done) | (simp [*]; done)), H', ⟨by first | omega | exact Nat.le_refl _⟩, ⟨by (with_reducible repeat (first | refine blk_drewN ?_ _ | refine blk_drew ?_ | refine blk_alloc ?_ _)); exact BK299.out⟩, ⟨bB_⟩⟩
  case rest =>
    clear HC3
    try clear p2
    try clear c5
    try clear c5b0
    try clear c6
    try clear p6
    try clear hcz7_0
    try clear hcz7_1
    try clear hcz7_2
    try clear hcz7_3
    try clear hcz7_4
    try clear hcz7_5
    try clear hfz7_0
    try clear hfz7_1
    try clear hfz7_2
    try clear hfz7_3
    try clear hfz7_4
    try clear hfz7_5
    obtain ⟨kq, x18_2, rfl, HA, HJ2, BK299, HB⟩ := hcut
    cases kq with
    | zero => exact absurd HA.out (by simp [tapearchivelaw09_SerpentineNeighbors.j0])
    | succ kj2 =>
      have H := HA.out
      clear HA
      simp only [tapearchivelaw09_SerpentineNeighbors.j0] at H
      by_cases c9 : x18_2 = true
      · subst c9
        have H1 : ((tapearchivelaw09_awake.f kj2).bind fun t301 => (some t301)) = some r := by rw [if_pos rfl] at H; exact H
        clear H
        have H := H1
        clear H1
        replace H := Option.bind_eq_some_iff.mp H
        obtain ⟨t301, A100, H⟩ := H
        replace H : (some t301) = some r := H
        have A10 := Aside0.mk A100
        clear A100
        obtain rfl := Option.some.inj H
        go_wp2_with (first | ((with_reducible refine gate_callee (f := 17) rfl ?_); refine goesL_ (some 19) rfl rfl Try.func17 (by kernel_rfl) rfl #[] rfl mB_ ?_; (with_reducible refine (tapearchivelaw09_awake.calls kj2  t301 _ A10.out).mono ?_); rintro e w11 ⟨rfl, hb⟩; refine ⟨_, rfl, ?_⟩; have n0_ := Aside0.mk (blk_below (kB_ BK299.out) hb); have n1_ := Aside0.mk (below_step bB_ hb); clear BK299; clear HB; have BK299 := n0_; have HB := n1_; clear n0_ n1_; (try clear hb); (try clear hb2); (try clear hk); (try clear hi)))
        go_ret
        exact ⟨by first | rfl | (simp [errW_none, errW_some] <;> rfl) | (simp [*, errW_none, errW_some] <;> rfl), bB_⟩
      · replace c9 := Bool.eq_false_iff.mpr c9
        subst c9
        have H1 : ((serpentine_Place.f kj2 a0_0 a0_1 a0_2 a0_3 a0_4 a0_5 a1).bind fun bt302 => ((serpentine_Place.f kj2 a0_0 a0_1 a0_2 a0_3 a0_4 a0_5 (wrap64 (a1 + 1))).bind fun bt307 => (if bt302.2.2.2 = true then (tapearchivelaw09_SerpentineNeighbors.j1 kj2 a1 (!bt307.2.2.2) a0_0 a0_1 a0_2 a0_3 a0_4 a0_5 bt302.1 bt302.2.1 bt302.2.2.1 bt307.1 bt307.2.1 bt307.2.2.1) else (tapearchivelaw09_SerpentineNeighbors.j1 kj2 a1 true a0_0 a0_1 a0_2 a0_3 a0_4 a0_5 bt302.1 bt302.2.1 bt302.2.2.1 bt307.1 bt307.2.1 bt307.2.2.1)))) = some r := by rw [if_neg (show ¬ (false = true) by decide)] at H; exact H
        clear H
        have H := H1
        clear H1
        replace H := Option.bind_eq_some_iff.mp H
        obtain ⟨⟨t302, t303, t304, t305⟩, A120, H⟩ := H
        replace H : ((serpentine_Place.f kj2 a0_0 a0_1 a0_2 a0_3 a0_4 a0_5 (wrap64 (a1 + 1))).bind fun bt307 => (if t305 = true then (tapearchivelaw09_SerpentineNeighbors.j1 kj2 a1 (!bt307.2.2.2) a0_0 a0_1 a0_2 a0_3 a0_4 a0_5 t302 t303 t304 bt307.1 bt307.2.1 bt307.2.2.1) else (tapearchivelaw09_SerpentineNeighbors.j1 kj2 a1 true a0_0 a0_1 a0_2 a0_3 a0_4 a0_5 t302 t303 t304 bt307.1 bt307.2.1 bt307.2.2.1))) = some r := H
        have A12 := Aside0.mk A120
        clear A120
        replace H := Option.bind_eq_some_iff.mp H
        obtain ⟨⟨t307, t308, t309, t310⟩, A130, H⟩ := H
        replace H : (if t305 = true then (tapearchivelaw09_SerpentineNeighbors.j1 kj2 a1 (!t310) a0_0 a0_1 a0_2 a0_3 a0_4 a0_5 t302 t303 t304 t307 t308 t309) else (tapearchivelaw09_SerpentineNeighbors.j1 kj2 a1 true a0_0 a0_1 a0_2 a0_3 a0_4 a0_5 t302 t303 t304 t307 t308 t309)) = some r := H
        have A13 := Aside0.mk A130
        clear A130
        have HC14 := Aside0.mk H
        clear H
        obtain ⟨hcz15_0, hcz15_1, hcz15_2, hcz15_3, hcz15_4, hcz15_5, hfz15_0, hfz15_1, hfz15_2, hfz15_3, hfz15_4, hfz15_5⟩ := cz6 BK299.out
        go_upto_region 5 with (first | ((with_reducible refine gate_callee (f := 18) rfl ?_); refine goesL_ (some 23) rfl rfl Try.func18 (by kernel_rfl) rfl #[.agg #[.int .i64 a0_0, .int .i64 a0_1, .int .i64 a0_2, .int .i64 a0_3, .int .i64 a0_4, .int .i64 a0_5], .int .i64 a1] rfl mB_ ?_; (with_reducible refine (serpentine_Place.calls kj2 a0_0 a0_1 a0_2 a0_3 a0_4 a0_5 a1 t302 t303 t304 t305 _ A12.out).mono ?_); rintro e w16 ⟨rfl, hb⟩; refine ⟨_, rfl, ?_⟩; have n0_ := Aside0.mk (blk_below (kB_ BK299.out) hb); have n1_ := Aside0.mk (below_step bB_ hb); clear BK299; clear HB; have BK299 := n0_; have HB := n1_; clear n0_ n1_; (try clear hb); (try clear hb2); (try clear hk); (try clear hi)) | ((with_reducible refine gate_dst (N := 5) rfl ?_); refine box_event ?hg (N := 5) ?hd (cs := #[.int .i64 0, .int .i64 0, .bool false]) (t := 32) ?hr ?_; (case hd => rfl); (case hg => rfl); (case hr => first | (go_simp; done) | (go_simp; rfl)); intro gb306 hg w17 hbox hb; have n0_ := Aside0.mk (blk_below (kB_ BK299.out) hb); have n1_ := Aside0.mk (below_step bB_ hb); have n2_ := Aside0.mk (hbox); have n3_ := Aside0.mk (gB_ hg (below_size bB_)); have n4_ := Aside0.mk (gB_ hg (below_size bB_)); have n5_ := Aside0.mk ((by rw [hg]; exact Nat.ne_of_lt (blk_lt (kB_ BK299.out)) : gb299 ≠ gb306)); have n6_ := Aside0.mk ((by rw [hg]; exact Nat.ne_of_gt (blk_lt (kB_ BK299.out)) : gb306 ≠ gb299)); clear BK299; clear HB; have BK299 := n0_; have HB := n1_; have BK306 := n2_; have GW306 := n3_; have GE306 := n4_; have NB299_306 := n5_; have NB306_299 := n6_; clear n0_ n1_ n2_ n3_ n4_ n5_ n6_; clear hb hbox hg; have hnb18 := NB306_299.out; have hnc18 := NB299_306.out; obtain ⟨hcz19_0, hcz19_1, hcz19_2, hfz19_0, hfz19_1, hfz19_2⟩ := cz3 BK306.out; obtain ⟨hcz20_0, hcz20_1, hcz20_2, hcz20_3, hcz20_4, hcz20_5, hfz20_0, hfz20_1, hfz20_2, hfz20_3, hfz20_4, hfz20_5⟩ := cz6 BK299.out) | ((with_reducible refine gate_callee (f := 18) rfl ?_); refine goesL_ (some 30) rfl rfl Try.func18 (by kernel_rfl) rfl #[.agg #[.int .i64 a0_0, .int .i64 a0_1, .int .i64 a0_2, .int .i64 a0_3, .int .i64 a0_4, .int .i64 a0_5], .int .i64 (wrap64 (a1 + 1))] rfl mB_ ?_; (with_reducible refine (serpentine_Place.calls kj2 a0_0 a0_1 a0_2 a0_3 a0_4 a0_5 (wrap64 (a1 + 1)) t307 t308 t309 t310 _ A13.out).mono ?_); rintro e w21 ⟨rfl, hb⟩; refine ⟨_, rfl, ?_⟩; have n0_ := Aside0.mk (blk_below (g := gb299) (o := .cells #[.int .i64 a0_0, .int .i64 a0_1, .int .i64 a0_2, .int .i64 a0_3, .int .i64 a0_4, .int .i64 a0_5] 23 (0, 0)) (by (with_reducible repeat (first | refine blk_drewN ?_ _ | refine blk_drew ?_ | refine blk_alloc ?_ _)); refine blk_far ?_ NB299_306.out _; (with_reducible repeat (first | refine blk_drewN ?_ _ | refine blk_drew ?_ | refine blk_alloc ?_ _)); refine blk_far ?_ NB299_306.out _; (with_reducible repeat (first | refine blk_drewN ?_ _ | refine blk_drew ?_ | refine blk_alloc ?_ _)); refine blk_far ?_ NB299_306.out _; (with_reducible repeat (first | refine blk_drewN ?_ _ | refine blk_drew ?_ | refine blk_alloc ?_ _)); exact BK299.out) hb); have n1_ := Aside0.mk (blk_below (g := gb306) (o := .cells #[.int .i64 t302, .int .i64 t303, .bool t304] 32 (0, 0)) (by (with_reducible repeat (first | refine blk_drewN ?_ _ | refine blk_drew ?_ | refine blk_alloc ?_ _)); refine blk_put (cs := #[.int .i64 t302, .int .i64 t303, .bool false]) ?_ 2 _ rfl; (with_reducible repeat (first | refine blk_drewN ?_ _ | refine blk_drew ?_ | refine blk_alloc ?_ _)); refine blk_put (cs := #[.int .i64 t302, .int .i64 0, .bool false]) ?_ 1 _ rfl; (with_reducible repeat (first | refine blk_drewN ?_ _ | refine blk_drew ?_ | refine blk_alloc ?_ _)); refine blk_put (cs := #[.int .i64 0, .int .i64 0, .bool false]) ?_ 0 _ rfl; (with_reducible repeat (first | refine blk_drewN ?_ _ | refine blk_drew ?_ | refine blk_alloc ?_ _)); exact BK306.out) hb); have n2_ := Aside0.mk (below_step bB_ hb); clear BK299; clear BK306; clear HB; have BK299 := n0_; have BK306 := n1_; have HB := n2_; clear n0_ n1_ n2_; (try clear hb); (try clear hb2); (try clear hk); (try clear hi)) | ((with_reducible refine gate_dst (N := 7) rfl ?_); refine box_event ?hg (N := 7) ?hd (cs := #[.int .i64 0, .int .i64 0, .bool false]) (t := 32) ?hr ?_; (case hd => rfl); (case hg => rfl); (case hr => first | (go_simp; done) | (go_simp; rfl)); intro gb311 hg w22 hbox hb; have n0_ := Aside0.mk (blk_below (kB_ BK299.out) hb); have n1_ := Aside0.mk (blk_below (kB_ BK306.out) hb); have n2_ := Aside0.mk (below_step bB_ hb); have n3_ := Aside0.mk (hbox); have n4_ := Aside0.mk (gB_ hg (below_size bB_)); have n5_ := Aside0.mk (gB_ hg (below_size bB_)); have n6_ := Aside0.mk ((by rw [hg]; exact Nat.ne_of_lt (blk_lt (kB_ BK299.out)) : gb299 ≠ gb311)); have n7_ := Aside0.mk ((by rw [hg]; exact Nat.ne_of_gt (blk_lt (kB_ BK299.out)) : gb311 ≠ gb299)); have n8_ := Aside0.mk ((by rw [hg]; exact Nat.ne_of_lt (blk_lt (kB_ BK306.out)) : gb306 ≠ gb311)); have n9_ := Aside0.mk ((by rw [hg]; exact Nat.ne_of_gt (blk_lt (kB_ BK306.out)) : gb311 ≠ gb306)); clear BK299; clear BK306; clear HB; have BK299 := n0_; have BK306 := n1_; have HB := n2_; have BK311 := n3_; have GW311 := n4_; have GE311 := n5_; have NB299_311 := n6_; have NB311_299 := n7_; have NB306_311 := n8_; have NB311_306 := n9_; clear n0_ n1_ n2_ n3_ n4_ n5_ n6_ n7_ n8_ n9_; clear hb hbox hg; have hnb23 := NB311_299.out; have hnc23 := NB299_311.out; have hnb24 := NB311_306.out; have hnc24 := NB306_311.out; obtain ⟨hcz25_0, hcz25_1, hcz25_2, hfz25_0, hfz25_1, hfz25_2⟩ := cz3 BK311.out))
        (try simp only [Act.put, List.setIfInBounds_toArray, List.set_cons_zero, List.set_cons_succ])
        go_cut [38] (fun v38 wc => ∃ (kq : Nat) (x38_13 : Bool), v38 = .bool x38_13 ∧ Aside0 (tapearchivelaw09_SerpentineNeighbors.j1 kq a1 x38_13 a0_0 a0_1 a0_2 a0_3 a0_4 a0_5 t302 t303 t304 t307 t308 t309 = some r) ∧ Aside0 (kq ≤ kj2) ∧ Aside0 (wc.heap[gb299]? = some (.cells #[.int .i64 a0_0, .int .i64 a0_1, .int .i64 a0_2, .int .i64 a0_3, .int .i64 a0_4, .int .i64 a0_5] 23 (0, 0))) ∧ Aside0 (wc.heap[gb306]? = some (.cells #[.int .i64 t302, .int .i64 t303, .bool t304] 32 (0, 0))) ∧ Aside0 (wc.heap[gb311]? = some (.cells #[.int .i64 t307, .int .i64 t308, .bool t309] 32 (0, 0))) ∧ Aside0 (Below w.heap.size w wc))
        case first =>
          have H := HC14.out
          clear HC14
          by_cases c26 : t305 = true
          · subst c26
            have H1 : (tapearchivelaw09_SerpentineNeighbors.j1 kj2 a1 (!t310) a0_0 a0_1 a0_2 a0_3 a0_4 a0_5 t302 t303 t304 t307 t308 t309) = some r := by rw [if_pos rfl] at H; exact H
            clear H
            have H := H1
            clear H1
            have H' := Aside0.mk H
            clear H
            go_wp2
            go_meet
            case rel => exact ⟨_, (!t310), (by first | rfl | (simp; done) | (simp [*]; done)), H', ⟨by have := HJ2.out; first | omega | exact Nat.le_refl _⟩, ⟨by (with_reducible repeat (first | refine blk_drewN ?_ _ | refine blk_drew ?_ | refine blk_alloc ?_ _)); refine blk_far ?_ NB299_311.out _; (with_reducible repeat (first | refine blk_drewN ?_ _ | refine blk_drew ?_ | refine blk_alloc ?_ _)); refine blk_far ?_ NB299_311.out _; (with_reducible repeat (first | refine blk_drewN ?_ _ | refine blk_drew ?_ | refine blk_alloc ?_ _)); refine blk_far ?_ NB299_311.out _; (with_reducible repeat (first | refine blk_drewN ?_ _ | refine blk_drew ?_ | refine blk_alloc ?_ _)); exact BK299.out⟩, ⟨by (with_reducible repeat (first | refine blk_drewN ?_ _ | refine blk_drew ?_ | refine blk_alloc ?_ _)); refine blk_far ?_ NB306_311.out _; (with_reducible repeat (first | refine blk_drewN ?_ _ | refine blk_drew ?_ | refine blk_alloc ?_ _)); refine blk_far ?_ NB306_311.out _; (with_reducible repeat (first | refine blk_drewN ?_ _ | refine blk_drew ?_ | refine blk_alloc ?_ _)); refine blk_far ?_ NB306_311.out _; (with_reducible repeat (first | refine blk_drewN ?_ _ | refine blk_drew ?_ | refine blk_alloc ?_ _)); exact BK306.out⟩, ⟨by (with_reducible repeat (first | refine blk_drewN ?_ _ | refine blk_drew ?_ | refine blk_alloc ?_ _)); refine blk_put (cs := #[.int .i64 t307, .int .i64 t308, .bool false]) ?_ 2 _ rfl; (with_reducible repeat (first | refine blk_drewN ?_ _ | refine blk_drew ?_ | refine blk_alloc ?_ _)); refine blk_put (cs := #[.int .i64 t307, .int .i64 0, .bool false]) ?_ 1 _ rfl; (with_reducible repeat (first | refine blk_drewN ?_ _ | refine blk_drew ?_ | refine blk_alloc ?_ _)); refine blk_put (cs := #[.int .i64 0, .int .i64 0, .bool false]) ?_ 0 _ rfl; (with_reducible repeat (first | refine blk_drewN ?_ _ | refine blk_drew ?_ | refine blk_alloc ?_ _)); exact BK311.out⟩, ⟨bB_⟩⟩
          · replace c26 := Bool.eq_false_iff.mpr c26
            subst c26
            have H1 : (tapearchivelaw09_SerpentineNeighbors.j1 kj2 a1 true a0_0 a0_1 a0_2 a0_3 a0_4 a0_5 t302 t303 t304 t307 t308 t309) = some r := by rw [if_neg (show ¬ (false = true) by decide)] at H; exact H
            clear H
            have H := H1
            clear H1
            have H' := Aside0.mk H
            clear H
            go_wp2
            go_meet
            case rel => exact ⟨_, (true), (by first | rfl | (simp; done) | (simp [*]; done)), H', ⟨by have := HJ2.out; first | omega | exact Nat.le_refl _⟩, ⟨by (with_reducible repeat (first | refine blk_drewN ?_ _ | refine blk_drew ?_ | refine blk_alloc ?_ _)); refine blk_far ?_ NB299_311.out _; (with_reducible repeat (first | refine blk_drewN ?_ _ | refine blk_drew ?_ | refine blk_alloc ?_ _)); refine blk_far ?_ NB299_311.out _; (with_reducible repeat (first | refine blk_drewN ?_ _ | refine blk_drew ?_ | refine blk_alloc ?_ _)); refine blk_far ?_ NB299_311.out _; (with_reducible repeat (first | refine blk_drewN ?_ _ | refine blk_drew ?_ | refine blk_alloc ?_ _)); exact BK299.out⟩, ⟨by (with_reducible repeat (first | refine blk_drewN ?_ _ | refine blk_drew ?_ | refine blk_alloc ?_ _)); refine blk_far ?_ NB306_311.out _; (with_reducible repeat (first | refine blk_drewN ?_ _ | refine blk_drew ?_ | refine blk_alloc ?_ _)); refine blk_far ?_ NB306_311.out _; (with_reducible repeat (first | refine blk_drewN ?_ _ | refine blk_drew ?_ | refine blk_alloc ?_ _)); refine blk_far ?_ NB306_311.out _; (with_reducible repeat (first | refine blk_drewN ?_ _ | refine blk_drew ?_ | refine blk_alloc ?_ _)); exact BK306.out⟩, ⟨by (with_reducible repeat (first | refine blk_drewN ?_ _ | refine blk_drew ?_ | refine blk_alloc ?_ _)); refine blk_put (cs := #[.int .i64 t307, .int .i64 t308, .bool false]) ?_ 2 _ rfl; (with_reducible repeat (first | refine blk_drewN ?_ _ | refine blk_drew ?_ | refine blk_alloc ?_ _)); refine blk_put (cs := #[.int .i64 t307, .int .i64 0, .bool false]) ?_ 1 _ rfl; (with_reducible repeat (first | refine blk_drewN ?_ _ | refine blk_drew ?_ | refine blk_alloc ?_ _)); refine blk_put (cs := #[.int .i64 0, .int .i64 0, .bool false]) ?_ 0 _ rfl; (with_reducible repeat (first | refine blk_drewN ?_ _ | refine blk_drew ?_ | refine blk_alloc ?_ _)); exact BK311.out⟩, ⟨bB_⟩⟩
        case rest =>
          clear HC14
          try clear c1
          try clear c2
          try clear p2
          try clear c5
          try clear c5b0
          try clear c6
          try clear p6
          try clear c9
          try clear c17
          try clear c18
          try clear c23
          try clear c24
          try clear c26
          try clear hcz15_0
          try clear hcz15_1
          try clear hcz15_2
          try clear hcz15_3
          try clear hcz15_4
          try clear hcz15_5
          try clear hcz19_0
          try clear hcz19_1
          try clear hcz19_2
          try clear hcz20_0
          try clear hcz20_1
          try clear hcz20_2
          try clear hcz20_3
          try clear hcz20_4
          try clear hcz20_5
          try clear hcz25_0
          try clear hcz25_1
          try clear hcz25_2
          try clear hcz7_0
          try clear hcz7_1
          try clear hcz7_2
          try clear hcz7_3
          try clear hcz7_4
          try clear hcz7_5
          try clear hfz15_0
          try clear hfz15_1
          try clear hfz15_2
          try clear hfz15_3
          try clear hfz15_4
          try clear hfz15_5
          try clear hfz19_0
          try clear hfz19_1
          try clear hfz19_2
          try clear hfz20_0
          try clear hfz20_1
          try clear hfz20_2
          try clear hfz20_3
          try clear hfz20_4
          try clear hfz20_5
          try clear hfz25_0
          try clear hfz25_1
          try clear hfz25_2
          try clear hfz7_0
          try clear hfz7_1
          try clear hfz7_2
          try clear hfz7_3
          try clear hfz7_4
          try clear hfz7_5
          try clear p2
          try clear p6
          obtain ⟨kq, x38_13, rfl, HA, HJ13, BK299, BK306, BK311, HB⟩ := hcut
          cases kq with
          | zero => exact absurd HA.out (by simp [tapearchivelaw09_SerpentineNeighbors.j1])
          | succ kj13 =>
            have H := HA.out
            clear HA
            simp only [tapearchivelaw09_SerpentineNeighbors.j1] at H
            by_cases c27 : x38_13 = true
            · subst c27
              have H1 : (some false) = some r := by rw [if_pos rfl] at H; exact H
              clear H
              have H := H1
              clear H1
              obtain rfl := Option.some.inj H
              go_wp2
              go_ret
              exact ⟨by first | rfl | (simp [errW_none, errW_some] <;> rfl) | (simp [*, errW_none, errW_some] <;> rfl), bB_⟩
            · replace c27 := Bool.eq_false_iff.mpr c27
              subst c27
              have H1 : (if a0_1 = 0 then (none) else (if (Int.tmod (wrap64 (a1 + 1)) a0_1) = 0 then (if t303 = t308 then (if (wrap64 (t302 + 1)) = t307 then (if (t304 != t309) = true then ((tapearchivelaw09_awake.f kj13).bind fun t312 => (some t312)) else (some false)) else (some false)) else (some false)) else (if t304 = true then (if t302 = t307 then (if (t304 == t309) = true then (if t308 = (wrap64 (t303 + (-1))) then ((tapearchivelaw09_awake.f kj13).bind fun t313 => (some t313)) else (some false)) else (some false)) else (some false)) else (if t302 = t307 then (if (t304 == t309) = true then (if t308 = (wrap64 (t303 + 1)) then ((tapearchivelaw09_awake.f kj13).bind fun t314 => (some t314)) else (some false)) else (some false)) else (some false))))) = some r := by rw [if_neg (show ¬ (false = true) by decide)] at H; exact H
              clear H
              have H := H1
              clear H1
              by_cases c28 : a0_1 = 0
              · rw [if_pos c28] at H
                exact absurd H (by simp)
              · rw [if_neg c28] at H
                have c28b0 : (a0_1 == 0) = false := beq_eq_false_iff_ne.mpr c28
                have c28b1 : (a0_1 != 0) = true := bne_iff_ne.mpr c28
                by_cases c29 : (Int.tmod (wrap64 (a1 + 1)) a0_1) = 0
                · rw [if_pos c29] at H
                  have c29b0 : ((Int.tmod (wrap64 (a1 + 1)) a0_1) == 0) = true := beq_iff_eq.mpr c29
                  have c29b1 : ((Int.tmod (wrap64 (a1 + 1)) a0_1) != 0) = false := bne_eq_false_iff_eq.mpr c29
                  clear c29
                  by_cases c30 : t303 = t308
                  · rw [if_pos c30] at H
                    have c30b0 : (t303 == t308) = true := beq_iff_eq.mpr c30
                    have c30b1 : (t303 != t308) = false := bne_eq_false_iff_eq.mpr c30
                    clear c30
                    by_cases c31 : (wrap64 (t302 + 1)) = t307
                    · rw [if_pos c31] at H
                      have c31b0 : ((wrap64 (t302 + 1)) == t307) = true := beq_iff_eq.mpr c31
                      have c31b1 : ((wrap64 (t302 + 1)) != t307) = false := bne_eq_false_iff_eq.mpr c31
                      clear c31
                      by_cases c32 : (t304 != t309) = true
                      · rw [if_pos c32] at H
                        have c32b0 : (t304 != t309) = true := c32
                        (try (have c32b1 : decide (t304 = t309) = false := by simpa using c32))
                        (try (have c32b2 : (t304 == t309) = false := by simpa using c32))
                        (try (have c32b3 : ¬ (t304 = t309) := by simpa using c32))
                        clear c32
                        replace H := Option.bind_eq_some_iff.mp H
                        obtain ⟨t312, A330, H⟩ := H
                        replace H : (some t312) = some r := H
                        have A33 := Aside0.mk A330
                        clear A330
                        obtain rfl := Option.some.inj H
                        have hnb34 := NB299_306.out
                        have hnc34 := NB306_299.out
                        have hnb35 := NB299_311.out
                        have hnc35 := NB311_299.out
                        obtain ⟨hcz36_0, hcz36_1, hcz36_2, hcz36_3, hcz36_4, hcz36_5, hfz36_0, hfz36_1, hfz36_2, hfz36_3, hfz36_4, hfz36_5⟩ := cz6 BK299.out
                        have hnb37 := NB306_311.out
                        have hnc37 := NB311_306.out
                        obtain ⟨hcz38_0, hcz38_1, hcz38_2, hfz38_0, hfz38_1, hfz38_2⟩ := cz3 BK306.out
                        obtain ⟨hcz39_0, hcz39_1, hcz39_2, hfz39_0, hfz39_1, hfz39_2⟩ := cz3 BK311.out
                        go_wp2_with (first | (go_at_call 17; (with_reducible refine (tapearchivelaw09_awake.calls kj13  t312 _ A33.out).mono ?_); rintro e w40 ⟨rfl, hb⟩; have n0_ := Aside0.mk (blk_below (kB_ BK299.out) hb); have n1_ := Aside0.mk (blk_below (kB_ BK306.out) hb); have n2_ := Aside0.mk (blk_below (kB_ BK311.out) hb); have n3_ := Aside0.mk (below_step bB_ hb); clear BK299; clear BK306; clear BK311; clear HB; have BK299 := n0_; have BK306 := n1_; have BK311 := n2_; have HB := n3_; clear n0_ n1_ n2_ n3_; (try clear hb); (try clear hb2); (try clear hk); (try clear hi)))
                        go_ret
                        exact ⟨by first | rfl | (simp [errW_none, errW_some] <;> rfl) | (simp [*, errW_none, errW_some] <;> rfl), bB_⟩
                      · rw [if_neg c32] at H
                        have c32b0 : (t304 != t309) = false := by simpa using c32
                        (try (have c32b1 : decide (t304 = t309) = true := by simpa using c32))
                        (try (have c32b2 : (t304 == t309) = true := by simpa using c32))
                        clear c32
                        obtain rfl := Option.some.inj H
                        have hnb41 := NB299_306.out
                        have hnc41 := NB306_299.out
                        have hnb42 := NB299_311.out
                        have hnc42 := NB311_299.out
                        obtain ⟨hcz43_0, hcz43_1, hcz43_2, hcz43_3, hcz43_4, hcz43_5, hfz43_0, hfz43_1, hfz43_2, hfz43_3, hfz43_4, hfz43_5⟩ := cz6 BK299.out
                        have hnb44 := NB306_311.out
                        have hnc44 := NB311_306.out
                        obtain ⟨hcz45_0, hcz45_1, hcz45_2, hfz45_0, hfz45_1, hfz45_2⟩ := cz3 BK306.out
                        obtain ⟨hcz46_0, hcz46_1, hcz46_2, hfz46_0, hfz46_1, hfz46_2⟩ := cz3 BK311.out
                        go_wp2
                        go_ret
                        exact ⟨by first | rfl | (simp [errW_none, errW_some] <;> rfl) | (simp [*, errW_none, errW_some] <;> rfl), bB_⟩
                    · rw [if_neg c31] at H
                      have c31b0 : ((wrap64 (t302 + 1)) == t307) = false := beq_eq_false_iff_ne.mpr c31
                      have c31b1 : ((wrap64 (t302 + 1)) != t307) = true := bne_iff_ne.mpr c31
                      obtain rfl := Option.some.inj H
                      have hnb47 := NB299_306.out
                      have hnc47 := NB306_299.out
                      have hnb48 := NB299_311.out
                      have hnc48 := NB311_299.out
                      obtain ⟨hcz49_0, hcz49_1, hcz49_2, hcz49_3, hcz49_4, hcz49_5, hfz49_0, hfz49_1, hfz49_2, hfz49_3, hfz49_4, hfz49_5⟩ := cz6 BK299.out
                      have hnb50 := NB306_311.out
                      have hnc50 := NB311_306.out
                      obtain ⟨hcz51_0, hcz51_1, hcz51_2, hfz51_0, hfz51_1, hfz51_2⟩ := cz3 BK306.out
                      obtain ⟨hcz52_0, hcz52_1, hcz52_2, hfz52_0, hfz52_1, hfz52_2⟩ := cz3 BK311.out
                      go_wp2
                      go_ret
                      exact ⟨by first | rfl | (simp [errW_none, errW_some] <;> rfl) | (simp [*, errW_none, errW_some] <;> rfl), bB_⟩
                  · rw [if_neg c30] at H
                    have c30b0 : (t303 == t308) = false := beq_eq_false_iff_ne.mpr c30
                    have c30b1 : (t303 != t308) = true := bne_iff_ne.mpr c30
                    obtain rfl := Option.some.inj H
                    have hnb53 := NB299_306.out
                    have hnc53 := NB306_299.out
                    have hnb54 := NB299_311.out
                    have hnc54 := NB311_299.out
                    obtain ⟨hcz55_0, hcz55_1, hcz55_2, hcz55_3, hcz55_4, hcz55_5, hfz55_0, hfz55_1, hfz55_2, hfz55_3, hfz55_4, hfz55_5⟩ := cz6 BK299.out
                    have hnb56 := NB306_311.out
                    have hnc56 := NB311_306.out
                    obtain ⟨hcz57_0, hcz57_1, hcz57_2, hfz57_0, hfz57_1, hfz57_2⟩ := cz3 BK306.out
                    obtain ⟨hcz58_0, hcz58_1, hcz58_2, hfz58_0, hfz58_1, hfz58_2⟩ := cz3 BK311.out
                    go_wp2
                    go_ret
                    exact ⟨by first | rfl | (simp [errW_none, errW_some] <;> rfl) | (simp [*, errW_none, errW_some] <;> rfl), bB_⟩
                · rw [if_neg c29] at H
                  have c29b0 : ((Int.tmod (wrap64 (a1 + 1)) a0_1) == 0) = false := beq_eq_false_iff_ne.mpr c29
                  have c29b1 : ((Int.tmod (wrap64 (a1 + 1)) a0_1) != 0) = true := bne_iff_ne.mpr c29
                  by_cases c59 : t304 = true
                  · subst c59
                    have H1 : (if t302 = t307 then (if (true == t309) = true then (if t308 = (wrap64 (t303 + (-1))) then ((tapearchivelaw09_awake.f kj13).bind fun t313 => (some t313)) else (some false)) else (some false)) else (some false)) = some r := by rw [if_pos rfl] at H; exact H
                    clear H
                    have H := H1
                    clear H1
                    by_cases c60 : t302 = t307
                    · rw [if_pos c60] at H
                      have c60b0 : (t302 == t307) = true := beq_iff_eq.mpr c60
                      have c60b1 : (t302 != t307) = false := bne_eq_false_iff_eq.mpr c60
                      clear c60
                      by_cases c61 : (true == t309) = true
                      · rw [if_pos c61] at H
                        have c61b0 : (true == t309) = true := c61
                        (try (have c61b1 : decide (true = t309) = true := by simpa using c61))
                        (try (have c61b2 : (true == t309) = true := by simpa using c61))
                        clear c61
                        by_cases c62 : t308 = (wrap64 (t303 + (-1)))
                        · rw [if_pos c62] at H
                          have c62b0 : (t308 == (wrap64 (t303 + (-1)))) = true := beq_iff_eq.mpr c62
                          have c62b1 : (t308 != (wrap64 (t303 + (-1)))) = false := bne_eq_false_iff_eq.mpr c62
                          clear c62
                          replace H := Option.bind_eq_some_iff.mp H
                          obtain ⟨t313, A630, H⟩ := H
                          replace H : (some t313) = some r := H
                          have A63 := Aside0.mk A630
                          clear A630
                          obtain rfl := Option.some.inj H
                          have hnb64 := NB299_306.out
                          have hnc64 := NB306_299.out
                          have hnb65 := NB299_311.out
                          have hnc65 := NB311_299.out
                          obtain ⟨hcz66_0, hcz66_1, hcz66_2, hcz66_3, hcz66_4, hcz66_5, hfz66_0, hfz66_1, hfz66_2, hfz66_3, hfz66_4, hfz66_5⟩ := cz6 BK299.out
                          have hnb67 := NB306_311.out
                          have hnc67 := NB311_306.out
                          obtain ⟨hcz68_0, hcz68_1, hcz68_2, hfz68_0, hfz68_1, hfz68_2⟩ := cz3 BK306.out
                          obtain ⟨hcz69_0, hcz69_1, hcz69_2, hfz69_0, hfz69_1, hfz69_2⟩ := cz3 BK311.out
                          go_wp2_with (first | (go_at_call 17; (with_reducible refine (tapearchivelaw09_awake.calls kj13  t313 _ A63.out).mono ?_); rintro e w70 ⟨rfl, hb⟩; have n0_ := Aside0.mk (blk_below (kB_ BK299.out) hb); have n1_ := Aside0.mk (blk_below (kB_ BK306.out) hb); have n2_ := Aside0.mk (blk_below (kB_ BK311.out) hb); have n3_ := Aside0.mk (below_step bB_ hb); clear BK299; clear BK306; clear BK311; clear HB; have BK299 := n0_; have BK306 := n1_; have BK311 := n2_; have HB := n3_; clear n0_ n1_ n2_ n3_; (try clear hb); (try clear hb2); (try clear hk); (try clear hi)))
                          go_ret
                          exact ⟨by first | rfl | (simp [errW_none, errW_some] <;> rfl) | (simp [*, errW_none, errW_some] <;> rfl), bB_⟩
                        · rw [if_neg c62] at H
                          have c62b0 : (t308 == (wrap64 (t303 + (-1)))) = false := beq_eq_false_iff_ne.mpr c62
                          have c62b1 : (t308 != (wrap64 (t303 + (-1)))) = true := bne_iff_ne.mpr c62
                          obtain rfl := Option.some.inj H
                          have hnb71 := NB299_306.out
                          have hnc71 := NB306_299.out
                          have hnb72 := NB299_311.out
                          have hnc72 := NB311_299.out
                          obtain ⟨hcz73_0, hcz73_1, hcz73_2, hcz73_3, hcz73_4, hcz73_5, hfz73_0, hfz73_1, hfz73_2, hfz73_3, hfz73_4, hfz73_5⟩ := cz6 BK299.out
                          have hnb74 := NB306_311.out
                          have hnc74 := NB311_306.out
                          obtain ⟨hcz75_0, hcz75_1, hcz75_2, hfz75_0, hfz75_1, hfz75_2⟩ := cz3 BK306.out
                          obtain ⟨hcz76_0, hcz76_1, hcz76_2, hfz76_0, hfz76_1, hfz76_2⟩ := cz3 BK311.out
                          go_wp2
                          go_ret
                          exact ⟨by first | rfl | (simp [errW_none, errW_some] <;> rfl) | (simp [*, errW_none, errW_some] <;> rfl), bB_⟩
                      · rw [if_neg c61] at H
                        have c61b0 : (true == t309) = false := by simpa using c61
                        (try (have c61b1 : decide (true = t309) = false := by simpa using c61))
                        (try (have c61b2 : (true == t309) = false := by simpa using c61))
                        (try (have c61b3 : ¬ (true = t309) := by simpa using c61))
                        clear c61
                        obtain rfl := Option.some.inj H
                        have hnb77 := NB299_306.out
                        have hnc77 := NB306_299.out
                        have hnb78 := NB299_311.out
                        have hnc78 := NB311_299.out
                        obtain ⟨hcz79_0, hcz79_1, hcz79_2, hcz79_3, hcz79_4, hcz79_5, hfz79_0, hfz79_1, hfz79_2, hfz79_3, hfz79_4, hfz79_5⟩ := cz6 BK299.out
                        have hnb80 := NB306_311.out
                        have hnc80 := NB311_306.out
                        obtain ⟨hcz81_0, hcz81_1, hcz81_2, hfz81_0, hfz81_1, hfz81_2⟩ := cz3 BK306.out
                        obtain ⟨hcz82_0, hcz82_1, hcz82_2, hfz82_0, hfz82_1, hfz82_2⟩ := cz3 BK311.out
                        go_wp2
                        go_ret
                        exact ⟨by first | rfl | (simp [errW_none, errW_some] <;> rfl) | (simp [*, errW_none, errW_some] <;> rfl), bB_⟩
                    · rw [if_neg c60] at H
                      have c60b0 : (t302 == t307) = false := beq_eq_false_iff_ne.mpr c60
                      have c60b1 : (t302 != t307) = true := bne_iff_ne.mpr c60
                      obtain rfl := Option.some.inj H
                      have hnb83 := NB299_306.out
                      have hnc83 := NB306_299.out
                      have hnb84 := NB299_311.out
                      have hnc84 := NB311_299.out
                      obtain ⟨hcz85_0, hcz85_1, hcz85_2, hcz85_3, hcz85_4, hcz85_5, hfz85_0, hfz85_1, hfz85_2, hfz85_3, hfz85_4, hfz85_5⟩ := cz6 BK299.out
                      have hnb86 := NB306_311.out
                      have hnc86 := NB311_306.out
                      obtain ⟨hcz87_0, hcz87_1, hcz87_2, hfz87_0, hfz87_1, hfz87_2⟩ := cz3 BK306.out
                      obtain ⟨hcz88_0, hcz88_1, hcz88_2, hfz88_0, hfz88_1, hfz88_2⟩ := cz3 BK311.out
                      go_wp2
                      go_ret
                      exact ⟨by first | rfl | (simp [errW_none, errW_some] <;> rfl) | (simp [*, errW_none, errW_some] <;> rfl), bB_⟩
                  · replace c59 := Bool.eq_false_iff.mpr c59
                    subst c59
                    have H1 : (if t302 = t307 then (if (false == t309) = true then (if t308 = (wrap64 (t303 + 1)) then ((tapearchivelaw09_awake.f kj13).bind fun t314 => (some t314)) else (some false)) else (some false)) else (some false)) = some r := by rw [if_neg (show ¬ (false = true) by decide)] at H; exact H
                    clear H
                    have H := H1
                    clear H1
                    by_cases c89 : t302 = t307
                    · rw [if_pos c89] at H
                      have c89b0 : (t302 == t307) = true := beq_iff_eq.mpr c89
                      have c89b1 : (t302 != t307) = false := bne_eq_false_iff_eq.mpr c89
                      clear c89
                      by_cases c90 : (false == t309) = true
                      · rw [if_pos c90] at H
                        have c90b0 : (false == t309) = true := c90
                        (try (have c90b1 : decide (false = t309) = true := by simpa using c90))
                        (try (have c90b2 : (false == t309) = true := by simpa using c90))
                        clear c90
                        by_cases c91 : t308 = (wrap64 (t303 + 1))
                        · rw [if_pos c91] at H
                          have c91b0 : (t308 == (wrap64 (t303 + 1))) = true := beq_iff_eq.mpr c91
                          have c91b1 : (t308 != (wrap64 (t303 + 1))) = false := bne_eq_false_iff_eq.mpr c91
                          clear c91
                          replace H := Option.bind_eq_some_iff.mp H
                          obtain ⟨t314, A920, H⟩ := H
                          replace H : (some t314) = some r := H
                          have A92 := Aside0.mk A920
                          clear A920
                          obtain rfl := Option.some.inj H
                          have hnb93 := NB299_306.out
                          have hnc93 := NB306_299.out
                          have hnb94 := NB299_311.out
                          have hnc94 := NB311_299.out
                          obtain ⟨hcz95_0, hcz95_1, hcz95_2, hcz95_3, hcz95_4, hcz95_5, hfz95_0, hfz95_1, hfz95_2, hfz95_3, hfz95_4, hfz95_5⟩ := cz6 BK299.out
                          have hnb96 := NB306_311.out
                          have hnc96 := NB311_306.out
                          obtain ⟨hcz97_0, hcz97_1, hcz97_2, hfz97_0, hfz97_1, hfz97_2⟩ := cz3 BK306.out
                          obtain ⟨hcz98_0, hcz98_1, hcz98_2, hfz98_0, hfz98_1, hfz98_2⟩ := cz3 BK311.out
                          go_wp2_with (first | (go_at_call 17; (with_reducible refine (tapearchivelaw09_awake.calls kj13  t314 _ A92.out).mono ?_); rintro e w99 ⟨rfl, hb⟩; have n0_ := Aside0.mk (blk_below (kB_ BK299.out) hb); have n1_ := Aside0.mk (blk_below (kB_ BK306.out) hb); have n2_ := Aside0.mk (blk_below (kB_ BK311.out) hb); have n3_ := Aside0.mk (below_step bB_ hb); clear BK299; clear BK306; clear BK311; clear HB; have BK299 := n0_; have BK306 := n1_; have BK311 := n2_; have HB := n3_; clear n0_ n1_ n2_ n3_; (try clear hb); (try clear hb2); (try clear hk); (try clear hi)))
                          go_ret
                          exact ⟨by first | rfl | (simp [errW_none, errW_some] <;> rfl) | (simp [*, errW_none, errW_some] <;> rfl), bB_⟩
                        · rw [if_neg c91] at H
                          have c91b0 : (t308 == (wrap64 (t303 + 1))) = false := beq_eq_false_iff_ne.mpr c91
                          have c91b1 : (t308 != (wrap64 (t303 + 1))) = true := bne_iff_ne.mpr c91
                          obtain rfl := Option.some.inj H
                          have hnb100 := NB299_306.out
                          have hnc100 := NB306_299.out
                          have hnb101 := NB299_311.out
                          have hnc101 := NB311_299.out
                          obtain ⟨hcz102_0, hcz102_1, hcz102_2, hcz102_3, hcz102_4, hcz102_5, hfz102_0, hfz102_1, hfz102_2, hfz102_3, hfz102_4, hfz102_5⟩ := cz6 BK299.out
                          have hnb103 := NB306_311.out
                          have hnc103 := NB311_306.out
                          obtain ⟨hcz104_0, hcz104_1, hcz104_2, hfz104_0, hfz104_1, hfz104_2⟩ := cz3 BK306.out
                          obtain ⟨hcz105_0, hcz105_1, hcz105_2, hfz105_0, hfz105_1, hfz105_2⟩ := cz3 BK311.out
                          go_wp2
                          go_ret
                          exact ⟨by first | rfl | (simp [errW_none, errW_some] <;> rfl) | (simp [*, errW_none, errW_some] <;> rfl), bB_⟩
                      · rw [if_neg c90] at H
                        have c90b0 : (false == t309) = false := by simpa using c90
                        (try (have c90b1 : decide (false = t309) = false := by simpa using c90))
                        (try (have c90b2 : (false == t309) = false := by simpa using c90))
                        (try (have c90b3 : ¬ (false = t309) := by simpa using c90))
                        clear c90
                        obtain rfl := Option.some.inj H
                        have hnb106 := NB299_306.out
                        have hnc106 := NB306_299.out
                        have hnb107 := NB299_311.out
                        have hnc107 := NB311_299.out
                        obtain ⟨hcz108_0, hcz108_1, hcz108_2, hcz108_3, hcz108_4, hcz108_5, hfz108_0, hfz108_1, hfz108_2, hfz108_3, hfz108_4, hfz108_5⟩ := cz6 BK299.out
                        have hnb109 := NB306_311.out
                        have hnc109 := NB311_306.out
                        obtain ⟨hcz110_0, hcz110_1, hcz110_2, hfz110_0, hfz110_1, hfz110_2⟩ := cz3 BK306.out
                        obtain ⟨hcz111_0, hcz111_1, hcz111_2, hfz111_0, hfz111_1, hfz111_2⟩ := cz3 BK311.out
                        go_wp2
                        go_ret
                        exact ⟨by first | rfl | (simp [errW_none, errW_some] <;> rfl) | (simp [*, errW_none, errW_some] <;> rfl), bB_⟩
                    · rw [if_neg c89] at H
                      have c89b0 : (t302 == t307) = false := beq_eq_false_iff_ne.mpr c89
                      have c89b1 : (t302 != t307) = true := bne_iff_ne.mpr c89
                      obtain rfl := Option.some.inj H
                      have hnb112 := NB299_306.out
                      have hnc112 := NB306_299.out
                      have hnb113 := NB299_311.out
                      have hnc113 := NB311_299.out
                      obtain ⟨hcz114_0, hcz114_1, hcz114_2, hcz114_3, hcz114_4, hcz114_5, hfz114_0, hfz114_1, hfz114_2, hfz114_3, hfz114_4, hfz114_5⟩ := cz6 BK299.out
                      have hnb115 := NB306_311.out
                      have hnc115 := NB311_306.out
                      obtain ⟨hcz116_0, hcz116_1, hcz116_2, hfz116_0, hfz116_1, hfz116_2⟩ := cz3 BK306.out
                      obtain ⟨hcz117_0, hcz117_1, hcz117_2, hfz117_0, hfz117_1, hfz117_2⟩ := cz3 BK311.out
                      go_wp2
                      go_ret
                      exact ⟨by first | rfl | (simp [errW_none, errW_some] <;> rfl) | (simp [*, errW_none, errW_some] <;> rfl), bB_⟩

end Go.Proofs.Ytnogfkhbfgmjcaa.P
