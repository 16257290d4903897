-- Written by a program of this session (wip/gen/myprint.py): plain functions of the Go code, and the proofs of the walks.
import Derived.Test.YtnogfkhbfgmjcaaPx0
import Derived.Test.YtnogfkhbfgmjcaaPx6
import Derived.Test.YtnogfkhbfgmjcaaPx11
import Derived.Test.YtnogfkhbfgmjcaaPx19
import Derived.Test.YtnogfkhbfgmjcaaPx23
namespace Go.Proofs.Ytnogfkhbfgmjcaa.P
open Go.RowKit Go.Proofs.YtnogfkhbfgmjcaaW.PrintWords Go.Proofs.YtnogfkhbfgmjcaaW.PrintLast Go.Proofs.YtnogfkhbfgmjcaaW.PrintMore
open Go.Proofs.YtnogfkhbfgmjcaaW.Mine
attribute [local go_sem] isSome_setCell Go.Instr.field Go.asAgg
attribute [local go_sem] max2_int min2_int max_two min_two max_three min_three max_four min_four   -- for this text's walks alone
set_option linter.unusedVariables false
set_option linter.unusedSimpArgs false

/-! ### tapearchivelaw09_SerpentineAdds: function 5 -/
mutual
def tapearchivelaw09_SerpentineAdds.j0 : Nat → Int → Int → Int → Bool → Int → Int → Int → Int → Int → Int → Option (Bool)
  | 0, _, _, _, _, _, _, _, _, _, _ => none
  | k + 1, x1, x2, x3, x31, x289000, x289001, x289002, x289003, x289004, x289005 => if x31 = true then ((tapearchivelaw09_awake.f k).bind fun t290 => (some t290)) else (if x289001 = 0 then (none) else (if (wrap64 (Int.tdiv x1 x289001)) = (wrap64 (Int.tdiv x3 x289001)) then ((serpentine_Locate.f k x289000 x289001 x289002 x289003 x289004 x289005 x1 x3).bind fun t291 => ((serpentine_Locate.f k x289000 x289001 x289002 x289003 x289004 x289005 x1 x2).bind fun t292 => ((serpentine_Locate.f k x289000 x289001 x289002 x289003 x289004 x289005 x2 x3).bind fun t293 => (tapearchivelaw09_SerpentineAdds.j1 k x1 x2 x3 (t291 != (wrap64 (t292 + t293))) x289000 x289001 x289002 x289003 x289004 x289005)))) else (tapearchivelaw09_SerpentineAdds.j1 k x1 x2 x3 false x289000 x289001 x289002 x289003 x289004 x289005)))
def tapearchivelaw09_SerpentineAdds.j1 : Nat → Int → Int → Int → Bool → Int → Int → Int → Int → Int → Int → Option (Bool)
  | 0, _, _, _, _, _, _, _, _, _, _ => none
  | k + 1, x1, x2, x3, x57, x289000, x289001, x289002, x289003, x289004, x289005 => if x57 = true then (some false) else ((serpentine_Read.f k x289000 x289001 x289002 x289003 x289004 x289005 x1 (wrap64 (x2 - x1))).bind fun t294 => ((serpentine_Read.f k x289000 x289001 x289002 x289003 x289004 x289005 x2 (wrap64 (x3 - x2))).bind fun t295 => ((serpentine_Read.f k x289000 x289001 x289002 x289003 x289004 x289005 x1 (wrap64 (x3 - x1))).bind fun t296 => (if x1 < x2 then (if x2 < x3 then (if x289001 = 0 then (none) else (tapearchivelaw09_SerpentineAdds.j2 k t294 t295 t296 ((Int.tmod x2 x289001) == 0) x289000 x289001 x289002 x289003 x289004 x289005)) else (tapearchivelaw09_SerpentineAdds.j2 k t294 t295 t296 false x289000 x289001 x289002 x289003 x289004 x289005)) else (tapearchivelaw09_SerpentineAdds.j2 k t294 t295 t296 false x289000 x289001 x289002 x289003 x289004 x289005)))))
def tapearchivelaw09_SerpentineAdds.j2 : Nat → Int → Int → Int → Bool → Int → Int → Int → Int → Int → Int → Option (Bool)
  | 0, _, _, _, _, _, _, _, _, _, _ => none
  | k + 1, x10, x11, x12, x93, x289000, x289001, x289002, x289003, x289004, x289005 => if x93 = true then (if (wrap64 ((wrap64 (x12 - x289004)) - x289003)) = (wrap64 (x10 + x11)) then ((tapearchivelaw09_awake.f k).bind fun t297 => (some t297)) else (some false)) else (if x12 = (wrap64 (x10 + x11)) then ((tapearchivelaw09_awake.f k).bind fun t298 => (some t298)) else (some false))
end
def tapearchivelaw09_SerpentineAdds.f (k : Nat) (a0_0 : Int) (a0_1 : Int) (a0_2 : Int) (a0_3 : Int) (a0_4 : Int) (a0_5 : Int) (a1 : Int) (a2 : Int) (a3 : Int) : Option (Bool) := (serpentine_Capacity.f k a0_0 a0_1 a0_2 a0_3 a0_4 a0_5).bind fun t289 => (if a1 < 0 then (tapearchivelaw09_SerpentineAdds.j0 k a1 a2 a3 true a0_0 a0_1 a0_2 a0_3 a0_4 a0_5) else (if a1 > a2 then (tapearchivelaw09_SerpentineAdds.j0 k a1 a2 a3 true a0_0 a0_1 a0_2 a0_3 a0_4 a0_5) else (if a2 > a3 then (tapearchivelaw09_SerpentineAdds.j0 k a1 a2 a3 true a0_0 a0_1 a0_2 a0_3 a0_4 a0_5) else (tapearchivelaw09_SerpentineAdds.j0 k a1 a2 a3 (decide (a3 ≥ t289)) a0_0 a0_1 a0_2 a0_3 a0_4 a0_5))))
theorem tapearchivelaw09_SerpentineAdds.mono_l : ∀ k, (∀ y0 y1 y2 y3 y4 y5 y6 y7 y8 y9, LeO (tapearchivelaw09_SerpentineAdds.j0 k y0 y1 y2 y3 y4 y5 y6 y7 y8 y9) (tapearchivelaw09_SerpentineAdds.j0 (k + 1) y0 y1 y2 y3 y4 y5 y6 y7 y8 y9)) ∧ (∀ y0 y1 y2 y3 y4 y5 y6 y7 y8 y9, LeO (tapearchivelaw09_SerpentineAdds.j1 k y0 y1 y2 y3 y4 y5 y6 y7 y8 y9) (tapearchivelaw09_SerpentineAdds.j1 (k + 1) y0 y1 y2 y3 y4 y5 y6 y7 y8 y9)) ∧ (∀ y0 y1 y2 y3 y4 y5 y6 y7 y8 y9, LeO (tapearchivelaw09_SerpentineAdds.j2 k y0 y1 y2 y3 y4 y5 y6 y7 y8 y9) (tapearchivelaw09_SerpentineAdds.j2 (k + 1) y0 y1 y2 y3 y4 y5 y6 y7 y8 y9))
  | 0 => ⟨fun _ _ _ _ _ _ _ _ _ _ r h => by simp [tapearchivelaw09_SerpentineAdds.j0] at h, fun _ _ _ _ _ _ _ _ _ _ r h => by simp [tapearchivelaw09_SerpentineAdds.j1] at h, fun _ _ _ _ _ _ _ _ _ _ r h => by simp [tapearchivelaw09_SerpentineAdds.j2] at h⟩
  | k + 1 => by
    obtain ⟨ih0, ih1, ih2⟩ := tapearchivelaw09_SerpentineAdds.mono_l k
    refine ⟨?_, ?_, ?_⟩
    · intro y0 y1 y2 y3 y4 y5 y6 y7 y8 y9
      unfold tapearchivelaw09_SerpentineAdds.j0
      repeat' first
      | (with_reducible exact ih0 _ _ _ _ _ _ _ _ _ _)
      | (with_reducible exact ih1 _ _ _ _ _ _ _ _ _ _)
      | (with_reducible exact ih2 _ _ _ _ _ _ _ _ _ _)
      | (with_reducible exact serpentine_Capacity.mono _ _ _ _ _ _ _)
      | (with_reducible exact serpentine_Locate.mono _ _ _ _ _ _ _ _ _)
      | (with_reducible exact serpentine_Read.mono _ _ _ _ _ _ _ _ _)
      | (with_reducible exact tapearchivelaw09_awake.mono _)
      | (with_reducible exact LeO.refl _)
      | (with_reducible exact LeO.none _)
      | (with_reducible refine LeO.ite ?_ ?_)
      | (with_reducible refine LeO.bind ?_ (fun _ => ?_))
      | exact ih0 _ _ _ _ _ _ _ _ _ _
      | exact ih1 _ _ _ _ _ _ _ _ _ _
      | exact ih2 _ _ _ _ _ _ _ _ _ _
      | exact serpentine_Capacity.mono _ _ _ _ _ _ _
      | exact serpentine_Locate.mono _ _ _ _ _ _ _ _ _
      | exact serpentine_Read.mono _ _ _ _ _ _ _ _ _
      | exact tapearchivelaw09_awake.mono _
      | exact LeO.none _
      | refine LeO.ite ?_ ?_
      | refine LeO.bind ?_ (fun _ => ?_)
    · intro y0 y1 y2 y3 y4 y5 y6 y7 y8 y9
      unfold tapearchivelaw09_SerpentineAdds.j1
      repeat' first
      | (with_reducible exact ih0 _ _ _ _ _ _ _ _ _ _)
      | (with_reducible exact ih1 _ _ _ _ _ _ _ _ _ _)
      | (with_reducible exact ih2 _ _ _ _ _ _ _ _ _ _)
      | (with_reducible exact serpentine_Capacity.mono _ _ _ _ _ _ _)
      | (with_reducible exact serpentine_Locate.mono _ _ _ _ _ _ _ _ _)
      | (with_reducible exact serpentine_Read.mono _ _ _ _ _ _ _ _ _)
      | (with_reducible exact tapearchivelaw09_awake.mono _)
      | (with_reducible exact LeO.refl _)
      | (with_reducible exact LeO.none _)
      | (with_reducible refine LeO.ite ?_ ?_)
      | (with_reducible refine LeO.bind ?_ (fun _ => ?_))
      | exact ih0 _ _ _ _ _ _ _ _ _ _
      | exact ih1 _ _ _ _ _ _ _ _ _ _
      | exact ih2 _ _ _ _ _ _ _ _ _ _
      | exact serpentine_Capacity.mono _ _ _ _ _ _ _
      | exact serpentine_Locate.mono _ _ _ _ _ _ _ _ _
      | exact serpentine_Read.mono _ _ _ _ _ _ _ _ _
      | exact tapearchivelaw09_awake.mono _
      | exact LeO.none _
      | refine LeO.ite ?_ ?_
      | refine LeO.bind ?_ (fun _ => ?_)
    · intro y0 y1 y2 y3 y4 y5 y6 y7 y8 y9
      unfold tapearchivelaw09_SerpentineAdds.j2
      repeat' first
      | (with_reducible exact ih0 _ _ _ _ _ _ _ _ _ _)
      | (with_reducible exact ih1 _ _ _ _ _ _ _ _ _ _)
      | (with_reducible exact ih2 _ _ _ _ _ _ _ _ _ _)
      | (with_reducible exact serpentine_Capacity.mono _ _ _ _ _ _ _)
      | (with_reducible exact serpentine_Locate.mono _ _ _ _ _ _ _ _ _)
      | (with_reducible exact serpentine_Read.mono _ _ _ _ _ _ _ _ _)
      | (with_reducible exact tapearchivelaw09_awake.mono _)
      | (with_reducible exact LeO.refl _)
      | (with_reducible exact LeO.none _)
      | (with_reducible refine LeO.ite ?_ ?_)
      | (with_reducible refine LeO.bind ?_ (fun _ => ?_))
      | exact ih0 _ _ _ _ _ _ _ _ _ _
      | exact ih1 _ _ _ _ _ _ _ _ _ _
      | exact ih2 _ _ _ _ _ _ _ _ _ _
      | exact serpentine_Capacity.mono _ _ _ _ _ _ _
      | exact serpentine_Locate.mono _ _ _ _ _ _ _ _ _
      | exact serpentine_Read.mono _ _ _ _ _ _ _ _ _
      | exact tapearchivelaw09_awake.mono _
      | exact LeO.none _
      | refine LeO.ite ?_ ?_
      | refine LeO.bind ?_ (fun _ => ?_)
theorem tapearchivelaw09_SerpentineAdds.mono : ∀ a0 a1 a2 a3 a4 a5 a6 a7 a8 k, LeO (tapearchivelaw09_SerpentineAdds.f k a0 a1 a2 a3 a4 a5 a6 a7 a8) (tapearchivelaw09_SerpentineAdds.f (k + 1) a0 a1 a2 a3 a4 a5 a6 a7 a8) := by
  intro a0 a1 a2 a3 a4 a5 a6 a7 a8 k
  obtain ⟨ih0, ih1, ih2⟩ := tapearchivelaw09_SerpentineAdds.mono_l k
  unfold tapearchivelaw09_SerpentineAdds.f
  repeat' first
      | (with_reducible exact ih0 _ _ _ _ _ _ _ _ _ _)
      | (with_reducible exact ih1 _ _ _ _ _ _ _ _ _ _)
      | (with_reducible exact ih2 _ _ _ _ _ _ _ _ _ _)
      | (with_reducible exact serpentine_Capacity.mono _ _ _ _ _ _ _)
      | (with_reducible exact serpentine_Locate.mono _ _ _ _ _ _ _ _ _)
      | (with_reducible exact serpentine_Read.mono _ _ _ _ _ _ _ _ _)
      | (with_reducible exact tapearchivelaw09_awake.mono _)
      | (with_reducible exact LeO.refl _)
      | (with_reducible exact LeO.none _)
      | (with_reducible refine LeO.ite ?_ ?_)
      | (with_reducible refine LeO.bind ?_ (fun _ => ?_))
      | exact ih0 _ _ _ _ _ _ _ _ _ _
      | exact ih1 _ _ _ _ _ _ _ _ _ _
      | exact ih2 _ _ _ _ _ _ _ _ _ _
      | exact serpentine_Capacity.mono _ _ _ _ _ _ _
      | exact serpentine_Locate.mono _ _ _ _ _ _ _ _ _
      | exact serpentine_Read.mono _ _ _ _ _ _ _ _ _
      | exact tapearchivelaw09_awake.mono _
      | exact LeO.none _
      | refine LeO.ite ?_ ?_
      | refine LeO.bind ?_ (fun _ => ?_)
def tapearchivelaw09_SerpentineAdds.T4 : Bool × List (List Nat × List Nat) := (true, [([], []), ([], []), ([1], [1]), ([0, 2], [0, 2]), ([], []), ([], []), ([5], [5]), ([4, 6], [4, 6]), ([3, 7], [3, 7]), ([8], [8]), ([9], [9]), ([9], [9]), ([9], [9]), ([10, 11, 12, 9, 9], [9, 10, 11, 12]), ([9], [9]), ([9], [9]), ([9], [9]), ([14, 15, 16, 13, 9], [9, 14, 15, 16]), ([9], [9]), ([9], [9]), ([9], [9]), ([18, 19, 20, 17, 9], [9, 18, 19, 20]), ([17, 21, 9], [9, 17, 21]), ([13, 22, 9], [9, 13, 22]), ([9, 23], [9, 23])])
def tapearchivelaw09_SerpentineAdds.B4 : List Nat := [0, 0, 2, 7, 0, 0, 32, 112, 255, 511, 1023, 1023, 1023, 8191, 1023, 1023, 1023, 131071, 1023, 1023, 1023, 2097151, 4194303, 8388607, 16777215]
theorem tapearchivelaw09_SerpentineAdds.tab4 : rtab .any (opsOf Try.f5 4) = tapearchivelaw09_SerpentineAdds.T4 := by kernel_rfl
theorem tapearchivelaw09_SerpentineAdds.bits4 : waitsOk tapearchivelaw09_SerpentineAdds.T4.2 tapearchivelaw09_SerpentineAdds.B4 = true := by kernel_rfl
set_option maxHeartbeats 8000000 in
set_option maxRecDepth 100000 in
theorem tapearchivelaw09_SerpentineAdds.calls (k : Nat) (a0_0 : Int) (a0_1 : Int) (a0_2 : Int) (a0_3 : Int) (a0_4 : Int) (a0_5 : Int) (a1 : Int) (a2 : Int) (a3 : Int) (r : Bool) (w : World) (h : tapearchivelaw09_SerpentineAdds.f k a0_0 a0_1 a0_2 a0_3 a0_4 a0_5 a1 a2 a3 = some r) :
    Calls Try.prog 5 #[.agg #[.int .i64 a0_0, .int .i64 a0_1, .int .i64 a0_2, .int .i64 a0_3, .int .i64 a0_4, .int .i64 a0_5], .int .i64 a1, .int .i64 a2, .int .i64 a3] w fun e w' => e = .returned (.bool r) ∧ Below w.heap.size w w' := by
  have hu23 := Try.underlying23
  have hu25 := Try.underlying25
  have HB := Aside0.mk (Below.refl w.heap.size w)
  have H : ((serpentine_Capacity.f k a0_0 a0_1 a0_2 a0_3 a0_4 a0_5).bind fun t289 => (if a1 < 0 then (tapearchivelaw09_SerpentineAdds.j0 k a1 a2 a3 true a0_0 a0_1 a0_2 a0_3 a0_4 a0_5) else (if a1 > a2 then (tapearchivelaw09_SerpentineAdds.j0 k a1 a2 a3 true a0_0 a0_1 a0_2 a0_3 a0_4 a0_5) else (if a2 > a3 then (tapearchivelaw09_SerpentineAdds.j0 k a1 a2 a3 true a0_0 a0_1 a0_2 a0_3 a0_4 a0_5) else (tapearchivelaw09_SerpentineAdds.j0 k a1 a2 a3 (decide (a3 ≥ t289)) a0_0 a0_1 a0_2 a0_3 a0_4 a0_5))))) = some r := h
  clear h
  replace H := Option.bind_eq_some_iff.mp H
  obtain ⟨t289, A50, H⟩ := H
  replace H : (if a1 < 0 then (tapearchivelaw09_SerpentineAdds.j0 k a1 a2 a3 true a0_0 a0_1 a0_2 a0_3 a0_4 a0_5) else (if a1 > a2 then (tapearchivelaw09_SerpentineAdds.j0 k a1 a2 a3 true a0_0 a0_1 a0_2 a0_3 a0_4 a0_5) else (if a2 > a3 then (tapearchivelaw09_SerpentineAdds.j0 k a1 a2 a3 true a0_0 a0_1 a0_2 a0_3 a0_4 a0_5) else (tapearchivelaw09_SerpentineAdds.j0 k a1 a2 a3 (decide (a3 ≥ t289)) a0_0 a0_1 a0_2 a0_3 a0_4 a0_5)))) = some r := H
  have A5 := Aside0.mk A50
  clear A50
  have HC6 := Aside0.mk H
  clear H
  go_enter Try.func5, Try.ntmps5
  go_upto_region 2 with (first | ((with_reducible refine gate_dst (N := 4) rfl ?_); refine box_event ?hg (N := 4) ?hd (cs := #[.int .i64 a0_0, .int .i64 a0_1, .int .i64 a0_2, .int .i64 a0_3, .int .i64 a0_4, .int .i64 a0_5]) (t := 23) ?hr ?_; (case hd => rfl); (case hg => rfl); (case hr => first | (go_simp; done) | (go_simp; rfl)); intro gb288 hg w7 hbox hb; have n0_ := Aside0.mk (below_step bB_ hb); have n1_ := Aside0.mk (hbox); have n2_ := Aside0.mk (gB_ hg (below_size bB_)); have n3_ := Aside0.mk (gB_ hg (below_size bB_)); clear HB; have HB := n0_; have BK288 := n1_; have GW288 := n2_; have GE288 := n3_; clear n0_ n1_ n2_ n3_; clear hb hbox hg; obtain ⟨hcz8_0, hcz8_1, hcz8_2, hcz8_3, hcz8_4, hcz8_5, hfz8_0, hfz8_1, hfz8_2, hfz8_3, hfz8_4, hfz8_5⟩ := cz6 BK288.out) | ((with_reducible refine gate_callee (f := 20) rfl ?_); refine goesL_ (some 14) rfl rfl Try.func20 (by kernel_rfl) rfl #[.agg #[.int .i64 a0_0, .int .i64 a0_1, .int .i64 a0_2, .int .i64 a0_3, .int .i64 a0_4, .int .i64 a0_5]] rfl mB_ ?_; (with_reducible refine (serpentine_Capacity.calls k a0_0 a0_1 a0_2 a0_3 a0_4 a0_5 t289 _ A5.out).mono ?_); rintro e w9 ⟨rfl, hb⟩; refine ⟨_, rfl, ?_⟩; have n0_ := Aside0.mk (blk_below (kB_ BK288.out) hb); have n1_ := Aside0.mk (below_step bB_ hb); clear BK288; clear HB; have BK288 := n0_; have HB := n1_; clear n0_ n1_; (try clear hb); (try clear hb2); (try clear hk); (try clear hi)))
  (try simp only [Act.put, List.setIfInBounds_toArray, List.set_cons_zero, List.set_cons_succ])
  go_cut [31] (fun v31 wc => ∃ (kq : Nat) (x31_5 : Bool), v31 = .bool x31_5 ∧ Aside0 (tapearchivelaw09_SerpentineAdds.j0 kq a1 a2 a3 x31_5 a0_0 a0_1 a0_2 a0_3 a0_4 a0_5 = some r) ∧ Aside0 (kq ≤ k) ∧ Aside0 (wc.heap[gb288]? = some (.cells #[.int .i64 a0_0, .int .i64 a0_1, .int .i64 a0_2, .int .i64 a0_3, .int .i64 a0_4, .int .i64 a0_5] 23 (0, 0))) ∧ Aside0 (Below w.heap.size w wc))
  case first =>
    have H := HC6.out
    clear HC6
    by_cases c10 : a1 < 0
    · rw [if_pos c10] at H
      have c10b0 : decide (a1 < 0) = true := decide_eq_true c10
      clear c10
      (first | rw [c10b0] | (simp only [i64_w, i32_w]; rw [c10b0]) | skip)
      have H' := Aside0.mk H
      clear H
      go_wp2
      go_meet
      case rel => exact ⟨_, (true), (by first | rfl | (simp; done) | (simp [*]; done)), H', ⟨by first | omega | exact Nat.le_refl _⟩, ⟨by (with_reducible repeat (first | refine blk_drewN ?_ _ | refine blk_drew ?_ | refine blk_alloc ?_ _)); exact BK288.out⟩, ⟨bB_⟩⟩
    · rw [if_neg c10] at H
      have c10b0 : decide (a1 < 0) = false := decide_eq_false c10
      clear c10
      (first | rw [c10b0] | (simp only [i64_w, i32_w]; rw [c10b0]) | skip)
      by_cases c11 : a1 > a2
      · rw [if_pos c11] at H
        have c11b0 : decide (a2 < a1) = true := decide_eq_true c11
        clear c11
        have H' := Aside0.mk H
        clear H
        go_wp2
        go_meet
        case rel => exact ⟨_, (true), (by first | rfl | (simp; done) | (simp [*]; done)), H', ⟨by first | omega | exact Nat.le_refl _⟩, ⟨by (with_reducible repeat (first | refine blk_drewN ?_ _ | refine blk_drew ?_ | refine blk_alloc ?_ _)); exact BK288.out⟩, ⟨bB_⟩⟩
      · rw [if_neg c11] at H
        have c11b0 : decide (a2 < a1) = false := decide_eq_false c11
        clear c11
        by_cases c12 : a2 > a3
        · rw [if_pos c12] at H
          have c12b0 : decide (a3 < a2) = true := decide_eq_true c12
          clear c12
          have H' := Aside0.mk H
          clear H
          go_wp2
          go_meet
          case rel => exact ⟨_, (true), (by first | rfl | (simp; done) | (simp [*]; done)), H', ⟨by first | omega | exact Nat.le_refl _⟩, ⟨by (with_reducible repeat (first | refine blk_drewN ?_ _ | refine blk_drew ?_ | refine blk_alloc ?_ _)); exact BK288.out⟩, ⟨bB_⟩⟩
        · rw [if_neg c12] at H
          have c12b0 : decide (a3 < a2) = false := decide_eq_false c12
          clear c12
          have H' := Aside0.mk H
          clear H
          go_wp2
          go_meet
          case rel => exact ⟨_, (decide (a3 ≥ t289)), (by first | rfl | (simp; done) | (simp [*]; done)), H', ⟨by first | omega | exact Nat.le_refl _⟩, ⟨by (with_reducible repeat (first | refine blk_drewN ?_ _ | refine blk_drew ?_ | refine blk_alloc ?_ _)); exact BK288.out⟩, ⟨bB_⟩⟩
  case rest =>
    clear HC6
    try clear c1
    try clear c2
    try clear p2
    try clear c5
    try clear c10
    try clear c10b0
    try clear c11
    try clear c11b0
    try clear c12
    try clear c12b0
    try clear hcz8_0
    try clear hcz8_1
    try clear hcz8_2
    try clear hcz8_3
    try clear hcz8_4
    try clear hcz8_5
    try clear hfz8_0
    try clear hfz8_1
    try clear hfz8_2
    try clear hfz8_3
    try clear hfz8_4
    try clear hfz8_5
    obtain ⟨kq, x31_5, rfl, HA, HJ5, BK288, HB⟩ := hcut
    cases kq with
    | zero => exact absurd HA.out (by simp [tapearchivelaw09_SerpentineAdds.j0])
    | succ kj5 =>
      have H := HA.out
      clear HA
      simp only [tapearchivelaw09_SerpentineAdds.j0] at H
      by_cases c13 : x31_5 = true
      · subst c13
        have H1 : ((tapearchivelaw09_awake.f kj5).bind fun t290 => (some t290)) = some r := by rw [if_pos rfl] at H; exact H
        clear H
        have H := H1
        clear H1
        replace H := Option.bind_eq_some_iff.mp H
        obtain ⟨t290, A140, H⟩ := H
        replace H : (some t290) = some r := H
        have A14 := Aside0.mk A140
        clear A140
        obtain rfl := Option.some.inj H
        go_wp2_with (first | ((with_reducible refine gate_callee (f := 17) rfl ?_); refine goesL_ (some 32) rfl rfl Try.func17 (by kernel_rfl) rfl #[] rfl mB_ ?_; (with_reducible refine (tapearchivelaw09_awake.calls kj5  t290 _ A14.out).mono ?_); rintro e w15 ⟨rfl, hb⟩; refine ⟨_, rfl, ?_⟩; have n0_ := Aside0.mk (blk_below (kB_ BK288.out) hb); have n1_ := Aside0.mk (below_step bB_ hb); clear BK288; clear HB; have BK288 := n0_; have HB := n1_; clear n0_ n1_; (try clear hb); (try clear hb2); (try clear hk); (try clear hi)))
        go_ret
        exact ⟨by first | rfl | (simp [errW_none, errW_some] <;> rfl) | (simp [*, errW_none, errW_some] <;> rfl), bB_⟩
      · replace c13 := Bool.eq_false_iff.mpr c13
        subst c13
        have H1 : (if a0_1 = 0 then (none) else (if (wrap64 (Int.tdiv a1 a0_1)) = (wrap64 (Int.tdiv a3 a0_1)) then ((serpentine_Locate.f kj5 a0_0 a0_1 a0_2 a0_3 a0_4 a0_5 a1 a3).bind fun t291 => ((serpentine_Locate.f kj5 a0_0 a0_1 a0_2 a0_3 a0_4 a0_5 a1 a2).bind fun t292 => ((serpentine_Locate.f kj5 a0_0 a0_1 a0_2 a0_3 a0_4 a0_5 a2 a3).bind fun t293 => (tapearchivelaw09_SerpentineAdds.j1 kj5 a1 a2 a3 (t291 != (wrap64 (t292 + t293))) a0_0 a0_1 a0_2 a0_3 a0_4 a0_5)))) else (tapearchivelaw09_SerpentineAdds.j1 kj5 a1 a2 a3 false a0_0 a0_1 a0_2 a0_3 a0_4 a0_5))) = some r := by rw [if_neg (show ¬ (false = true) by decide)] at H; exact H
        clear H
        have H := H1
        clear H1
        have HC16 := Aside0.mk H
        clear H
        go_upto_region 4 with (fail)
        go_cut [57] (fun v57 wc => ∃ (kq : Nat) (x57_15 : Bool), v57 = .bool x57_15 ∧ Aside0 (tapearchivelaw09_SerpentineAdds.j1 kq a1 a2 a3 x57_15 a0_0 a0_1 a0_2 a0_3 a0_4 a0_5 = some r) ∧ Aside0 (kq ≤ kj5) ∧ Aside0 (wc.heap[gb288]? = some (.cells #[.int .i64 a0_0, .int .i64 a0_1, .int .i64 a0_2, .int .i64 a0_3, .int .i64 a0_4, .int .i64 a0_5] 23 (0, 0))) ∧ Aside0 (Below w.heap.size w wc))
        case first =>
          have H := HC16.out
          clear HC16
          by_cases c17 : a0_1 = 0
          · rw [if_pos c17] at H
            exact absurd H (by simp)
          · rw [if_neg c17] at H
            have c17b0 : (a0_1 == 0) = false := beq_eq_false_iff_ne.mpr c17
            have c17b1 : (a0_1 != 0) = true := bne_iff_ne.mpr c17
            (first | rw [c17b0] | (simp only [i64_w, i32_w]; rw [c17b0]) | skip)
            by_cases c18 : (wrap64 (Int.tdiv a1 a0_1)) = (wrap64 (Int.tdiv a3 a0_1))
            · rw [if_pos c18] at H
              have c18b0 : ((wrap64 (Int.tdiv a1 a0_1)) == (wrap64 (Int.tdiv a3 a0_1))) = true := beq_iff_eq.mpr c18
              have c18b1 : ((wrap64 (Int.tdiv a1 a0_1)) != (wrap64 (Int.tdiv a3 a0_1))) = false := bne_eq_false_iff_eq.mpr c18
              clear c18
              replace H := Option.bind_eq_some_iff.mp H
              obtain ⟨t291, A190, H⟩ := H
              replace H : ((serpentine_Locate.f kj5 a0_0 a0_1 a0_2 a0_3 a0_4 a0_5 a1 a2).bind fun t292 => ((serpentine_Locate.f kj5 a0_0 a0_1 a0_2 a0_3 a0_4 a0_5 a2 a3).bind fun t293 => (tapearchivelaw09_SerpentineAdds.j1 kj5 a1 a2 a3 (t291 != (wrap64 (t292 + t293))) a0_0 a0_1 a0_2 a0_3 a0_4 a0_5))) = some r := H
              have A19 := Aside0.mk A190
              clear A190
              replace H := Option.bind_eq_some_iff.mp H
              obtain ⟨t292, A200, H⟩ := H
              replace H : ((serpentine_Locate.f kj5 a0_0 a0_1 a0_2 a0_3 a0_4 a0_5 a2 a3).bind fun t293 => (tapearchivelaw09_SerpentineAdds.j1 kj5 a1 a2 a3 (t291 != (wrap64 (t292 + t293))) a0_0 a0_1 a0_2 a0_3 a0_4 a0_5)) = some r := H
              have A20 := Aside0.mk A200
              clear A200
              replace H := Option.bind_eq_some_iff.mp H
              obtain ⟨t293, A210, H⟩ := H
              replace H : (tapearchivelaw09_SerpentineAdds.j1 kj5 a1 a2 a3 (t291 != (wrap64 (t292 + t293))) a0_0 a0_1 a0_2 a0_3 a0_4 a0_5) = some r := H
              have A21 := Aside0.mk A210
              clear A210
              have H' := Aside0.mk H
              clear H
              try go_wp2
              have n0_ := Aside0.mk (blk_drew BK288.out)
              have n1_ := Aside0.mk (below_drew1 HB.out)
              clear BK288
              clear HB
              have BK288 := n0_
              have HB := n1_
              clear n0_ n1_
              refine start_ (n := 25) (S := fun w' => w'.cell? ⟨gb288, 0, none⟩ = some (.int .i64 a0_0) ∧ w'.cell? ⟨gb288, 1, none⟩ = some (.int .i64 a0_1) ∧ w'.cell? ⟨gb288, 2, none⟩ = some (.int .i64 a0_2) ∧ w'.cell? ⟨gb288, 3, none⟩ = some (.int .i64 a0_3) ∧ w'.cell? ⟨gb288, 4, none⟩ = some (.int .i64 a0_4) ∧ w'.cell? ⟨gb288, 5, none⟩ = some (.int .i64 a0_5)) (ds := []) #[f_,f_,f_,f_,f_,f_,f_,f_,f_,f_,f_,f_,f_,f_,f_,f_,f_,f_,f_,f_,f_,f_,f_,f_,f_] (by kernel_rfl) rfl rfl ⟨(blk_cell BK288.out 0).trans rfl, (blk_cell BK288.out 1).trans rfl, (blk_cell BK288.out 2).trans rfl, (blk_cell BK288.out 3).trans rfl, (blk_cell BK288.out 4).trans rfl, (blk_cell BK288.out 5).trans rfl⟩ (fun hHeld => ?_); refine with_tabW tapearchivelaw09_SerpentineAdds.tab4 tapearchivelaw09_SerpentineAdds.bits4 (fun HT_ HW_ => ?_)
              generalize wc.drew = w22 at BK288 HB hHeld ⊢
              refine pure_ (i := 0) (N := some 33) (v := ?_) (a' := ?_) #[t_,f_,f_,f_,f_,f_,f_,f_,f_,f_,f_,f_,f_,f_,f_,f_,f_,f_,f_,f_,f_,f_,f_,f_,f_] rfl rfl (any_of HT_.out (by kernel_rfl)) (fun _ _ _ h => h) (Or.inl ⟨by rfl, ?_⟩) ?_ ?_
              rotate_left
              · intro w'
                go_simp
                with_reducible rfl
              rotate_left
              · simp only [Act.put, pW_]
                rfl
              refine pure_ (i := 1) (N := some 34) (v := ?_) (a' := ?_) #[t_,t_,f_,f_,f_,f_,f_,f_,f_,f_,f_,f_,f_,f_,f_,f_,f_,f_,f_,f_,f_,f_,f_,f_,f_] rfl rfl (any_of HT_.out (by kernel_rfl)) (fun _ _ _ h => h) (Or.inl ⟨by rfl, ?_⟩) ?_ ?_
              rotate_left
              · intro w'
                go_simp
                with_reducible rfl
              rotate_left
              · simp only [Act.put, pW_]
                rfl
              refine pure_ (i := 4) (N := some 37) (v := ?_) (a' := ?_) #[t_,t_,f_,f_,t_,f_,f_,f_,f_,f_,f_,f_,f_,f_,f_,f_,f_,f_,f_,f_,f_,f_,f_,f_,f_] rfl rfl (any_of HT_.out (by kernel_rfl)) (fun _ _ _ h => h) (Or.inl ⟨by rfl, ?_⟩) ?_ ?_
              rotate_left
              · intro w'
                go_simp
                with_reducible rfl
              rotate_left
              · simp only [Act.put, pW_]
                rfl
              refine pure_ (i := 5) (N := some 38) (v := ?_) (a' := ?_) #[t_,t_,f_,f_,t_,t_,f_,f_,f_,f_,f_,f_,f_,f_,f_,f_,f_,f_,f_,f_,f_,f_,f_,f_,f_] rfl rfl (any_of HT_.out (by kernel_rfl)) (fun _ _ _ h => h) (Or.inl ⟨by rfl, ?_⟩) ?_ ?_
              rotate_left
              · intro w'
                go_simp
                with_reducible rfl
              rotate_left
              · simp only [Act.put, pW_]
                rfl
              refine take_ (i := 2) (N := some 35) (v := ?_) (a' := ?_) #[t_,t_,t_,f_,t_,t_,f_,f_,f_,f_,f_,f_,f_,f_,f_,f_,f_,f_,f_,f_,f_,f_,f_,f_,f_] rfl rfl (take_ofW HT_.out HW_.out (by kernel_rfl)) (fun _ _ _ h => h) (Or.inl ⟨by rfl, ?_⟩) hHeld ?_ ?_
              rotate_left
              · rintro w' ⟨s0, s1, s2, s3, s4, s5⟩
                go_simp
                with_reducible rfl
              rotate_left
              · simp only [Act.put, pW_]
                rfl
              refine pure_ (i := 3) (N := some 36) (v := ?_) (a' := ?_) #[t_,t_,t_,t_,t_,t_,f_,f_,f_,f_,f_,f_,f_,f_,f_,f_,f_,f_,f_,f_,f_,f_,f_,f_,f_] rfl rfl (any_of HT_.out (by kernel_rfl)) (fun _ _ _ h => h) (Or.inl ⟨by rfl, ?_⟩) ?_ ?_
              rotate_left
              · intro w'
                go_simp
                with_reducible rfl
              rotate_left
              · simp only [Act.put, pW_]
                rfl
              refine take_ (i := 6) (N := some 39) (v := ?_) (a' := ?_) #[t_,t_,t_,t_,t_,t_,t_,f_,f_,f_,f_,f_,f_,f_,f_,f_,f_,f_,f_,f_,f_,f_,f_,f_,f_] rfl rfl (take_ofW HT_.out HW_.out (by kernel_rfl)) (fun _ _ _ h => h) (Or.inl ⟨by rfl, ?_⟩) hHeld ?_ ?_
              rotate_left
              · rintro w' ⟨s0, s1, s2, s3, s4, s5⟩
                go_simp
                with_reducible rfl
              rotate_left
              · simp only [Act.put, pW_]
                rfl
              refine pure_ (i := 7) (N := some 40) (v := ?_) (a' := ?_) #[t_,t_,t_,t_,t_,t_,t_,t_,f_,f_,f_,f_,f_,f_,f_,f_,f_,f_,f_,f_,f_,f_,f_,f_,f_] rfl rfl (any_of HT_.out (by kernel_rfl)) (fun _ _ _ h => h) (Or.inl ⟨by rfl, ?_⟩) ?_ ?_
              rotate_left
              · intro w'
                go_simp
                with_reducible rfl
              rotate_left
              · simp only [Act.put, pW_]
                rfl
              refine pure_ (i := 8) (N := some 41) (v := ?_) (a' := ?_) #[t_,t_,t_,t_,t_,t_,t_,t_,t_,f_,f_,f_,f_,f_,f_,f_,f_,f_,f_,f_,f_,f_,f_,f_,f_] rfl rfl (any_of HT_.out (by kernel_rfl)) (fun _ _ _ h => h) (Or.inl ⟨by rfl, ?_⟩) ?_ ?_
              rotate_left
              · intro w'
                go_simp
                with_reducible rfl
              rotate_left
              · simp only [Act.put, pW_]
                rfl
              refine pure_ (i := 9) (N := some 42) (v := ?_) (a' := ?_) #[t_,t_,t_,t_,t_,t_,t_,t_,t_,t_,f_,f_,f_,f_,f_,f_,f_,f_,f_,f_,f_,f_,f_,f_,f_] rfl rfl (any_of HT_.out (by kernel_rfl)) (fun _ _ _ h => h) (Or.inl ⟨by rfl, ?_⟩) ?_ ?_
              rotate_left
              · intro w'
                go_simp
                with_reducible rfl
              rotate_left
              · simp only [Act.put, pW_]
                rfl
              refine pure_ (i := 11) (N := some 44) (v := ?_) (a' := ?_) #[t_,t_,t_,t_,t_,t_,t_,t_,t_,t_,f_,t_,f_,f_,f_,f_,f_,f_,f_,f_,f_,f_,f_,f_,f_] rfl rfl (any_of HT_.out (by kernel_rfl)) (fun _ _ _ h => h) (Or.inl ⟨by rfl, ?_⟩) ?_ ?_
              rotate_left
              · intro w'
                go_simp
                with_reducible rfl
              rotate_left
              · simp only [Act.put, pW_]
                rfl
              refine pure_ (i := 12) (N := some 45) (v := ?_) (a' := ?_) #[t_,t_,t_,t_,t_,t_,t_,t_,t_,t_,f_,t_,t_,f_,f_,f_,f_,f_,f_,f_,f_,f_,f_,f_,f_] rfl rfl (any_of HT_.out (by kernel_rfl)) (fun _ _ _ h => h) (Or.inl ⟨by rfl, ?_⟩) ?_ ?_
              rotate_left
              · intro w'
                go_simp
                with_reducible rfl
              rotate_left
              · simp only [Act.put, pW_]
                rfl
              refine pure_ (i := 15) (N := some 48) (v := ?_) (a' := ?_) #[t_,t_,t_,t_,t_,t_,t_,t_,t_,t_,f_,t_,t_,f_,f_,t_,f_,f_,f_,f_,f_,f_,f_,f_,f_] rfl rfl (any_of HT_.out (by kernel_rfl)) (fun _ _ _ h => h) (Or.inl ⟨by rfl, ?_⟩) ?_ ?_
              rotate_left
              · intro w'
                go_simp
                with_reducible rfl
              rotate_left
              · simp only [Act.put, pW_]
                rfl
              refine pure_ (i := 16) (N := some 49) (v := ?_) (a' := ?_) #[t_,t_,t_,t_,t_,t_,t_,t_,t_,t_,f_,t_,t_,f_,f_,t_,t_,f_,f_,f_,f_,f_,f_,f_,f_] rfl rfl (any_of HT_.out (by kernel_rfl)) (fun _ _ _ h => h) (Or.inl ⟨by rfl, ?_⟩) ?_ ?_
              rotate_left
              · intro w'
                go_simp
                with_reducible rfl
              rotate_left
              · simp only [Act.put, pW_]
                rfl
              refine pure_ (i := 19) (N := some 52) (v := ?_) (a' := ?_) #[t_,t_,t_,t_,t_,t_,t_,t_,t_,t_,f_,t_,t_,f_,f_,t_,t_,f_,f_,t_,f_,f_,f_,f_,f_] rfl rfl (any_of HT_.out (by kernel_rfl)) (fun _ _ _ h => h) (Or.inl ⟨by rfl, ?_⟩) ?_ ?_
              rotate_left
              · intro w'
                go_simp
                with_reducible rfl
              rotate_left
              · simp only [Act.put, pW_]
                rfl
              refine pure_ (i := 20) (N := some 53) (v := ?_) (a' := ?_) #[t_,t_,t_,t_,t_,t_,t_,t_,t_,t_,f_,t_,t_,f_,f_,t_,t_,f_,f_,t_,t_,f_,f_,f_,f_] rfl rfl (any_of HT_.out (by kernel_rfl)) (fun _ _ _ h => h) (Or.inl ⟨by rfl, ?_⟩) ?_ ?_
              rotate_left
              · intro w'
                go_simp
                with_reducible rfl
              rotate_left
              · simp only [Act.put, pW_]
                rfl
              refine take_ (i := 10) (N := some 43) (v := ?_) (a' := ?_) #[t_,t_,t_,t_,t_,t_,t_,t_,t_,t_,t_,t_,t_,f_,f_,t_,t_,f_,f_,t_,t_,f_,f_,f_,f_] rfl rfl (take_ofW HT_.out HW_.out (by kernel_rfl)) (fun _ _ _ h => h) (Or.inl ⟨by rfl, ?_⟩) hHeld ?_ ?_
              rotate_left
              · rintro w' ⟨s0, s1, s2, s3, s4, s5⟩
                go_simp
                with_reducible rfl
              rotate_left
              · simp only [Act.put, pW_]
                rfl
              refine take_ (i := 14) (N := some 47) (v := ?_) (a' := ?_) #[t_,t_,t_,t_,t_,t_,t_,t_,t_,t_,t_,t_,t_,f_,t_,t_,t_,f_,f_,t_,t_,f_,f_,f_,f_] rfl rfl (take_ofW HT_.out HW_.out (by kernel_rfl)) (fun _ _ _ h => h) (Or.inl ⟨by rfl, ?_⟩) hHeld ?_ ?_
              rotate_left
              · rintro w' ⟨s0, s1, s2, s3, s4, s5⟩
                go_simp
                with_reducible rfl
              rotate_left
              · simp only [Act.put, pW_]
                rfl
              refine take_ (i := 18) (N := some 51) (v := ?_) (a' := ?_) #[t_,t_,t_,t_,t_,t_,t_,t_,t_,t_,t_,t_,t_,f_,t_,t_,t_,f_,t_,t_,t_,f_,f_,f_,f_] rfl rfl (take_ofW HT_.out HW_.out (by kernel_rfl)) (fun _ _ _ h => h) (Or.inl ⟨by rfl, ?_⟩) hHeld ?_ ?_
              rotate_left
              · rintro w' ⟨s0, s1, s2, s3, s4, s5⟩
                go_simp
                with_reducible rfl
              rotate_left
              · simp only [Act.put, pW_]
                rfl
              refine one_ (i := 13) (N := some 46) #[t_,t_,t_,t_,t_,t_,t_,t_,t_,t_,t_,t_,t_,t_,t_,t_,t_,f_,t_,t_,t_,f_,f_,f_,f_] rfl rfl (one_of HT_.out (by kernel_rfl)) (by decide) (fun K hK => ?_)
              refine goes_ Try.func9 (by kernel_rfl) rfl #[.agg #[.int .i64 a0_0, .int .i64 a0_1, .int .i64 a0_2, .int .i64 a0_3, .int .i64 a0_4, .int .i64 a0_5], .int .i64 a1, .int .i64 a3] (by rfl) rfl rfl mB_ ?_
              with_reducible refine (serpentine_Locate.calls kj5 a0_0 a0_1 a0_2 a0_3 a0_4 a0_5 a1 a3 t291 _ A19.out).mono ?_
              rintro e w23 ⟨rfl, hb⟩
              refine ⟨_, rfl, ?_⟩
              have n0_ := Aside0.mk (blk_below (kB_ BK288.out) hb)
              have n1_ := Aside0.mk (below_step bB_ hb)
              clear BK288
              clear HB
              have BK288 := n0_
              have HB := n1_
              clear n0_ n1_
              (try clear hb)
              (try clear hb2)
              (try clear hk)
              (try clear hi)
              refine hK.out _ _ ⟨(blk_cell BK288.out 0).trans rfl, (blk_cell BK288.out 1).trans rfl, (blk_cell BK288.out 2).trans rfl, (blk_cell BK288.out 3).trans rfl, (blk_cell BK288.out 4).trans rfl, (blk_cell BK288.out 5).trans rfl⟩ (fun hHeld => ?_)
              clear hK K
              refine norm_ (a' := ?_) ?_ ?_
              rotate_left
              · show Act.put _ (some 46) _ = _
                simp only [Act.put, pW_]
                rfl
              refine one_ (i := 17) (N := some 50) #[t_,t_,t_,t_,t_,t_,t_,t_,t_,t_,t_,t_,t_,t_,t_,t_,t_,t_,t_,t_,t_,f_,f_,f_,f_] rfl rfl (one_of HT_.out (by kernel_rfl)) (by decide) (fun K hK => ?_)
              refine goes_ Try.func9 (by kernel_rfl) rfl #[.agg #[.int .i64 a0_0, .int .i64 a0_1, .int .i64 a0_2, .int .i64 a0_3, .int .i64 a0_4, .int .i64 a0_5], .int .i64 a1, .int .i64 a2] (by rfl) rfl rfl mB_ ?_
              with_reducible refine (serpentine_Locate.calls kj5 a0_0 a0_1 a0_2 a0_3 a0_4 a0_5 a1 a2 t292 _ A20.out).mono ?_
              rintro e w24 ⟨rfl, hb⟩
              refine ⟨_, rfl, ?_⟩
              have n0_ := Aside0.mk (blk_below (kB_ BK288.out) hb)
              have n1_ := Aside0.mk (below_step bB_ hb)
              clear BK288
              clear HB
              have BK288 := n0_
              have HB := n1_
              clear n0_ n1_
              (try clear hb)
              (try clear hb2)
              (try clear hk)
              (try clear hi)
              refine hK.out _ _ ⟨(blk_cell BK288.out 0).trans rfl, (blk_cell BK288.out 1).trans rfl, (blk_cell BK288.out 2).trans rfl, (blk_cell BK288.out 3).trans rfl, (blk_cell BK288.out 4).trans rfl, (blk_cell BK288.out 5).trans rfl⟩ (fun hHeld => ?_)
              clear hK K
              refine norm_ (a' := ?_) ?_ ?_
              rotate_left
              · show Act.put _ (some 50) _ = _
                simp only [Act.put, pW_]
                rfl
              refine one_ (i := 21) (N := some 54) #[t_,t_,t_,t_,t_,t_,t_,t_,t_,t_,t_,t_,t_,t_,t_,t_,t_,t_,t_,t_,t_,t_,f_,f_,f_] rfl rfl (one_of HT_.out (by kernel_rfl)) (by decide) (fun K hK => ?_)
              refine goes_ Try.func9 (by kernel_rfl) rfl #[.agg #[.int .i64 a0_0, .int .i64 a0_1, .int .i64 a0_2, .int .i64 a0_3, .int .i64 a0_4, .int .i64 a0_5], .int .i64 a2, .int .i64 a3] (by rfl) rfl rfl mB_ ?_
              with_reducible refine (serpentine_Locate.calls kj5 a0_0 a0_1 a0_2 a0_3 a0_4 a0_5 a2 a3 t293 _ A21.out).mono ?_
              rintro e w25 ⟨rfl, hb⟩
              refine ⟨_, rfl, ?_⟩
              have n0_ := Aside0.mk (blk_below (kB_ BK288.out) hb)
              have n1_ := Aside0.mk (below_step bB_ hb)
              clear BK288
              clear HB
              have BK288 := n0_
              have HB := n1_
              clear n0_ n1_
              (try clear hb)
              (try clear hb2)
              (try clear hk)
              (try clear hi)
              refine hK.out _ _ ⟨(blk_cell BK288.out 0).trans rfl, (blk_cell BK288.out 1).trans rfl, (blk_cell BK288.out 2).trans rfl, (blk_cell BK288.out 3).trans rfl, (blk_cell BK288.out 4).trans rfl, (blk_cell BK288.out 5).trans rfl⟩ (fun hHeld => ?_)
              clear hK K
              refine norm_ (a' := ?_) ?_ ?_
              rotate_left
              · show Act.put _ (some 54) _ = _
                simp only [Act.put, pW_]
                rfl
              refine pure_ (i := 22) (N := some 55) (v := ?_) (a' := ?_) #[t_,t_,t_,t_,t_,t_,t_,t_,t_,t_,t_,t_,t_,t_,t_,t_,t_,t_,t_,t_,t_,t_,t_,f_,f_] rfl rfl (any_of HT_.out (by kernel_rfl)) (fun _ _ _ h => h) (Or.inl ⟨by rfl, ?_⟩) ?_ ?_
              rotate_left
              · intro w'
                go_simp
                with_reducible rfl
              rotate_left
              · simp only [Act.put, pW_]
                rfl
              refine pure_ (i := 23) (N := some 56) (v := ?_) (a' := ?_) #[t_,t_,t_,t_,t_,t_,t_,t_,t_,t_,t_,t_,t_,t_,t_,t_,t_,t_,t_,t_,t_,t_,t_,t_,f_] rfl rfl (any_of HT_.out (by kernel_rfl)) (fun _ _ _ h => h) (Or.inl ⟨by rfl, ?_⟩) ?_ ?_
              rotate_left
              · intro w'
                go_simp
                with_reducible rfl
              rotate_left
              · simp only [Act.put, pW_]
                rfl
              refine pure_ (i := 24) (N := some 57) (v := ?_) (a' := ?_) #[t_,t_,t_,t_,t_,t_,t_,t_,t_,t_,t_,t_,t_,t_,t_,t_,t_,t_,t_,t_,t_,t_,t_,t_,t_] rfl rfl (any_of HT_.out (by kernel_rfl)) (fun _ _ _ h => h) (Or.inl ⟨by rfl, ?_⟩) ?_ ?_
              rotate_left
              · intro w'
                go_simp
                with_reducible rfl
              rotate_left
              · simp only [Act.put, pW_]
                rfl
              refine done_ (done_of HT_.out (by kernel_rfl)) ?_
              try go_wp2
              go_meet
              case rel => exact ⟨_, ((t291 != (wrap64 (t292 + t293)))), (by first | rfl | (simp; done) | (simp [*]; done)), H', ⟨by have := HJ5.out; first | omega | exact Nat.le_refl _⟩, ⟨by (with_reducible repeat (first | refine blk_drewN ?_ _ | refine blk_drew ?_ | refine blk_alloc ?_ _)); exact BK288.out⟩, ⟨bB_⟩⟩
            · rw [if_neg c18] at H
              have c18b0 : ((wrap64 (Int.tdiv a1 a0_1)) == (wrap64 (Int.tdiv a3 a0_1))) = false := beq_eq_false_iff_ne.mpr c18
              have c18b1 : ((wrap64 (Int.tdiv a1 a0_1)) != (wrap64 (Int.tdiv a3 a0_1))) = true := bne_iff_ne.mpr c18
              have H' := Aside0.mk H
              clear H
              try go_wp2
              have n0_ := Aside0.mk (blk_drew BK288.out)
              have n1_ := Aside0.mk (below_drew1 HB.out)
              clear BK288
              clear HB
              have BK288 := n0_
              have HB := n1_
              clear n0_ n1_
              refine start_ (n := 25) (S := fun w' => w'.cell? ⟨gb288, 0, none⟩ = some (.int .i64 a0_0) ∧ w'.cell? ⟨gb288, 1, none⟩ = some (.int .i64 a0_1) ∧ w'.cell? ⟨gb288, 2, none⟩ = some (.int .i64 a0_2) ∧ w'.cell? ⟨gb288, 3, none⟩ = some (.int .i64 a0_3) ∧ w'.cell? ⟨gb288, 4, none⟩ = some (.int .i64 a0_4) ∧ w'.cell? ⟨gb288, 5, none⟩ = some (.int .i64 a0_5)) (ds := []) #[f_,f_,f_,f_,f_,f_,f_,f_,f_,f_,f_,f_,f_,f_,f_,f_,f_,f_,f_,f_,f_,f_,f_,f_,f_] (by kernel_rfl) rfl rfl ⟨(blk_cell BK288.out 0).trans rfl, (blk_cell BK288.out 1).trans rfl, (blk_cell BK288.out 2).trans rfl, (blk_cell BK288.out 3).trans rfl, (blk_cell BK288.out 4).trans rfl, (blk_cell BK288.out 5).trans rfl⟩ (fun hHeld => ?_); refine with_tabW tapearchivelaw09_SerpentineAdds.tab4 tapearchivelaw09_SerpentineAdds.bits4 (fun HT_ HW_ => ?_)
              generalize wc.drew = w26 at BK288 HB hHeld ⊢
              refine pure_ (i := 0) (N := some 33) (v := ?_) (a' := ?_) #[t_,f_,f_,f_,f_,f_,f_,f_,f_,f_,f_,f_,f_,f_,f_,f_,f_,f_,f_,f_,f_,f_,f_,f_,f_] rfl rfl (any_of HT_.out (by kernel_rfl)) (fun _ _ _ h => h) (Or.inl ⟨by rfl, ?_⟩) ?_ ?_
              rotate_left
              · intro w'
                go_simp
                with_reducible rfl
              rotate_left
              · simp only [Act.put, pW_]
                rfl
              refine pure_ (i := 1) (N := some 34) (v := ?_) (a' := ?_) #[t_,t_,f_,f_,f_,f_,f_,f_,f_,f_,f_,f_,f_,f_,f_,f_,f_,f_,f_,f_,f_,f_,f_,f_,f_] rfl rfl (any_of HT_.out (by kernel_rfl)) (fun _ _ _ h => h) (Or.inl ⟨by rfl, ?_⟩) ?_ ?_
              rotate_left
              · intro w'
                go_simp
                with_reducible rfl
              rotate_left
              · simp only [Act.put, pW_]
                rfl
              refine pure_ (i := 4) (N := some 37) (v := ?_) (a' := ?_) #[t_,t_,f_,f_,t_,f_,f_,f_,f_,f_,f_,f_,f_,f_,f_,f_,f_,f_,f_,f_,f_,f_,f_,f_,f_] rfl rfl (any_of HT_.out (by kernel_rfl)) (fun _ _ _ h => h) (Or.inl ⟨by rfl, ?_⟩) ?_ ?_
              rotate_left
              · intro w'
                go_simp
                with_reducible rfl
              rotate_left
              · simp only [Act.put, pW_]
                rfl
              refine pure_ (i := 5) (N := some 38) (v := ?_) (a' := ?_) #[t_,t_,f_,f_,t_,t_,f_,f_,f_,f_,f_,f_,f_,f_,f_,f_,f_,f_,f_,f_,f_,f_,f_,f_,f_] rfl rfl (any_of HT_.out (by kernel_rfl)) (fun _ _ _ h => h) (Or.inl ⟨by rfl, ?_⟩) ?_ ?_
              rotate_left
              · intro w'
                go_simp
                with_reducible rfl
              rotate_left
              · simp only [Act.put, pW_]
                rfl
              refine take_ (i := 2) (N := some 35) (v := ?_) (a' := ?_) #[t_,t_,t_,f_,t_,t_,f_,f_,f_,f_,f_,f_,f_,f_,f_,f_,f_,f_,f_,f_,f_,f_,f_,f_,f_] rfl rfl (take_ofW HT_.out HW_.out (by kernel_rfl)) (fun _ _ _ h => h) (Or.inl ⟨by rfl, ?_⟩) hHeld ?_ ?_
              rotate_left
              · rintro w' ⟨s0, s1, s2, s3, s4, s5⟩
                go_simp
                with_reducible rfl
              rotate_left
              · simp only [Act.put, pW_]
                rfl
              refine pure_ (i := 3) (N := some 36) (v := ?_) (a' := ?_) #[t_,t_,t_,t_,t_,t_,f_,f_,f_,f_,f_,f_,f_,f_,f_,f_,f_,f_,f_,f_,f_,f_,f_,f_,f_] rfl rfl (any_of HT_.out (by kernel_rfl)) (fun _ _ _ h => h) (Or.inl ⟨by rfl, ?_⟩) ?_ ?_
              rotate_left
              · intro w'
                go_simp
                with_reducible rfl
              rotate_left
              · simp only [Act.put, pW_]
                rfl
              refine take_ (i := 6) (N := some 39) (v := ?_) (a' := ?_) #[t_,t_,t_,t_,t_,t_,t_,f_,f_,f_,f_,f_,f_,f_,f_,f_,f_,f_,f_,f_,f_,f_,f_,f_,f_] rfl rfl (take_ofW HT_.out HW_.out (by kernel_rfl)) (fun _ _ _ h => h) (Or.inl ⟨by rfl, ?_⟩) hHeld ?_ ?_
              rotate_left
              · rintro w' ⟨s0, s1, s2, s3, s4, s5⟩
                go_simp
                with_reducible rfl
              rotate_left
              · simp only [Act.put, pW_]
                rfl
              refine pure_ (i := 7) (N := some 40) (v := ?_) (a' := ?_) #[t_,t_,t_,t_,t_,t_,t_,t_,f_,f_,f_,f_,f_,f_,f_,f_,f_,f_,f_,f_,f_,f_,f_,f_,f_] rfl rfl (any_of HT_.out (by kernel_rfl)) (fun _ _ _ h => h) (Or.inl ⟨by rfl, ?_⟩) ?_ ?_
              rotate_left
              · intro w'
                go_simp
                with_reducible rfl
              rotate_left
              · simp only [Act.put, pW_]
                rfl
              refine pure_ (i := 8) (N := some 41) (v := ?_) (a' := ?_) #[t_,t_,t_,t_,t_,t_,t_,t_,t_,f_,f_,f_,f_,f_,f_,f_,f_,f_,f_,f_,f_,f_,f_,f_,f_] rfl rfl (any_of HT_.out (by kernel_rfl)) (fun _ _ _ h => h) (Or.inl ⟨by rfl, ?_⟩) ?_ ?_
              rotate_left
              · intro w'
                go_simp
                with_reducible rfl
              rotate_left
              · simp only [Act.put, pW_]
                rfl
              refine pure_ (i := 9) (N := some 42) (v := ?_) (a' := ?_) #[t_,t_,t_,t_,t_,t_,t_,t_,t_,t_,f_,f_,f_,f_,f_,f_,f_,f_,f_,f_,f_,f_,f_,f_,f_] rfl rfl (any_of HT_.out (by kernel_rfl)) (fun _ _ _ h => h) (Or.inl ⟨by rfl, ?_⟩) ?_ ?_
              rotate_left
              · intro w'
                go_simp
                with_reducible rfl
              rotate_left
              · simp only [Act.put, pW_]
                rfl
              refine pure_ (i := 10) (N := some 43) (v := undef) (a' := ?_) #[t_,t_,t_,t_,t_,t_,t_,t_,t_,t_,t_,f_,f_,f_,f_,f_,f_,f_,f_,f_,f_,f_,f_,f_,f_] rfl rfl (any_of HT_.out (by kernel_rfl)) (fun _ _ _ h => h) (Or.inr ⟨by rfl, rfl⟩) ?_ ?_
              rotate_left
              · simp only [Act.put, pW_]
                rfl
              refine pure_ (i := 11) (N := some 44) (v := undef) (a' := ?_) #[t_,t_,t_,t_,t_,t_,t_,t_,t_,t_,t_,t_,f_,f_,f_,f_,f_,f_,f_,f_,f_,f_,f_,f_,f_] rfl rfl (any_of HT_.out (by kernel_rfl)) (fun _ _ _ h => h) (Or.inr ⟨by rfl, rfl⟩) ?_ ?_
              rotate_left
              · simp only [Act.put, pW_]
                rfl
              refine pure_ (i := 12) (N := some 45) (v := undef) (a' := ?_) #[t_,t_,t_,t_,t_,t_,t_,t_,t_,t_,t_,t_,t_,f_,f_,f_,f_,f_,f_,f_,f_,f_,f_,f_,f_] rfl rfl (any_of HT_.out (by kernel_rfl)) (fun _ _ _ h => h) (Or.inr ⟨by rfl, rfl⟩) ?_ ?_
              rotate_left
              · simp only [Act.put, pW_]
                rfl
              refine pure_ (i := 13) (N := some 46) (v := undef) (a' := ?_) #[t_,t_,t_,t_,t_,t_,t_,t_,t_,t_,t_,t_,t_,t_,f_,f_,f_,f_,f_,f_,f_,f_,f_,f_,f_] rfl rfl (any_of HT_.out (by kernel_rfl)) (fun _ _ _ h => h) (Or.inr ⟨by rfl, rfl⟩) ?_ ?_
              rotate_left
              · simp only [Act.put, pW_]
                rfl
              refine pure_ (i := 14) (N := some 47) (v := undef) (a' := ?_) #[t_,t_,t_,t_,t_,t_,t_,t_,t_,t_,t_,t_,t_,t_,t_,f_,f_,f_,f_,f_,f_,f_,f_,f_,f_] rfl rfl (any_of HT_.out (by kernel_rfl)) (fun _ _ _ h => h) (Or.inr ⟨by rfl, rfl⟩) ?_ ?_
              rotate_left
              · simp only [Act.put, pW_]
                rfl
              refine pure_ (i := 15) (N := some 48) (v := undef) (a' := ?_) #[t_,t_,t_,t_,t_,t_,t_,t_,t_,t_,t_,t_,t_,t_,t_,t_,f_,f_,f_,f_,f_,f_,f_,f_,f_] rfl rfl (any_of HT_.out (by kernel_rfl)) (fun _ _ _ h => h) (Or.inr ⟨by rfl, rfl⟩) ?_ ?_
              rotate_left
              · simp only [Act.put, pW_]
                rfl
              refine pure_ (i := 16) (N := some 49) (v := undef) (a' := ?_) #[t_,t_,t_,t_,t_,t_,t_,t_,t_,t_,t_,t_,t_,t_,t_,t_,t_,f_,f_,f_,f_,f_,f_,f_,f_] rfl rfl (any_of HT_.out (by kernel_rfl)) (fun _ _ _ h => h) (Or.inr ⟨by rfl, rfl⟩) ?_ ?_
              rotate_left
              · simp only [Act.put, pW_]
                rfl
              refine pure_ (i := 17) (N := some 50) (v := undef) (a' := ?_) #[t_,t_,t_,t_,t_,t_,t_,t_,t_,t_,t_,t_,t_,t_,t_,t_,t_,t_,f_,f_,f_,f_,f_,f_,f_] rfl rfl (any_of HT_.out (by kernel_rfl)) (fun _ _ _ h => h) (Or.inr ⟨by rfl, rfl⟩) ?_ ?_
              rotate_left
              · simp only [Act.put, pW_]
                rfl
              refine pure_ (i := 18) (N := some 51) (v := undef) (a' := ?_) #[t_,t_,t_,t_,t_,t_,t_,t_,t_,t_,t_,t_,t_,t_,t_,t_,t_,t_,t_,f_,f_,f_,f_,f_,f_] rfl rfl (any_of HT_.out (by kernel_rfl)) (fun _ _ _ h => h) (Or.inr ⟨by rfl, rfl⟩) ?_ ?_
              rotate_left
              · simp only [Act.put, pW_]
                rfl
              refine pure_ (i := 19) (N := some 52) (v := undef) (a' := ?_) #[t_,t_,t_,t_,t_,t_,t_,t_,t_,t_,t_,t_,t_,t_,t_,t_,t_,t_,t_,t_,f_,f_,f_,f_,f_] rfl rfl (any_of HT_.out (by kernel_rfl)) (fun _ _ _ h => h) (Or.inr ⟨by rfl, rfl⟩) ?_ ?_
              rotate_left
              · simp only [Act.put, pW_]
                rfl
              refine pure_ (i := 20) (N := some 53) (v := undef) (a' := ?_) #[t_,t_,t_,t_,t_,t_,t_,t_,t_,t_,t_,t_,t_,t_,t_,t_,t_,t_,t_,t_,t_,f_,f_,f_,f_] rfl rfl (any_of HT_.out (by kernel_rfl)) (fun _ _ _ h => h) (Or.inr ⟨by rfl, rfl⟩) ?_ ?_
              rotate_left
              · simp only [Act.put, pW_]
                rfl
              refine pure_ (i := 21) (N := some 54) (v := undef) (a' := ?_) #[t_,t_,t_,t_,t_,t_,t_,t_,t_,t_,t_,t_,t_,t_,t_,t_,t_,t_,t_,t_,t_,t_,f_,f_,f_] rfl rfl (any_of HT_.out (by kernel_rfl)) (fun _ _ _ h => h) (Or.inr ⟨by rfl, rfl⟩) ?_ ?_
              rotate_left
              · simp only [Act.put, pW_]
                rfl
              refine pure_ (i := 22) (N := some 55) (v := undef) (a' := ?_) #[t_,t_,t_,t_,t_,t_,t_,t_,t_,t_,t_,t_,t_,t_,t_,t_,t_,t_,t_,t_,t_,t_,t_,f_,f_] rfl rfl (any_of HT_.out (by kernel_rfl)) (fun _ _ _ h => h) (Or.inr ⟨by rfl, rfl⟩) ?_ ?_
              rotate_left
              · simp only [Act.put, pW_]
                rfl
              refine pure_ (i := 23) (N := some 56) (v := undef) (a' := ?_) #[t_,t_,t_,t_,t_,t_,t_,t_,t_,t_,t_,t_,t_,t_,t_,t_,t_,t_,t_,t_,t_,t_,t_,t_,f_] rfl rfl (any_of HT_.out (by kernel_rfl)) (fun _ _ _ h => h) (Or.inr ⟨by rfl, rfl⟩) ?_ ?_
              rotate_left
              · simp only [Act.put, pW_]
                rfl
              refine pure_ (i := 24) (N := some 57) (v := ?_) (a' := ?_) #[t_,t_,t_,t_,t_,t_,t_,t_,t_,t_,t_,t_,t_,t_,t_,t_,t_,t_,t_,t_,t_,t_,t_,t_,t_] rfl rfl (any_of HT_.out (by kernel_rfl)) (fun _ _ _ h => h) (Or.inl ⟨by rfl, ?_⟩) ?_ ?_
              rotate_left
              · intro w'
                go_simp
                with_reducible rfl
              rotate_left
              · simp only [Act.put, pW_]
                rfl
              refine done_ (done_of HT_.out (by kernel_rfl)) ?_
              try go_wp2
              go_meet
              case rel => exact ⟨_, (false), (by first | rfl | (simp; done) | (simp [*]; done)), H', ⟨by have := HJ5.out; first | omega | exact Nat.le_refl _⟩, ⟨by (with_reducible repeat (first | refine blk_drewN ?_ _ | refine blk_drew ?_ | refine blk_alloc ?_ _)); exact BK288.out⟩, ⟨bB_⟩⟩
        case rest =>
          clear HC16
          try clear c1
          try clear c2
          try clear p2
          try clear c5
          try clear p6
          try clear c9
          try clear c10
          try clear c10b0
          try clear c11
          try clear c11b0
          try clear c12
          try clear c12b0
          try clear c13
          try clear c17
          try clear c17b0
          try clear c17b1
          try clear c18
          try clear c18b0
          try clear c18b1
          try clear c20
          try clear hcz8_0
          try clear hcz8_1
          try clear hcz8_2
          try clear hcz8_3
          try clear hcz8_4
          try clear hcz8_5
          try clear hfz8_0
          try clear hfz8_1
          try clear hfz8_2
          try clear hfz8_3
          try clear hfz8_4
          try clear hfz8_5
          try clear p2
          obtain ⟨kq, x57_15, rfl, HA, HJ15, BK288, HB⟩ := hcut
          cases kq with
          | zero => exact absurd HA.out (by simp [tapearchivelaw09_SerpentineAdds.j1])
          | succ kj15 =>
            have H := HA.out
            clear HA
            simp only [tapearchivelaw09_SerpentineAdds.j1] at H
            by_cases c27 : x57_15 = true
            · subst c27
              have H1 : (some false) = some r := by rw [if_pos rfl] at H; exact H
              clear H
              have H := H1
              clear H1
              obtain rfl := Option.some.inj H
              go_wp2
              go_ret
              exact ⟨by first | rfl | (simp [errW_none, errW_some] <;> rfl) | (simp [*, errW_none, errW_some] <;> rfl), bB_⟩
            · replace c27 := Bool.eq_false_iff.mpr c27
              subst c27
              have H1 : ((serpentine_Read.f kj15 a0_0 a0_1 a0_2 a0_3 a0_4 a0_5 a1 (wrap64 (a2 - a1))).bind fun t294 => ((serpentine_Read.f kj15 a0_0 a0_1 a0_2 a0_3 a0_4 a0_5 a2 (wrap64 (a3 - a2))).bind fun t295 => ((serpentine_Read.f kj15 a0_0 a0_1 a0_2 a0_3 a0_4 a0_5 a1 (wrap64 (a3 - a1))).bind fun t296 => (if a1 < a2 then (if a2 < a3 then (if a0_1 = 0 then (none) else (tapearchivelaw09_SerpentineAdds.j2 kj15 t294 t295 t296 ((Int.tmod a2 a0_1) == 0) a0_0 a0_1 a0_2 a0_3 a0_4 a0_5)) else (tapearchivelaw09_SerpentineAdds.j2 kj15 t294 t295 t296 false a0_0 a0_1 a0_2 a0_3 a0_4 a0_5)) else (tapearchivelaw09_SerpentineAdds.j2 kj15 t294 t295 t296 false a0_0 a0_1 a0_2 a0_3 a0_4 a0_5))))) = some r := by rw [if_neg (show ¬ (false = true) by decide)] at H; exact H
              clear H
              have H := H1
              clear H1
              replace H := Option.bind_eq_some_iff.mp H
              obtain ⟨t294, A280, H⟩ := H
              replace H : ((serpentine_Read.f kj15 a0_0 a0_1 a0_2 a0_3 a0_4 a0_5 a2 (wrap64 (a3 - a2))).bind fun t295 => ((serpentine_Read.f kj15 a0_0 a0_1 a0_2 a0_3 a0_4 a0_5 a1 (wrap64 (a3 - a1))).bind fun t296 => (if a1 < a2 then (if a2 < a3 then (if a0_1 = 0 then (none) else (tapearchivelaw09_SerpentineAdds.j2 kj15 t294 t295 t296 ((Int.tmod a2 a0_1) == 0) a0_0 a0_1 a0_2 a0_3 a0_4 a0_5)) else (tapearchivelaw09_SerpentineAdds.j2 kj15 t294 t295 t296 false a0_0 a0_1 a0_2 a0_3 a0_4 a0_5)) else (tapearchivelaw09_SerpentineAdds.j2 kj15 t294 t295 t296 false a0_0 a0_1 a0_2 a0_3 a0_4 a0_5)))) = some r := H
              have A28 := Aside0.mk A280
              clear A280
              replace H := Option.bind_eq_some_iff.mp H
              obtain ⟨t295, A290, H⟩ := H
              replace H : ((serpentine_Read.f kj15 a0_0 a0_1 a0_2 a0_3 a0_4 a0_5 a1 (wrap64 (a3 - a1))).bind fun t296 => (if a1 < a2 then (if a2 < a3 then (if a0_1 = 0 then (none) else (tapearchivelaw09_SerpentineAdds.j2 kj15 t294 t295 t296 ((Int.tmod a2 a0_1) == 0) a0_0 a0_1 a0_2 a0_3 a0_4 a0_5)) else (tapearchivelaw09_SerpentineAdds.j2 kj15 t294 t295 t296 false a0_0 a0_1 a0_2 a0_3 a0_4 a0_5)) else (tapearchivelaw09_SerpentineAdds.j2 kj15 t294 t295 t296 false a0_0 a0_1 a0_2 a0_3 a0_4 a0_5))) = some r := H
              have A29 := Aside0.mk A290
              clear A290
              replace H := Option.bind_eq_some_iff.mp H
              obtain ⟨t296, A300, H⟩ := H
              replace H : (if a1 < a2 then (if a2 < a3 then (if a0_1 = 0 then (none) else (tapearchivelaw09_SerpentineAdds.j2 kj15 t294 t295 t296 ((Int.tmod a2 a0_1) == 0) a0_0 a0_1 a0_2 a0_3 a0_4 a0_5)) else (tapearchivelaw09_SerpentineAdds.j2 kj15 t294 t295 t296 false a0_0 a0_1 a0_2 a0_3 a0_4 a0_5)) else (tapearchivelaw09_SerpentineAdds.j2 kj15 t294 t295 t296 false a0_0 a0_1 a0_2 a0_3 a0_4 a0_5)) = some r := H
              have A30 := Aside0.mk A300
              clear A300
              have HC31 := Aside0.mk H
              clear H
              obtain ⟨hcz32_0, hcz32_1, hcz32_2, hcz32_3, hcz32_4, hcz32_5, hfz32_0, hfz32_1, hfz32_2, hfz32_3, hfz32_4, hfz32_5⟩ := cz6 BK288.out
              go_upto_region 9 with (first | ((with_reducible refine gate_callee (f := 11) rfl ?_); refine goesL_ (some 64) rfl rfl Try.func11 (by kernel_rfl) rfl #[.agg #[.int .i64 a0_0, .int .i64 a0_1, .int .i64 a0_2, .int .i64 a0_3, .int .i64 a0_4, .int .i64 a0_5], .agg #[.int .i64 a1, .int .i64 (wrap64 (a2 - a1))]] rfl mB_ ?_; (with_reducible refine (serpentine_Read.calls kj15 a0_0 a0_1 a0_2 a0_3 a0_4 a0_5 a1 (wrap64 (a2 - a1)) t294 _ A28.out).mono ?_); rintro e w33 ⟨rfl, hb⟩; refine ⟨_, rfl, ?_⟩; have n0_ := Aside0.mk (blk_below (kB_ BK288.out) hb); have n1_ := Aside0.mk (below_step bB_ hb); clear BK288; clear HB; have BK288 := n0_; have HB := n1_; clear n0_ n1_; (try clear hb); (try clear hb2); (try clear hk); (try clear hi); obtain ⟨hcz34_0, hcz34_1, hcz34_2, hcz34_3, hcz34_4, hcz34_5, hfz34_0, hfz34_1, hfz34_2, hfz34_3, hfz34_4, hfz34_5⟩ := cz6 BK288.out) | ((with_reducible refine gate_callee (f := 11) rfl ?_); refine goesL_ (some 71) rfl rfl Try.func11 (by kernel_rfl) rfl #[.agg #[.int .i64 a0_0, .int .i64 a0_1, .int .i64 a0_2, .int .i64 a0_3, .int .i64 a0_4, .int .i64 a0_5], .agg #[.int .i64 a2, .int .i64 (wrap64 (a3 - a2))]] rfl mB_ ?_; (with_reducible refine (serpentine_Read.calls kj15 a0_0 a0_1 a0_2 a0_3 a0_4 a0_5 a2 (wrap64 (a3 - a2)) t295 _ A29.out).mono ?_); rintro e w35 ⟨rfl, hb⟩; refine ⟨_, rfl, ?_⟩; have n0_ := Aside0.mk (blk_below (kB_ BK288.out) hb); have n1_ := Aside0.mk (below_step bB_ hb); clear BK288; clear HB; have BK288 := n0_; have HB := n1_; clear n0_ n1_; (try clear hb); (try clear hb2); (try clear hk); (try clear hi); obtain ⟨hcz36_0, hcz36_1, hcz36_2, hcz36_3, hcz36_4, hcz36_5, hfz36_0, hfz36_1, hfz36_2, hfz36_3, hfz36_4, hfz36_5⟩ := cz6 BK288.out) | ((with_reducible refine gate_callee (f := 11) rfl ?_); refine goesL_ (some 78) rfl rfl Try.func11 (by kernel_rfl) rfl #[.agg #[.int .i64 a0_0, .int .i64 a0_1, .int .i64 a0_2, .int .i64 a0_3, .int .i64 a0_4, .int .i64 a0_5], .agg #[.int .i64 a1, .int .i64 (wrap64 (a3 - a1))]] rfl mB_ ?_; (with_reducible refine (serpentine_Read.calls kj15 a0_0 a0_1 a0_2 a0_3 a0_4 a0_5 a1 (wrap64 (a3 - a1)) t296 _ A30.out).mono ?_); rintro e w37 ⟨rfl, hb⟩; refine ⟨_, rfl, ?_⟩; have n0_ := Aside0.mk (blk_below (kB_ BK288.out) hb); have n1_ := Aside0.mk (below_step bB_ hb); clear BK288; clear HB; have BK288 := n0_; have HB := n1_; clear n0_ n1_; (try clear hb); (try clear hb2); (try clear hk); (try clear hi)))
              (try simp only [Act.put, List.setIfInBounds_toArray, List.set_cons_zero, List.set_cons_succ])
              go_cut [93] (fun v93 wc => ∃ (kq : Nat) (x93_30 : Bool), v93 = .bool x93_30 ∧ Aside0 (tapearchivelaw09_SerpentineAdds.j2 kq t294 t295 t296 x93_30 a0_0 a0_1 a0_2 a0_3 a0_4 a0_5 = some r) ∧ Aside0 (kq ≤ kj15) ∧ Aside0 (wc.heap[gb288]? = some (.cells #[.int .i64 a0_0, .int .i64 a0_1, .int .i64 a0_2, .int .i64 a0_3, .int .i64 a0_4, .int .i64 a0_5] 23 (0, 0))) ∧ Aside0 (Below w.heap.size w wc))
              case first =>
                have H := HC31.out
                clear HC31
                by_cases c38 : a1 < a2
                · rw [if_pos c38] at H
                  have c38b0 : decide (a1 < a2) = true := decide_eq_true c38
                  clear c38
                  (first | rw [c38b0] | (simp only [i64_w, i32_w]; rw [c38b0]) | skip)
                  by_cases c39 : a2 < a3
                  · rw [if_pos c39] at H
                    have c39b0 : decide (a2 < a3) = true := decide_eq_true c39
                    clear c39
                    by_cases c40 : a0_1 = 0
                    · rw [if_pos c40] at H
                      exact absurd H (by simp)
                    · rw [if_neg c40] at H
                      have c40b0 : (a0_1 == 0) = false := beq_eq_false_iff_ne.mpr c40
                      have c40b1 : (a0_1 != 0) = true := bne_iff_ne.mpr c40
                      have H' := Aside0.mk H
                      clear H
                      obtain ⟨hcz41_0, hcz41_1, hcz41_2, hcz41_3, hcz41_4, hcz41_5, hfz41_0, hfz41_1, hfz41_2, hfz41_3, hfz41_4, hfz41_5⟩ := cz6 BK288.out
                      go_wp2
                      go_meet
                      case rel => exact ⟨_, (((Int.tmod a2 a0_1) == 0)), (by first | rfl | (simp; done) | (simp [*]; done)), H', ⟨by have := HJ5.out; have := HJ15.out; first | omega | exact Nat.le_refl _⟩, ⟨by (with_reducible repeat (first | refine blk_drewN ?_ _ | refine blk_drew ?_ | refine blk_alloc ?_ _)); exact BK288.out⟩, ⟨bB_⟩⟩
                  · rw [if_neg c39] at H
                    have c39b0 : decide (a2 < a3) = false := decide_eq_false c39
                    clear c39
                    have H' := Aside0.mk H
                    clear H
                    go_wp2
                    go_meet
                    case rel => exact ⟨_, (false), (by first | rfl | (simp; done) | (simp [*]; done)), H', ⟨by have := HJ5.out; have := HJ15.out; first | omega | exact Nat.le_refl _⟩, ⟨by (with_reducible repeat (first | refine blk_drewN ?_ _ | refine blk_drew ?_ | refine blk_alloc ?_ _)); exact BK288.out⟩, ⟨bB_⟩⟩
                · rw [if_neg c38] at H
                  have c38b0 : decide (a1 < a2) = false := decide_eq_false c38
                  clear c38
                  (first | rw [c38b0] | (simp only [i64_w, i32_w]; rw [c38b0]) | skip)
                  have H' := Aside0.mk H
                  clear H
                  go_wp2
                  go_meet
                  case rel => exact ⟨_, (false), (by first | rfl | (simp; done) | (simp [*]; done)), H', ⟨by have := HJ5.out; have := HJ15.out; first | omega | exact Nat.le_refl _⟩, ⟨by (with_reducible repeat (first | refine blk_drewN ?_ _ | refine blk_drew ?_ | refine blk_alloc ?_ _)); exact BK288.out⟩, ⟨bB_⟩⟩
              case rest =>
                clear HC31
                try clear c1
                try clear c2
                try clear p2
                try clear c3
                try clear c4
                try clear c5
                try clear p6
                try clear c9
                try clear c10
                try clear c10b0
                try clear c11
                try clear c11b0
                try clear c12
                try clear c12b0
                try clear c13
                try clear c17
                try clear c17b0
                try clear c17b1
                try clear c18
                try clear c18b0
                try clear c18b1
                try clear c20
                try clear c27
                try clear c38
                try clear c38b0
                try clear c39
                try clear c39b0
                try clear c40
                try clear c40b0
                try clear c40b1
                try clear hcz32_0
                try clear hcz32_1
                try clear hcz32_2
                try clear hcz32_3
                try clear hcz32_4
                try clear hcz32_5
                try clear hcz34_0
                try clear hcz34_1
                try clear hcz34_2
                try clear hcz34_3
                try clear hcz34_4
                try clear hcz34_5
                try clear hcz36_0
                try clear hcz36_1
                try clear hcz36_2
                try clear hcz36_3
                try clear hcz36_4
                try clear hcz36_5
                try clear hcz41_0
                try clear hcz41_1
                try clear hcz41_2
                try clear hcz41_3
                try clear hcz41_4
                try clear hcz41_5
                try clear hcz8_0
                try clear hcz8_1
                try clear hcz8_2
                try clear hcz8_3
                try clear hcz8_4
                try clear hcz8_5
                try clear hfz32_0
                try clear hfz32_1
                try clear hfz32_2
                try clear hfz32_3
                try clear hfz32_4
                try clear hfz32_5
                try clear hfz34_0
                try clear hfz34_1
                try clear hfz34_2
                try clear hfz34_3
                try clear hfz34_4
                try clear hfz34_5
                try clear hfz36_0
                try clear hfz36_1
                try clear hfz36_2
                try clear hfz36_3
                try clear hfz36_4
                try clear hfz36_5
                try clear hfz41_0
                try clear hfz41_1
                try clear hfz41_2
                try clear hfz41_3
                try clear hfz41_4
                try clear hfz41_5
                try clear hfz8_0
                try clear hfz8_1
                try clear hfz8_2
                try clear hfz8_3
                try clear hfz8_4
                try clear hfz8_5
                try clear p2
                try clear p6
                obtain ⟨kq, x93_30, rfl, HA, HJ30, BK288, HB⟩ := hcut
                cases kq with
                | zero => exact absurd HA.out (by simp [tapearchivelaw09_SerpentineAdds.j2])
                | succ kj30 =>
                  have H := HA.out
                  clear HA
                  simp only [tapearchivelaw09_SerpentineAdds.j2] at H
                  by_cases c42 : x93_30 = true
                  · subst c42
                    have H1 : (if (wrap64 ((wrap64 (t296 - a0_4)) - a0_3)) = (wrap64 (t294 + t295)) then ((tapearchivelaw09_awake.f kj30).bind fun t297 => (some t297)) else (some false)) = some r := by rw [if_pos rfl] at H; exact H
                    clear H
                    have H := H1
                    clear H1
                    by_cases c43 : (wrap64 ((wrap64 (t296 - a0_4)) - a0_3)) = (wrap64 (t294 + t295))
                    · rw [if_pos c43] at H
                      have c43b0 : ((wrap64 ((wrap64 (t296 - a0_4)) - a0_3)) == (wrap64 (t294 + t295))) = true := beq_iff_eq.mpr c43
                      have c43b1 : ((wrap64 ((wrap64 (t296 - a0_4)) - a0_3)) != (wrap64 (t294 + t295))) = false := bne_eq_false_iff_eq.mpr c43
                      clear c43
                      replace H := Option.bind_eq_some_iff.mp H
                      obtain ⟨t297, A440, H⟩ := H
                      replace H : (some t297) = some r := H
                      have A44 := Aside0.mk A440
                      clear A440
                      obtain rfl := Option.some.inj H
                      obtain ⟨hcz45_0, hcz45_1, hcz45_2, hcz45_3, hcz45_4, hcz45_5, hfz45_0, hfz45_1, hfz45_2, hfz45_3, hfz45_4, hfz45_5⟩ := cz6 BK288.out
                      go_wp2_with (first | (go_at_call 17; (with_reducible refine (tapearchivelaw09_awake.calls kj30  t297 _ A44.out).mono ?_); rintro e w46 ⟨rfl, hb⟩; have n0_ := Aside0.mk (blk_below (kB_ BK288.out) hb); have n1_ := Aside0.mk (below_step bB_ hb); clear BK288; clear HB; have BK288 := n0_; have HB := n1_; clear n0_ n1_; (try clear hb); (try clear hb2); (try clear hk); (try clear hi)))
                      go_ret
                      exact ⟨by first | rfl | (simp [errW_none, errW_some] <;> rfl) | (simp [*, errW_none, errW_some] <;> rfl), bB_⟩
                    · rw [if_neg c43] at H
                      have c43b0 : ((wrap64 ((wrap64 (t296 - a0_4)) - a0_3)) == (wrap64 (t294 + t295))) = false := beq_eq_false_iff_ne.mpr c43
                      have c43b1 : ((wrap64 ((wrap64 (t296 - a0_4)) - a0_3)) != (wrap64 (t294 + t295))) = true := bne_iff_ne.mpr c43
                      obtain rfl := Option.some.inj H
                      obtain ⟨hcz47_0, hcz47_1, hcz47_2, hcz47_3, hcz47_4, hcz47_5, hfz47_0, hfz47_1, hfz47_2, hfz47_3, hfz47_4, hfz47_5⟩ := cz6 BK288.out
                      go_wp2
                      go_ret
                      exact ⟨by first | rfl | (simp [errW_none, errW_some] <;> rfl) | (simp [*, errW_none, errW_some] <;> rfl), bB_⟩
                  · replace c42 := Bool.eq_false_iff.mpr c42
                    subst c42
                    have H1 : (if t296 = (wrap64 (t294 + t295)) then ((tapearchivelaw09_awake.f kj30).bind fun t298 => (some t298)) else (some false)) = some r := by rw [if_neg (show ¬ (false = true) by decide)] at H; exact H
                    clear H
                    have H := H1
                    clear H1
                    by_cases c48 : t296 = (wrap64 (t294 + t295))
                    · rw [if_pos c48] at H
                      have c48b0 : (t296 == (wrap64 (t294 + t295))) = true := beq_iff_eq.mpr c48
                      have c48b1 : (t296 != (wrap64 (t294 + t295))) = false := bne_eq_false_iff_eq.mpr c48
                      clear c48
                      replace H := Option.bind_eq_some_iff.mp H
                      obtain ⟨t298, A490, H⟩ := H
                      replace H : (some t298) = some r := H
                      have A49 := Aside0.mk A490
                      clear A490
                      obtain rfl := Option.some.inj H
                      go_wp2_with (first | (go_at_call 17; (with_reducible refine (tapearchivelaw09_awake.calls kj30  t298 _ A49.out).mono ?_); rintro e w50 ⟨rfl, hb⟩; have n0_ := Aside0.mk (blk_below (kB_ BK288.out) hb); have n1_ := Aside0.mk (below_step bB_ hb); clear BK288; clear HB; have BK288 := n0_; have HB := n1_; clear n0_ n1_; (try clear hb); (try clear hb2); (try clear hk); (try clear hi)))
                      go_ret
                      exact ⟨by first | rfl | (simp [errW_none, errW_some] <;> rfl) | (simp [*, errW_none, errW_some] <;> rfl), bB_⟩
                    · rw [if_neg c48] at H
                      have c48b0 : (t296 == (wrap64 (t294 + t295))) = false := beq_eq_false_iff_ne.mpr c48
                      have c48b1 : (t296 != (wrap64 (t294 + t295))) = true := bne_iff_ne.mpr c48
                      obtain rfl := Option.some.inj H
                      go_wp2
                      go_ret
                      exact ⟨by first | rfl | (simp [errW_none, errW_some] <;> rfl) | (simp [*, errW_none, errW_some] <;> rfl), bB_⟩

end Go.Proofs.Ytnogfkhbfgmjcaa.P
