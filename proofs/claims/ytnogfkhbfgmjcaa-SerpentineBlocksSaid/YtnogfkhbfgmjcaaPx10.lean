-- Written by a program of this session (wip/gen/myprint.py): plain functions of the Go code, and the proofs of the walks.
import Derived.Test.YtnogfkhbfgmjcaaPx0
import Derived.Test.YtnogfkhbfgmjcaaPx8
import Derived.Test.YtnogfkhbfgmjcaaPx9
namespace Go.Proofs.Ytnogfkhbfgmjcaa.P
open Go.RowKit Go.Proofs.YtnogfkhbfgmjcaaW.PrintWords Go.Proofs.YtnogfkhbfgmjcaaW.PrintLast Go.Proofs.YtnogfkhbfgmjcaaW.PrintMore
open Go.Proofs.YtnogfkhbfgmjcaaW.Mine
attribute [local go_sem] isSome_setCell Go.Instr.field Go.asAgg
attribute [local go_sem] max2_int min2_int max_two min_two max_three min_three max_four min_four   -- for this text's walks alone
set_option linter.unusedVariables false
set_option linter.unusedSimpArgs false

/-! ### tapearchiveref09_Locate: function 10 -/
mutual
def tapearchiveref09_Locate.j0 : Nat → Bool → Int → Int → Int → Int → Int → Int → Int → Int → Bool → Int → Int → Bool → Option (Int)
  | 0, _, _, _, _, _, _, _, _, _, _, _, _, _ => none
  | k + 1, x35, x152000, x152001, x152002, x152003, x152004, x152005, x157000, x157001, x157002, x162000, x162001, x162002 => if x35 = true then (some 0) else ((tapearchiveref09_size.f (wrap64 (x162001 - x157001))).bind fun t162 => ((tapearchiveref09_size.f (wrap64 (x162000 - x157000))).bind fun t163 => (if (wrap64 (x162001 - x157001)) > 0 then (if x162002 = true then (tapearchiveref09_Locate.j1 k (wrap64 ((wrap64 (x152002 * t162)) + (wrap64 (x152004 * t163)))) true x152000 x152001 x152002 x152003 x152004 x152005) else (if (wrap64 (x162001 - x157001)) < 0 then (tapearchiveref09_Locate.j1 k (wrap64 ((wrap64 (x152002 * t162)) + (wrap64 (x152004 * t163)))) true x152000 x152001 x152002 x152003 x152004 x152005) else (if (wrap64 (x162001 - x157001)) = 0 then (tapearchiveref09_Locate.j1 k (wrap64 ((wrap64 (x152002 * t162)) + (wrap64 (x152004 * t163)))) (x157002 != x162002) x152000 x152001 x152002 x152003 x152004 x152005) else (tapearchiveref09_Locate.j1 k (wrap64 ((wrap64 (x152002 * t162)) + (wrap64 (x152004 * t163)))) false x152000 x152001 x152002 x152003 x152004 x152005)))) else (if (wrap64 (x162001 - x157001)) < 0 then (if x162002 = true then (if (wrap64 (x162001 - x157001)) = 0 then (tapearchiveref09_Locate.j1 k (wrap64 ((wrap64 (x152002 * t162)) + (wrap64 (x152004 * t163)))) (x157002 != x162002) x152000 x152001 x152002 x152003 x152004 x152005) else (tapearchiveref09_Locate.j1 k (wrap64 ((wrap64 (x152002 * t162)) + (wrap64 (x152004 * t163)))) false x152000 x152001 x152002 x152003 x152004 x152005)) else (tapearchiveref09_Locate.j1 k (wrap64 ((wrap64 (x152002 * t162)) + (wrap64 (x152004 * t163)))) true x152000 x152001 x152002 x152003 x152004 x152005)) else (if (wrap64 (x162001 - x157001)) = 0 then (tapearchiveref09_Locate.j1 k (wrap64 ((wrap64 (x152002 * t162)) + (wrap64 (x152004 * t163)))) (x157002 != x162002) x152000 x152001 x152002 x152003 x152004 x152005) else (tapearchiveref09_Locate.j1 k (wrap64 ((wrap64 (x152002 * t162)) + (wrap64 (x152004 * t163)))) false x152000 x152001 x152002 x152003 x152004 x152005))))))
def tapearchiveref09_Locate.j1 : Nat → Int → Bool → Int → Int → Int → Int → Int → Int → Option (Int)
  | 0, _, _, _, _, _, _, _, _ => none
  | k + 1, x12, x81, x152000, x152001, x152002, x152003, x152004, x152005 => if x81 = true then (some (wrap64 (x12 + x152003))) else (some x12)
end
def tapearchiveref09_Locate.f (k : Nat) (a0_0 : Int) (a0_1 : Int) (a0_2 : Int) (a0_3 : Int) (a0_4 : Int) (a0_5 : Int) (a1 : Int) (a2 : Int) : Option (Int) := (tapearchiveref09_Place.f k a0_0 a0_1 a0_2 a0_3 a0_4 a0_5 a1).bind fun bt152 => ((tapearchiveref09_Place.f k a0_0 a0_1 a0_2 a0_3 a0_4 a0_5 a2).bind fun bt157 => (if bt152.2.2.2 = true then (if bt157.2.2.2 = true then (tapearchiveref09_Locate.j0 k (a1 == a2) a0_0 a0_1 a0_2 a0_3 a0_4 a0_5 bt152.1 bt152.2.1 bt152.2.2.1 bt157.1 bt157.2.1 bt157.2.2.1) else (tapearchiveref09_Locate.j0 k true a0_0 a0_1 a0_2 a0_3 a0_4 a0_5 bt152.1 bt152.2.1 bt152.2.2.1 bt157.1 bt157.2.1 bt157.2.2.1)) else (tapearchiveref09_Locate.j0 k true a0_0 a0_1 a0_2 a0_3 a0_4 a0_5 bt152.1 bt152.2.1 bt152.2.2.1 bt157.1 bt157.2.1 bt157.2.2.1)))
theorem tapearchiveref09_Locate.mono_l : ∀ k, (∀ y0 y1 y2 y3 y4 y5 y6 y7 y8 y9 y10 y11 y12, LeO (tapearchiveref09_Locate.j0 k y0 y1 y2 y3 y4 y5 y6 y7 y8 y9 y10 y11 y12) (tapearchiveref09_Locate.j0 (k + 1) y0 y1 y2 y3 y4 y5 y6 y7 y8 y9 y10 y11 y12)) ∧ (∀ y0 y1 y2 y3 y4 y5 y6 y7, LeO (tapearchiveref09_Locate.j1 k y0 y1 y2 y3 y4 y5 y6 y7) (tapearchiveref09_Locate.j1 (k + 1) y0 y1 y2 y3 y4 y5 y6 y7))
  | 0 => ⟨fun _ _ _ _ _ _ _ _ _ _ _ _ _ r h => by simp [tapearchiveref09_Locate.j0] at h, fun _ _ _ _ _ _ _ _ r h => by simp [tapearchiveref09_Locate.j1] at h⟩
  | k + 1 => by
    obtain ⟨ih0, ih1⟩ := tapearchiveref09_Locate.mono_l k
    refine ⟨?_, ?_⟩
    · intro y0 y1 y2 y3 y4 y5 y6 y7 y8 y9 y10 y11 y12
      unfold tapearchiveref09_Locate.j0
      repeat' first
      | (with_reducible exact ih0 _ _ _ _ _ _ _ _ _ _ _ _ _)
      | (with_reducible exact ih1 _ _ _ _ _ _ _ _)
      | (with_reducible exact tapearchiveref09_Place.mono _ _ _ _ _ _ _ _)
      | (with_reducible exact LeO.refl _)
      | (with_reducible exact LeO.none _)
      | (with_reducible refine LeO.ite ?_ ?_)
      | (with_reducible refine LeO.bind ?_ (fun _ => ?_))
      | exact ih0 _ _ _ _ _ _ _ _ _ _ _ _ _
      | exact ih1 _ _ _ _ _ _ _ _
      | exact tapearchiveref09_Place.mono _ _ _ _ _ _ _ _
      | exact LeO.none _
      | refine LeO.ite ?_ ?_
      | refine LeO.bind ?_ (fun _ => ?_)
    · intro y0 y1 y2 y3 y4 y5 y6 y7
      unfold tapearchiveref09_Locate.j1
      repeat' first
      | (with_reducible exact ih0 _ _ _ _ _ _ _ _ _ _ _ _ _)
      | (with_reducible exact ih1 _ _ _ _ _ _ _ _)
      | (with_reducible exact tapearchiveref09_Place.mono _ _ _ _ _ _ _ _)
      | (with_reducible exact LeO.refl _)
      | (with_reducible exact LeO.none _)
      | (with_reducible refine LeO.ite ?_ ?_)
      | (with_reducible refine LeO.bind ?_ (fun _ => ?_))
      | exact ih0 _ _ _ _ _ _ _ _ _ _ _ _ _
      | exact ih1 _ _ _ _ _ _ _ _
      | exact tapearchiveref09_Place.mono _ _ _ _ _ _ _ _
      | exact LeO.none _
      | refine LeO.ite ?_ ?_
      | refine LeO.bind ?_ (fun _ => ?_)
theorem tapearchiveref09_Locate.mono : ∀ a0 a1 a2 a3 a4 a5 a6 a7 k, LeO (tapearchiveref09_Locate.f k a0 a1 a2 a3 a4 a5 a6 a7) (tapearchiveref09_Locate.f (k + 1) a0 a1 a2 a3 a4 a5 a6 a7) := by
  intro a0 a1 a2 a3 a4 a5 a6 a7 k
  obtain ⟨ih0, ih1⟩ := tapearchiveref09_Locate.mono_l k
  unfold tapearchiveref09_Locate.f
  repeat' first
      | (with_reducible exact ih0 _ _ _ _ _ _ _ _ _ _ _ _ _)
      | (with_reducible exact ih1 _ _ _ _ _ _ _ _)
      | (with_reducible exact tapearchiveref09_Place.mono _ _ _ _ _ _ _ _)
      | (with_reducible exact LeO.refl _)
      | (with_reducible exact LeO.none _)
      | (with_reducible refine LeO.ite ?_ ?_)
      | (with_reducible refine LeO.bind ?_ (fun _ => ?_))
      | exact ih0 _ _ _ _ _ _ _ _ _ _ _ _ _
      | exact ih1 _ _ _ _ _ _ _ _
      | exact tapearchiveref09_Place.mono _ _ _ _ _ _ _ _
      | exact LeO.none _
      | refine LeO.ite ?_ ?_
      | refine LeO.bind ?_ (fun _ => ?_)
set_option maxHeartbeats 8000000 in
set_option maxRecDepth 100000 in
theorem tapearchiveref09_Locate.calls (k : Nat) (a0_0 : Int) (a0_1 : Int) (a0_2 : Int) (a0_3 : Int) (a0_4 : Int) (a0_5 : Int) (a1 : Int) (a2 : Int) (r : Int) (w : World) (h : tapearchiveref09_Locate.f k a0_0 a0_1 a0_2 a0_3 a0_4 a0_5 a1 a2 = some r) :
    Calls Try.prog 10 #[.agg #[.int .i64 a0_0, .int .i64 a0_1, .int .i64 a0_2, .int .i64 a0_3, .int .i64 a0_4, .int .i64 a0_5], .int .i64 a1, .int .i64 a2] w fun e w' => e = .returned (.int .i64 r) ∧ Below w.heap.size w w' := by
  have hu23 := Try.underlying23
  have hu32 := Try.underlying32
  have HB := Aside0.mk (Below.refl w.heap.size w)
  have H : ((tapearchiveref09_Place.f k a0_0 a0_1 a0_2 a0_3 a0_4 a0_5 a1).bind fun bt152 => ((tapearchiveref09_Place.f k a0_0 a0_1 a0_2 a0_3 a0_4 a0_5 a2).bind fun bt157 => (if bt152.2.2.2 = true then (if bt157.2.2.2 = true then (tapearchiveref09_Locate.j0 k (a1 == a2) a0_0 a0_1 a0_2 a0_3 a0_4 a0_5 bt152.1 bt152.2.1 bt152.2.2.1 bt157.1 bt157.2.1 bt157.2.2.1) else (tapearchiveref09_Locate.j0 k true a0_0 a0_1 a0_2 a0_3 a0_4 a0_5 bt152.1 bt152.2.1 bt152.2.2.1 bt157.1 bt157.2.1 bt157.2.2.1)) else (tapearchiveref09_Locate.j0 k true a0_0 a0_1 a0_2 a0_3 a0_4 a0_5 bt152.1 bt152.2.1 bt152.2.2.1 bt157.1 bt157.2.1 bt157.2.2.1)))) = some r := h
  clear h
  replace H := Option.bind_eq_some_iff.mp H
  obtain ⟨⟨t152, t153, t154, t155⟩, A40, H⟩ := H
  replace H : ((tapearchiveref09_Place.f k a0_0 a0_1 a0_2 a0_3 a0_4 a0_5 a2).bind fun bt157 => (if t155 = true then (if bt157.2.2.2 = true then (tapearchiveref09_Locate.j0 k (a1 == a2) a0_0 a0_1 a0_2 a0_3 a0_4 a0_5 t152 t153 t154 bt157.1 bt157.2.1 bt157.2.2.1) else (tapearchiveref09_Locate.j0 k true a0_0 a0_1 a0_2 a0_3 a0_4 a0_5 t152 t153 t154 bt157.1 bt157.2.1 bt157.2.2.1)) else (tapearchiveref09_Locate.j0 k true a0_0 a0_1 a0_2 a0_3 a0_4 a0_5 t152 t153 t154 bt157.1 bt157.2.1 bt157.2.2.1))) = some r := H
  have A4 := Aside0.mk A40
  clear A40
  replace H := Option.bind_eq_some_iff.mp H
  obtain ⟨⟨t157, t158, t159, t160⟩, A50, H⟩ := H
  replace H : (if t155 = true then (if t160 = true then (tapearchiveref09_Locate.j0 k (a1 == a2) a0_0 a0_1 a0_2 a0_3 a0_4 a0_5 t152 t153 t154 t157 t158 t159) else (tapearchiveref09_Locate.j0 k true a0_0 a0_1 a0_2 a0_3 a0_4 a0_5 t152 t153 t154 t157 t158 t159)) else (tapearchiveref09_Locate.j0 k true a0_0 a0_1 a0_2 a0_3 a0_4 a0_5 t152 t153 t154 t157 t158 t159)) = some r := H
  have A5 := Aside0.mk A50
  clear A50
  have HC6 := Aside0.mk H
  clear H
  go_enter Try.func10, Try.ntmps10
  go_upto_region 3 with (first | ((with_reducible refine gate_dst (N := 3) rfl ?_); refine box_event ?hg (N := 3) ?hd (cs := #[.int .i64 a0_0, .int .i64 a0_1, .int .i64 a0_2, .int .i64 a0_3, .int .i64 a0_4, .int .i64 a0_5]) (t := 23) ?hr ?_; (case hd => rfl); (case hg => rfl); (case hr => first | (go_simp; done) | (go_simp; rfl)); intro gb151 hg w7 hbox hb; have n0_ := Aside0.mk (below_step bB_ hb); have n1_ := Aside0.mk (hbox); have n2_ := Aside0.mk (gB_ hg (below_size bB_)); have n3_ := Aside0.mk (gB_ hg (below_size bB_)); clear HB; have HB := n0_; have BK151 := n1_; have GW151 := n2_; have GE151 := n3_; clear n0_ n1_ n2_ n3_; clear hb hbox hg; obtain ⟨hcz8_0, hcz8_1, hcz8_2, hcz8_3, hcz8_4, hcz8_5, hfz8_0, hfz8_1, hfz8_2, hfz8_3, hfz8_4, hfz8_5⟩ := cz6 BK151.out) | (go_at_call 23; (with_reducible refine (tapearchiveref09_Place.calls k a0_0 a0_1 a0_2 a0_3 a0_4 a0_5 a1 t152 t153 t154 t155 _ A4.out).mono ?_); rintro e w9 ⟨rfl, hb⟩; have n0_ := Aside0.mk (blk_below (kB_ BK151.out) hb); have n1_ := Aside0.mk (below_step bB_ hb); clear BK151; clear HB; have BK151 := n0_; have HB := n1_; clear n0_ n1_; (try clear hb); (try clear hb2); (try clear hk); (try clear hi)) | ((with_reducible refine gate_dst (N := 7) rfl ?_); refine box_event ?hg (N := 7) ?hd (cs := #[.int .i64 0, .int .i64 0, .bool false]) (t := 32) ?hr ?_; (case hd => rfl); (case hg => rfl); (case hr => first | (go_simp; done) | (go_simp; rfl)); intro gb156 hg w10 hbox hb; have n0_ := Aside0.mk (blk_below (kB_ BK151.out) hb); have n1_ := Aside0.mk (below_step bB_ hb); have n2_ := Aside0.mk (hbox); have n3_ := Aside0.mk (gB_ hg (below_size bB_)); have n4_ := Aside0.mk (gB_ hg (below_size bB_)); have n5_ := Aside0.mk ((by rw [hg]; exact Nat.ne_of_lt (blk_lt (kB_ BK151.out)) : gb151 ≠ gb156)); have n6_ := Aside0.mk ((by rw [hg]; exact Nat.ne_of_gt (blk_lt (kB_ BK151.out)) : gb156 ≠ gb151)); clear BK151; clear HB; have BK151 := n0_; have HB := n1_; have BK156 := n2_; have GW156 := n3_; have GE156 := n4_; have NB151_156 := n5_; have NB156_151 := n6_; clear n0_ n1_ n2_ n3_ n4_ n5_ n6_; clear hb hbox hg; have hnb11 := NB156_151.out; have hnc11 := NB151_156.out; obtain ⟨hcz12_0, hcz12_1, hcz12_2, hfz12_0, hfz12_1, hfz12_2⟩ := cz3 BK156.out; obtain ⟨hcz13_0, hcz13_1, hcz13_2, hcz13_3, hcz13_4, hcz13_5, hfz13_0, hfz13_1, hfz13_2, hfz13_3, hfz13_4, hfz13_5⟩ := cz6 BK151.out) | (go_at_call 23; (with_reducible refine (tapearchiveref09_Place.calls k a0_0 a0_1 a0_2 a0_3 a0_4 a0_5 a2 t157 t158 t159 t160 _ A5.out).mono ?_); rintro e w14 ⟨rfl, hb⟩; have n0_ := Aside0.mk (blk_below (g := gb151) (o := .cells #[.int .i64 a0_0, .int .i64 a0_1, .int .i64 a0_2, .int .i64 a0_3, .int .i64 a0_4, .int .i64 a0_5] 23 (0, 0)) (by (with_reducible repeat (first | refine blk_drewN ?_ _ | refine blk_drew ?_ | refine blk_alloc ?_ _)); refine blk_far ?_ NB151_156.out _; (with_reducible repeat (first | refine blk_drewN ?_ _ | refine blk_drew ?_ | refine blk_alloc ?_ _)); refine blk_far ?_ NB151_156.out _; (with_reducible repeat (first | refine blk_drewN ?_ _ | refine blk_drew ?_ | refine blk_alloc ?_ _)); refine blk_far ?_ NB151_156.out _; (with_reducible repeat (first | refine blk_drewN ?_ _ | refine blk_drew ?_ | refine blk_alloc ?_ _)); exact BK151.out) hb); have n1_ := Aside0.mk (blk_below (g := gb156) (o := .cells #[.int .i64 t152, .int .i64 t153, .bool t154] 32 (0, 0)) (by (with_reducible repeat (first | refine blk_drewN ?_ _ | refine blk_drew ?_ | refine blk_alloc ?_ _)); refine blk_put (cs := #[.int .i64 t152, .int .i64 t153, .bool false]) ?_ 2 _ rfl; (with_reducible repeat (first | refine blk_drewN ?_ _ | refine blk_drew ?_ | refine blk_alloc ?_ _)); refine blk_put (cs := #[.int .i64 t152, .int .i64 0, .bool false]) ?_ 1 _ rfl; (with_reducible repeat (first | refine blk_drewN ?_ _ | refine blk_drew ?_ | refine blk_alloc ?_ _)); refine blk_put (cs := #[.int .i64 0, .int .i64 0, .bool false]) ?_ 0 _ rfl; (with_reducible repeat (first | refine blk_drewN ?_ _ | refine blk_drew ?_ | refine blk_alloc ?_ _)); exact BK156.out) hb); have n2_ := Aside0.mk (below_step bB_ hb); clear BK151; clear BK156; clear HB; have BK151 := n0_; have BK156 := n1_; have HB := n2_; clear n0_ n1_ n2_; (try clear hb); (try clear hb2); (try clear hk); (try clear hi)) | ((with_reducible refine gate_dst (N := 9) rfl ?_); refine box_event ?hg (N := 9) ?hd (cs := #[.int .i64 0, .int .i64 0, .bool false]) (t := 32) ?hr ?_; (case hd => rfl); (case hg => rfl); (case hr => first | (go_simp; done) | (go_simp; rfl)); intro gb161 hg w15 hbox hb; have n0_ := Aside0.mk (blk_below (kB_ BK151.out) hb); have n1_ := Aside0.mk (blk_below (kB_ BK156.out) hb); have n2_ := Aside0.mk (below_step bB_ hb); have n3_ := Aside0.mk (hbox); have n4_ := Aside0.mk (gB_ hg (below_size bB_)); have n5_ := Aside0.mk (gB_ hg (below_size bB_)); have n6_ := Aside0.mk ((by rw [hg]; exact Nat.ne_of_lt (blk_lt (kB_ BK151.out)) : gb151 ≠ gb161)); have n7_ := Aside0.mk ((by rw [hg]; exact Nat.ne_of_gt (blk_lt (kB_ BK151.out)) : gb161 ≠ gb151)); have n8_ := Aside0.mk ((by rw [hg]; exact Nat.ne_of_lt (blk_lt (kB_ BK156.out)) : gb156 ≠ gb161)); have n9_ := Aside0.mk ((by rw [hg]; exact Nat.ne_of_gt (blk_lt (kB_ BK156.out)) : gb161 ≠ gb156)); clear BK151; clear BK156; clear HB; have BK151 := n0_; have BK156 := n1_; have HB := n2_; have BK161 := n3_; have GW161 := n4_; have GE161 := n5_; have NB151_161 := n6_; have NB161_151 := n7_; have NB156_161 := n8_; have NB161_156 := n9_; clear n0_ n1_ n2_ n3_ n4_ n5_ n6_ n7_ n8_ n9_; clear hb hbox hg; have hnb16 := NB161_151.out; have hnc16 := NB151_161.out; have hnb17 := NB161_156.out; have hnc17 := NB156_161.out; obtain ⟨hcz18_0, hcz18_1, hcz18_2, hfz18_0, hfz18_1, hfz18_2⟩ := cz3 BK161.out))
  repeat (go_quiet (first | ((with_reducible refine gate_dst (N := 3) rfl ?_); refine box_event ?hg (N := 3) ?hd (cs := #[.int .i64 a0_0, .int .i64 a0_1, .int .i64 a0_2, .int .i64 a0_3, .int .i64 a0_4, .int .i64 a0_5]) (t := 23) ?hr ?_; (case hd => rfl); (case hg => rfl); (case hr => first | (go_simp; done) | (go_simp; rfl)); intro gb151 hg w7 hbox hb; have n0_ := Aside0.mk (below_step bB_ hb); have n1_ := Aside0.mk (hbox); have n2_ := Aside0.mk (gB_ hg (below_size bB_)); have n3_ := Aside0.mk (gB_ hg (below_size bB_)); clear HB; have HB := n0_; have BK151 := n1_; have GW151 := n2_; have GE151 := n3_; clear n0_ n1_ n2_ n3_; clear hb hbox hg; obtain ⟨hcz8_0, hcz8_1, hcz8_2, hcz8_3, hcz8_4, hcz8_5, hfz8_0, hfz8_1, hfz8_2, hfz8_3, hfz8_4, hfz8_5⟩ := cz6 BK151.out) | (go_at_call 23; (with_reducible refine (tapearchiveref09_Place.calls k a0_0 a0_1 a0_2 a0_3 a0_4 a0_5 a1 t152 t153 t154 t155 _ A4.out).mono ?_); rintro e w9 ⟨rfl, hb⟩; have n0_ := Aside0.mk (blk_below (kB_ BK151.out) hb); have n1_ := Aside0.mk (below_step bB_ hb); clear BK151; clear HB; have BK151 := n0_; have HB := n1_; clear n0_ n1_; (try clear hb); (try clear hb2); (try clear hk); (try clear hi)) | ((with_reducible refine gate_dst (N := 7) rfl ?_); refine box_event ?hg (N := 7) ?hd (cs := #[.int .i64 0, .int .i64 0, .bool false]) (t := 32) ?hr ?_; (case hd => rfl); (case hg => rfl); (case hr => first | (go_simp; done) | (go_simp; rfl)); intro gb156 hg w10 hbox hb; have n0_ := Aside0.mk (blk_below (kB_ BK151.out) hb); have n1_ := Aside0.mk (below_step bB_ hb); have n2_ := Aside0.mk (hbox); have n3_ := Aside0.mk (gB_ hg (below_size bB_)); have n4_ := Aside0.mk (gB_ hg (below_size bB_)); have n5_ := Aside0.mk ((by rw [hg]; exact Nat.ne_of_lt (blk_lt (kB_ BK151.out)) : gb151 ≠ gb156)); have n6_ := Aside0.mk ((by rw [hg]; exact Nat.ne_of_gt (blk_lt (kB_ BK151.out)) : gb156 ≠ gb151)); clear BK151; clear HB; have BK151 := n0_; have HB := n1_; have BK156 := n2_; have GW156 := n3_; have GE156 := n4_; have NB151_156 := n5_; have NB156_151 := n6_; clear n0_ n1_ n2_ n3_ n4_ n5_ n6_; clear hb hbox hg; have hnb11 := NB156_151.out; have hnc11 := NB151_156.out; obtain ⟨hcz12_0, hcz12_1, hcz12_2, hfz12_0, hfz12_1, hfz12_2⟩ := cz3 BK156.out; obtain ⟨hcz13_0, hcz13_1, hcz13_2, hcz13_3, hcz13_4, hcz13_5, hfz13_0, hfz13_1, hfz13_2, hfz13_3, hfz13_4, hfz13_5⟩ := cz6 BK151.out) | (go_at_call 23; (with_reducible refine (tapearchiveref09_Place.calls k a0_0 a0_1 a0_2 a0_3 a0_4 a0_5 a2 t157 t158 t159 t160 _ A5.out).mono ?_); rintro e w14 ⟨rfl, hb⟩; have n0_ := Aside0.mk (blk_below (g := gb151) (o := .cells #[.int .i64 a0_0, .int .i64 a0_1, .int .i64 a0_2, .int .i64 a0_3, .int .i64 a0_4, .int .i64 a0_5] 23 (0, 0)) (by (with_reducible repeat (first | refine blk_drewN ?_ _ | refine blk_drew ?_ | refine blk_alloc ?_ _)); refine blk_far ?_ NB151_156.out _; (with_reducible repeat (first | refine blk_drewN ?_ _ | refine blk_drew ?_ | refine blk_alloc ?_ _)); refine blk_far ?_ NB151_156.out _; (with_reducible repeat (first | refine blk_drewN ?_ _ | refine blk_drew ?_ | refine blk_alloc ?_ _)); refine blk_far ?_ NB151_156.out _; (with_reducible repeat (first | refine blk_drewN ?_ _ | refine blk_drew ?_ | refine blk_alloc ?_ _)); exact BK151.out) hb); have n1_ := Aside0.mk (blk_below (g := gb156) (o := .cells #[.int .i64 t152, .int .i64 t153, .bool t154] 32 (0, 0)) (by (with_reducible repeat (first | refine blk_drewN ?_ _ | refine blk_drew ?_ | refine blk_alloc ?_ _)); refine blk_put (cs := #[.int .i64 t152, .int .i64 t153, .bool false]) ?_ 2 _ rfl; (with_reducible repeat (first | refine blk_drewN ?_ _ | refine blk_drew ?_ | refine blk_alloc ?_ _)); refine blk_put (cs := #[.int .i64 t152, .int .i64 0, .bool false]) ?_ 1 _ rfl; (with_reducible repeat (first | refine blk_drewN ?_ _ | refine blk_drew ?_ | refine blk_alloc ?_ _)); refine blk_put (cs := #[.int .i64 0, .int .i64 0, .bool false]) ?_ 0 _ rfl; (with_reducible repeat (first | refine blk_drewN ?_ _ | refine blk_drew ?_ | refine blk_alloc ?_ _)); exact BK156.out) hb); have n2_ := Aside0.mk (below_step bB_ hb); clear BK151; clear BK156; clear HB; have BK151 := n0_; have BK156 := n1_; have HB := n2_; clear n0_ n1_ n2_; (try clear hb); (try clear hb2); (try clear hk); (try clear hi)) | ((with_reducible refine gate_dst (N := 9) rfl ?_); refine box_event ?hg (N := 9) ?hd (cs := #[.int .i64 0, .int .i64 0, .bool false]) (t := 32) ?hr ?_; (case hd => rfl); (case hg => rfl); (case hr => first | (go_simp; done) | (go_simp; rfl)); intro gb161 hg w15 hbox hb; have n0_ := Aside0.mk (blk_below (kB_ BK151.out) hb); have n1_ := Aside0.mk (blk_below (kB_ BK156.out) hb); have n2_ := Aside0.mk (below_step bB_ hb); have n3_ := Aside0.mk (hbox); have n4_ := Aside0.mk (gB_ hg (below_size bB_)); have n5_ := Aside0.mk (gB_ hg (below_size bB_)); have n6_ := Aside0.mk ((by rw [hg]; exact Nat.ne_of_lt (blk_lt (kB_ BK151.out)) : gb151 ≠ gb161)); have n7_ := Aside0.mk ((by rw [hg]; exact Nat.ne_of_gt (blk_lt (kB_ BK151.out)) : gb161 ≠ gb151)); have n8_ := Aside0.mk ((by rw [hg]; exact Nat.ne_of_lt (blk_lt (kB_ BK156.out)) : gb156 ≠ gb161)); have n9_ := Aside0.mk ((by rw [hg]; exact Nat.ne_of_gt (blk_lt (kB_ BK156.out)) : gb161 ≠ gb156)); clear BK151; clear BK156; clear HB; have BK151 := n0_; have BK156 := n1_; have HB := n2_; have BK161 := n3_; have GW161 := n4_; have GE161 := n5_; have NB151_161 := n6_; have NB161_151 := n7_; have NB156_161 := n8_; have NB161_156 := n9_; clear n0_ n1_ n2_ n3_ n4_ n5_ n6_ n7_ n8_ n9_; clear hb hbox hg; have hnb16 := NB161_151.out; have hnc16 := NB151_161.out; have hnb17 := NB161_156.out; have hnc17 := NB156_161.out; obtain ⟨hcz18_0, hcz18_1, hcz18_2, hfz18_0, hfz18_1, hfz18_2⟩ := cz3 BK161.out)); go_upto_region 3 with (first | ((with_reducible refine gate_dst (N := 3) rfl ?_); refine box_event ?hg (N := 3) ?hd (cs := #[.int .i64 a0_0, .int .i64 a0_1, .int .i64 a0_2, .int .i64 a0_3, .int .i64 a0_4, .int .i64 a0_5]) (t := 23) ?hr ?_; (case hd => rfl); (case hg => rfl); (case hr => first | (go_simp; done) | (go_simp; rfl)); intro gb151 hg w7 hbox hb; have n0_ := Aside0.mk (below_step bB_ hb); have n1_ := Aside0.mk (hbox); have n2_ := Aside0.mk (gB_ hg (below_size bB_)); have n3_ := Aside0.mk (gB_ hg (below_size bB_)); clear HB; have HB := n0_; have BK151 := n1_; have GW151 := n2_; have GE151 := n3_; clear n0_ n1_ n2_ n3_; clear hb hbox hg; obtain ⟨hcz8_0, hcz8_1, hcz8_2, hcz8_3, hcz8_4, hcz8_5, hfz8_0, hfz8_1, hfz8_2, hfz8_3, hfz8_4, hfz8_5⟩ := cz6 BK151.out) | (go_at_call 23; (with_reducible refine (tapearchiveref09_Place.calls k a0_0 a0_1 a0_2 a0_3 a0_4 a0_5 a1 t152 t153 t154 t155 _ A4.out).mono ?_); rintro e w9 ⟨rfl, hb⟩; have n0_ := Aside0.mk (blk_below (kB_ BK151.out) hb); have n1_ := Aside0.mk (below_step bB_ hb); clear BK151; clear HB; have BK151 := n0_; have HB := n1_; clear n0_ n1_; (try clear hb); (try clear hb2); (try clear hk); (try clear hi)) | ((with_reducible refine gate_dst (N := 7) rfl ?_); refine box_event ?hg (N := 7) ?hd (cs := #[.int .i64 0, .int .i64 0, .bool false]) (t := 32) ?hr ?_; (case hd => rfl); (case hg => rfl); (case hr => first | (go_simp; done) | (go_simp; rfl)); intro gb156 hg w10 hbox hb; have n0_ := Aside0.mk (blk_below (kB_ BK151.out) hb); have n1_ := Aside0.mk (below_step bB_ hb); have n2_ := Aside0.mk (hbox); have n3_ := Aside0.mk (gB_ hg (below_size bB_)); have n4_ := Aside0.mk (gB_ hg (below_size bB_)); have n5_ := Aside0.mk ((by rw [hg]; exact Nat.ne_of_lt (blk_lt (kB_ BK151.out)) : gb151 ≠ gb156)); have n6_ := Aside0.mk ((by rw [hg]; exact Nat.ne_of_gt (blk_lt (kB_ BK151.out)) : gb156 ≠ gb151)); clear BK151; clear HB; have BK151 := n0_; have HB := n1_; have BK156 := n2_; have GW156 := n3_; have GE156 := n4_; have NB151_156 := n5_; have NB156_151 := n6_; clear n0_ n1_ n2_ n3_ n4_ n5_ n6_; clear hb hbox hg; have hnb11 := NB156_151.out; have hnc11 := NB151_156.out; obtain ⟨hcz12_0, hcz12_1, hcz12_2, hfz12_0, hfz12_1, hfz12_2⟩ := cz3 BK156.out; obtain ⟨hcz13_0, hcz13_1, hcz13_2, hcz13_3, hcz13_4, hcz13_5, hfz13_0, hfz13_1, hfz13_2, hfz13_3, hfz13_4, hfz13_5⟩ := cz6 BK151.out) | (go_at_call 23; (with_reducible refine (tapearchiveref09_Place.calls k a0_0 a0_1 a0_2 a0_3 a0_4 a0_5 a2 t157 t158 t159 t160 _ A5.out).mono ?_); rintro e w14 ⟨rfl, hb⟩; have n0_ := Aside0.mk (blk_below (g := gb151) (o := .cells #[.int .i64 a0_0, .int .i64 a0_1, .int .i64 a0_2, .int .i64 a0_3, .int .i64 a0_4, .int .i64 a0_5] 23 (0, 0)) (by (with_reducible repeat (first | refine blk_drewN ?_ _ | refine blk_drew ?_ | refine blk_alloc ?_ _)); refine blk_far ?_ NB151_156.out _; (with_reducible repeat (first | refine blk_drewN ?_ _ | refine blk_drew ?_ | refine blk_alloc ?_ _)); refine blk_far ?_ NB151_156.out _; (with_reducible repeat (first | refine blk_drewN ?_ _ | refine blk_drew ?_ | refine blk_alloc ?_ _)); refine blk_far ?_ NB151_156.out _; (with_reducible repeat (first | refine blk_drewN ?_ _ | refine blk_drew ?_ | refine blk_alloc ?_ _)); exact BK151.out) hb); have n1_ := Aside0.mk (blk_below (g := gb156) (o := .cells #[.int .i64 t152, .int .i64 t153, .bool t154] 32 (0, 0)) (by (with_reducible repeat (first | refine blk_drewN ?_ _ | refine blk_drew ?_ | refine blk_alloc ?_ _)); refine blk_put (cs := #[.int .i64 t152, .int .i64 t153, .bool false]) ?_ 2 _ rfl; (with_reducible repeat (first | refine blk_drewN ?_ _ | refine blk_drew ?_ | refine blk_alloc ?_ _)); refine blk_put (cs := #[.int .i64 t152, .int .i64 0, .bool false]) ?_ 1 _ rfl; (with_reducible repeat (first | refine blk_drewN ?_ _ | refine blk_drew ?_ | refine blk_alloc ?_ _)); refine blk_put (cs := #[.int .i64 0, .int .i64 0, .bool false]) ?_ 0 _ rfl; (with_reducible repeat (first | refine blk_drewN ?_ _ | refine blk_drew ?_ | refine blk_alloc ?_ _)); exact BK156.out) hb); have n2_ := Aside0.mk (below_step bB_ hb); clear BK151; clear BK156; clear HB; have BK151 := n0_; have BK156 := n1_; have HB := n2_; clear n0_ n1_ n2_; (try clear hb); (try clear hb2); (try clear hk); (try clear hi)) | ((with_reducible refine gate_dst (N := 9) rfl ?_); refine box_event ?hg (N := 9) ?hd (cs := #[.int .i64 0, .int .i64 0, .bool false]) (t := 32) ?hr ?_; (case hd => rfl); (case hg => rfl); (case hr => first | (go_simp; done) | (go_simp; rfl)); intro gb161 hg w15 hbox hb; have n0_ := Aside0.mk (blk_below (kB_ BK151.out) hb); have n1_ := Aside0.mk (blk_below (kB_ BK156.out) hb); have n2_ := Aside0.mk (below_step bB_ hb); have n3_ := Aside0.mk (hbox); have n4_ := Aside0.mk (gB_ hg (below_size bB_)); have n5_ := Aside0.mk (gB_ hg (below_size bB_)); have n6_ := Aside0.mk ((by rw [hg]; exact Nat.ne_of_lt (blk_lt (kB_ BK151.out)) : gb151 ≠ gb161)); have n7_ := Aside0.mk ((by rw [hg]; exact Nat.ne_of_gt (blk_lt (kB_ BK151.out)) : gb161 ≠ gb151)); have n8_ := Aside0.mk ((by rw [hg]; exact Nat.ne_of_lt (blk_lt (kB_ BK156.out)) : gb156 ≠ gb161)); have n9_ := Aside0.mk ((by rw [hg]; exact Nat.ne_of_gt (blk_lt (kB_ BK156.out)) : gb161 ≠ gb156)); clear BK151; clear BK156; clear HB; have BK151 := n0_; have BK156 := n1_; have HB := n2_; have BK161 := n3_; have GW161 := n4_; have GE161 := n5_; have NB151_161 := n6_; have NB161_151 := n7_; have NB156_161 := n8_; have NB161_156 := n9_; clear n0_ n1_ n2_ n3_ n4_ n5_ n6_ n7_ n8_ n9_; clear hb hbox hg; have hnb16 := NB161_151.out; have hnc16 := NB151_161.out; have hnb17 := NB161_156.out; have hnc17 := NB156_161.out; obtain ⟨hcz18_0, hcz18_1, hcz18_2, hfz18_0, hfz18_1, hfz18_2⟩ := cz3 BK161.out)))
  (try simp only [Act.put, List.setIfInBounds_toArray, List.set_cons_zero, List.set_cons_succ])
  go_cut [35] (fun v35 wc => ∃ (kq : Nat) (x35_5 : Bool), v35 = .bool x35_5 ∧ Aside0 (tapearchiveref09_Locate.j0 kq x35_5 a0_0 a0_1 a0_2 a0_3 a0_4 a0_5 t152 t153 t154 t157 t158 t159 = some r) ∧ Aside0 (kq ≤ k) ∧ Aside0 (wc.heap[gb151]? = some (.cells #[.int .i64 a0_0, .int .i64 a0_1, .int .i64 a0_2, .int .i64 a0_3, .int .i64 a0_4, .int .i64 a0_5] 23 (0, 0))) ∧ Aside0 (wc.heap[gb156]? = some (.cells #[.int .i64 t152, .int .i64 t153, .bool t154] 32 (0, 0))) ∧ Aside0 (wc.heap[gb161]? = some (.cells #[.int .i64 t157, .int .i64 t158, .bool t159] 32 (0, 0))) ∧ Aside0 (Below w.heap.size w wc))
  case first =>
    have H := HC6.out
    clear HC6
    by_cases c19 : t155 = true
    · subst c19
      have H1 : (if t160 = true then (tapearchiveref09_Locate.j0 k (a1 == a2) a0_0 a0_1 a0_2 a0_3 a0_4 a0_5 t152 t153 t154 t157 t158 t159) else (tapearchiveref09_Locate.j0 k true a0_0 a0_1 a0_2 a0_3 a0_4 a0_5 t152 t153 t154 t157 t158 t159)) = some r := by rw [if_pos rfl] at H; exact H
      clear H
      have H := H1
      clear H1
      by_cases c20 : t160 = true
      · subst c20
        have H1 : (tapearchiveref09_Locate.j0 k (a1 == a2) a0_0 a0_1 a0_2 a0_3 a0_4 a0_5 t152 t153 t154 t157 t158 t159) = some r := by rw [if_pos rfl] at H; exact H
        clear H
        have H := H1
        clear H1
        have H' := Aside0.mk H
        clear H
        go_wp2
        repeat (go_quiet (fail); try go_wp2)
        go_meet
        case rel => exact ⟨_, ((a1 == a2)), (by first | rfl | (simp; done) | (simp [*]; done)), H', ⟨by first | omega | exact Nat.le_refl _⟩, ⟨by (with_reducible repeat (first | refine blk_drewN ?_ _ | refine blk_drew ?_ | refine blk_alloc ?_ _)); refine blk_far ?_ NB151_161.out _; (with_reducible repeat (first | refine blk_drewN ?_ _ | refine blk_drew ?_ | refine blk_alloc ?_ _)); refine blk_far ?_ NB151_161.out _; (with_reducible repeat (first | refine blk_drewN ?_ _ | refine blk_drew ?_ | refine blk_alloc ?_ _)); refine blk_far ?_ NB151_161.out _; (with_reducible repeat (first | refine blk_drewN ?_ _ | refine blk_drew ?_ | refine blk_alloc ?_ _)); exact BK151.out⟩, ⟨by (with_reducible repeat (first | refine blk_drewN ?_ _ | refine blk_drew ?_ | refine blk_alloc ?_ _)); refine blk_far ?_ NB156_161.out _; (with_reducible repeat (first | refine blk_drewN ?_ _ | refine blk_drew ?_ | refine blk_alloc ?_ _)); refine blk_far ?_ NB156_161.out _; (with_reducible repeat (first | refine blk_drewN ?_ _ | refine blk_drew ?_ | refine blk_alloc ?_ _)); refine blk_far ?_ NB156_161.out _; (with_reducible repeat (first | refine blk_drewN ?_ _ | refine blk_drew ?_ | refine blk_alloc ?_ _)); exact BK156.out⟩, ⟨by (with_reducible repeat (first | refine blk_drewN ?_ _ | refine blk_drew ?_ | refine blk_alloc ?_ _)); refine blk_put (cs := #[.int .i64 t157, .int .i64 t158, .bool false]) ?_ 2 _ rfl; (with_reducible repeat (first | refine blk_drewN ?_ _ | refine blk_drew ?_ | refine blk_alloc ?_ _)); refine blk_put (cs := #[.int .i64 t157, .int .i64 0, .bool false]) ?_ 1 _ rfl; (with_reducible repeat (first | refine blk_drewN ?_ _ | refine blk_drew ?_ | refine blk_alloc ?_ _)); refine blk_put (cs := #[.int .i64 0, .int .i64 0, .bool false]) ?_ 0 _ rfl; (with_reducible repeat (first | refine blk_drewN ?_ _ | refine blk_drew ?_ | refine blk_alloc ?_ _)); exact BK161.out⟩, ⟨bB_⟩⟩
      · replace c20 := Bool.eq_false_iff.mpr c20
        subst c20
        have H1 : (tapearchiveref09_Locate.j0 k true a0_0 a0_1 a0_2 a0_3 a0_4 a0_5 t152 t153 t154 t157 t158 t159) = some r := by rw [if_neg (show ¬ (false = true) by decide)] at H; exact H
        clear H
        have H := H1
        clear H1
        have H' := Aside0.mk H
        clear H
        go_wp2
        repeat (go_quiet (fail); try go_wp2)
        go_meet
        case rel => exact ⟨_, (true), (by first | rfl | (simp; done) | (simp [*]; done)), H', ⟨by first | omega | exact Nat.le_refl _⟩, ⟨by (with_reducible repeat (first | refine blk_drewN ?_ _ | refine blk_drew ?_ | refine blk_alloc ?_ _)); refine blk_far ?_ NB151_161.out _; (with_reducible repeat (first | refine blk_drewN ?_ _ | refine blk_drew ?_ | refine blk_alloc ?_ _)); refine blk_far ?_ NB151_161.out _; (with_reducible repeat (first | refine blk_drewN ?_ _ | refine blk_drew ?_ | refine blk_alloc ?_ _)); refine blk_far ?_ NB151_161.out _; (with_reducible repeat (first | refine blk_drewN ?_ _ | refine blk_drew ?_ | refine blk_alloc ?_ _)); exact BK151.out⟩, ⟨by (with_reducible repeat (first | refine blk_drewN ?_ _ | refine blk_drew ?_ | refine blk_alloc ?_ _)); refine blk_far ?_ NB156_161.out _; (with_reducible repeat (first | refine blk_drewN ?_ _ | refine blk_drew ?_ | refine blk_alloc ?_ _)); refine blk_far ?_ NB156_161.out _; (with_reducible repeat (first | refine blk_drewN ?_ _ | refine blk_drew ?_ | refine blk_alloc ?_ _)); refine blk_far ?_ NB156_161.out _; (with_reducible repeat (first | refine blk_drewN ?_ _ | refine blk_drew ?_ | refine blk_alloc ?_ _)); exact BK156.out⟩, ⟨by (with_reducible repeat (first | refine blk_drewN ?_ _ | refine blk_drew ?_ | refine blk_alloc ?_ _)); refine blk_put (cs := #[.int .i64 t157, .int .i64 t158, .bool false]) ?_ 2 _ rfl; (with_reducible repeat (first | refine blk_drewN ?_ _ | refine blk_drew ?_ | refine blk_alloc ?_ _)); refine blk_put (cs := #[.int .i64 t157, .int .i64 0, .bool false]) ?_ 1 _ rfl; (with_reducible repeat (first | refine blk_drewN ?_ _ | refine blk_drew ?_ | refine blk_alloc ?_ _)); refine blk_put (cs := #[.int .i64 0, .int .i64 0, .bool false]) ?_ 0 _ rfl; (with_reducible repeat (first | refine blk_drewN ?_ _ | refine blk_drew ?_ | refine blk_alloc ?_ _)); exact BK161.out⟩, ⟨bB_⟩⟩
    · replace c19 := Bool.eq_false_iff.mpr c19
      subst c19
      have H1 : (tapearchiveref09_Locate.j0 k true a0_0 a0_1 a0_2 a0_3 a0_4 a0_5 t152 t153 t154 t157 t158 t159) = some r := by rw [if_neg (show ¬ (false = true) by decide)] at H; exact H
      clear H
      have H := H1
      clear H1
      have H' := Aside0.mk H
      clear H
      go_wp2
      repeat (go_quiet (fail); try go_wp2)
      go_meet
      case rel => exact ⟨_, (true), (by first | rfl | (simp; done) | (simp [*]; done)), H', ⟨by first | omega | exact Nat.le_refl _⟩, ⟨by (with_reducible repeat (first | refine blk_drewN ?_ _ | refine blk_drew ?_ | refine blk_alloc ?_ _)); refine blk_far ?_ NB151_161.out _; (with_reducible repeat (first | refine blk_drewN ?_ _ | refine blk_drew ?_ | refine blk_alloc ?_ _)); refine blk_far ?_ NB151_161.out _; (with_reducible repeat (first | refine blk_drewN ?_ _ | refine blk_drew ?_ | refine blk_alloc ?_ _)); refine blk_far ?_ NB151_161.out _; (with_reducible repeat (first | refine blk_drewN ?_ _ | refine blk_drew ?_ | refine blk_alloc ?_ _)); exact BK151.out⟩, ⟨by (with_reducible repeat (first | refine blk_drewN ?_ _ | refine blk_drew ?_ | refine blk_alloc ?_ _)); refine blk_far ?_ NB156_161.out _; (with_reducible repeat (first | refine blk_drewN ?_ _ | refine blk_drew ?_ | refine blk_alloc ?_ _)); refine blk_far ?_ NB156_161.out _; (with_reducible repeat (first | refine blk_drewN ?_ _ | refine blk_drew ?_ | refine blk_alloc ?_ _)); refine blk_far ?_ NB156_161.out _; (with_reducible repeat (first | refine blk_drewN ?_ _ | refine blk_drew ?_ | refine blk_alloc ?_ _)); exact BK156.out⟩, ⟨by (with_reducible repeat (first | refine blk_drewN ?_ _ | refine blk_drew ?_ | refine blk_alloc ?_ _)); refine blk_put (cs := #[.int .i64 t157, .int .i64 t158, .bool false]) ?_ 2 _ rfl; (with_reducible repeat (first | refine blk_drewN ?_ _ | refine blk_drew ?_ | refine blk_alloc ?_ _)); refine blk_put (cs := #[.int .i64 t157, .int .i64 0, .bool false]) ?_ 1 _ rfl; (with_reducible repeat (first | refine blk_drewN ?_ _ | refine blk_drew ?_ | refine blk_alloc ?_ _)); refine blk_put (cs := #[.int .i64 0, .int .i64 0, .bool false]) ?_ 0 _ rfl; (with_reducible repeat (first | refine blk_drewN ?_ _ | refine blk_drew ?_ | refine blk_alloc ?_ _)); exact BK161.out⟩, ⟨bB_⟩⟩
  case rest =>
    clear HC6
    try clear c1
    try clear c2
    try clear p2
    try clear c10
    try clear c11
    try clear c16
    try clear c17
    try clear c19
    try clear c20
    try clear hcz12_0
    try clear hcz12_1
    try clear hcz12_2
    try clear hcz13_0
    try clear hcz13_1
    try clear hcz13_2
    try clear hcz13_3
    try clear hcz13_4
    try clear hcz13_5
    try clear hcz18_0
    try clear hcz18_1
    try clear hcz18_2
    try clear hcz8_0
    try clear hcz8_1
    try clear hcz8_2
    try clear hcz8_3
    try clear hcz8_4
    try clear hcz8_5
    try clear hfz12_0
    try clear hfz12_1
    try clear hfz12_2
    try clear hfz13_0
    try clear hfz13_1
    try clear hfz13_2
    try clear hfz13_3
    try clear hfz13_4
    try clear hfz13_5
    try clear hfz18_0
    try clear hfz18_1
    try clear hfz18_2
    try clear hfz8_0
    try clear hfz8_1
    try clear hfz8_2
    try clear hfz8_3
    try clear hfz8_4
    try clear hfz8_5
    obtain ⟨kq, x35_5, rfl, HA, HJ5, BK151, BK156, BK161, HB⟩ := hcut
    cases kq with
    | zero => exact absurd HA.out (by simp [tapearchiveref09_Locate.j0])
    | succ kj5 =>
      have H := HA.out
      clear HA
      simp only [tapearchiveref09_Locate.j0] at H
      by_cases c21 : x35_5 = true
      · subst c21
        have H1 : (some 0) = some r := by rw [if_pos rfl] at H; exact H
        clear H
        have H := H1
        clear H1
        obtain rfl := Option.some.inj H
        go_wp2
        repeat (go_quiet (fail); try go_wp2)
        go_ret
        exact ⟨by first | rfl | (simp [errW_none, errW_some] <;> rfl) | (simp [*, errW_none, errW_some] <;> rfl), bB_⟩
      · replace c21 := Bool.eq_false_iff.mpr c21
        subst c21
        have H1 : ((tapearchiveref09_size.f (wrap64 (t158 - t153))).bind fun t162 => ((tapearchiveref09_size.f (wrap64 (t157 - t152))).bind fun t163 => (if (wrap64 (t158 - t153)) > 0 then (if t159 = true then (tapearchiveref09_Locate.j1 kj5 (wrap64 ((wrap64 (a0_2 * t162)) + (wrap64 (a0_4 * t163)))) true a0_0 a0_1 a0_2 a0_3 a0_4 a0_5) else (if (wrap64 (t158 - t153)) < 0 then (tapearchiveref09_Locate.j1 kj5 (wrap64 ((wrap64 (a0_2 * t162)) + (wrap64 (a0_4 * t163)))) true a0_0 a0_1 a0_2 a0_3 a0_4 a0_5) else (if (wrap64 (t158 - t153)) = 0 then (tapearchiveref09_Locate.j1 kj5 (wrap64 ((wrap64 (a0_2 * t162)) + (wrap64 (a0_4 * t163)))) (t154 != t159) a0_0 a0_1 a0_2 a0_3 a0_4 a0_5) else (tapearchiveref09_Locate.j1 kj5 (wrap64 ((wrap64 (a0_2 * t162)) + (wrap64 (a0_4 * t163)))) false a0_0 a0_1 a0_2 a0_3 a0_4 a0_5)))) else (if (wrap64 (t158 - t153)) < 0 then (if t159 = true then (if (wrap64 (t158 - t153)) = 0 then (tapearchiveref09_Locate.j1 kj5 (wrap64 ((wrap64 (a0_2 * t162)) + (wrap64 (a0_4 * t163)))) (t154 != t159) a0_0 a0_1 a0_2 a0_3 a0_4 a0_5) else (tapearchiveref09_Locate.j1 kj5 (wrap64 ((wrap64 (a0_2 * t162)) + (wrap64 (a0_4 * t163)))) false a0_0 a0_1 a0_2 a0_3 a0_4 a0_5)) else (tapearchiveref09_Locate.j1 kj5 (wrap64 ((wrap64 (a0_2 * t162)) + (wrap64 (a0_4 * t163)))) true a0_0 a0_1 a0_2 a0_3 a0_4 a0_5)) else (if (wrap64 (t158 - t153)) = 0 then (tapearchiveref09_Locate.j1 kj5 (wrap64 ((wrap64 (a0_2 * t162)) + (wrap64 (a0_4 * t163)))) (t154 != t159) a0_0 a0_1 a0_2 a0_3 a0_4 a0_5) else (tapearchiveref09_Locate.j1 kj5 (wrap64 ((wrap64 (a0_2 * t162)) + (wrap64 (a0_4 * t163)))) false a0_0 a0_1 a0_2 a0_3 a0_4 a0_5)))))) = some r := by rw [if_neg (show ¬ (false = true) by decide)] at H; exact H
        clear H
        have H := H1
        clear H1
        replace H := Option.bind_eq_some_iff.mp H
        obtain ⟨t162, A220, H⟩ := H
        replace H : ((tapearchiveref09_size.f (wrap64 (t157 - t152))).bind fun t163 => (if (wrap64 (t158 - t153)) > 0 then (if t159 = true then (tapearchiveref09_Locate.j1 kj5 (wrap64 ((wrap64 (a0_2 * t162)) + (wrap64 (a0_4 * t163)))) true a0_0 a0_1 a0_2 a0_3 a0_4 a0_5) else (if (wrap64 (t158 - t153)) < 0 then (tapearchiveref09_Locate.j1 kj5 (wrap64 ((wrap64 (a0_2 * t162)) + (wrap64 (a0_4 * t163)))) true a0_0 a0_1 a0_2 a0_3 a0_4 a0_5) else (if (wrap64 (t158 - t153)) = 0 then (tapearchiveref09_Locate.j1 kj5 (wrap64 ((wrap64 (a0_2 * t162)) + (wrap64 (a0_4 * t163)))) (t154 != t159) a0_0 a0_1 a0_2 a0_3 a0_4 a0_5) else (tapearchiveref09_Locate.j1 kj5 (wrap64 ((wrap64 (a0_2 * t162)) + (wrap64 (a0_4 * t163)))) false a0_0 a0_1 a0_2 a0_3 a0_4 a0_5)))) else (if (wrap64 (t158 - t153)) < 0 then (if t159 = true then (if (wrap64 (t158 - t153)) = 0 then (tapearchiveref09_Locate.j1 kj5 (wrap64 ((wrap64 (a0_2 * t162)) + (wrap64 (a0_4 * t163)))) (t154 != t159) a0_0 a0_1 a0_2 a0_3 a0_4 a0_5) else (tapearchiveref09_Locate.j1 kj5 (wrap64 ((wrap64 (a0_2 * t162)) + (wrap64 (a0_4 * t163)))) false a0_0 a0_1 a0_2 a0_3 a0_4 a0_5)) else (tapearchiveref09_Locate.j1 kj5 (wrap64 ((wrap64 (a0_2 * t162)) + (wrap64 (a0_4 * t163)))) true a0_0 a0_1 a0_2 a0_3 a0_4 a0_5)) else (if (wrap64 (t158 - t153)) = 0 then (tapearchiveref09_Locate.j1 kj5 (wrap64 ((wrap64 (a0_2 * t162)) + (wrap64 (a0_4 * t163)))) (t154 != t159) a0_0 a0_1 a0_2 a0_3 a0_4 a0_5) else (tapearchiveref09_Locate.j1 kj5 (wrap64 ((wrap64 (a0_2 * t162)) + (wrap64 (a0_4 * t163)))) false a0_0 a0_1 a0_2 a0_3 a0_4 a0_5))))) = some r := H
        have A22 := Aside0.mk A220
        clear A220
        replace H := Option.bind_eq_some_iff.mp H
        obtain ⟨t163, A230, H⟩ := H
        replace H : (if (wrap64 (t158 - t153)) > 0 then (if t159 = true then (tapearchiveref09_Locate.j1 kj5 (wrap64 ((wrap64 (a0_2 * t162)) + (wrap64 (a0_4 * t163)))) true a0_0 a0_1 a0_2 a0_3 a0_4 a0_5) else (if (wrap64 (t158 - t153)) < 0 then (tapearchiveref09_Locate.j1 kj5 (wrap64 ((wrap64 (a0_2 * t162)) + (wrap64 (a0_4 * t163)))) true a0_0 a0_1 a0_2 a0_3 a0_4 a0_5) else (if (wrap64 (t158 - t153)) = 0 then (tapearchiveref09_Locate.j1 kj5 (wrap64 ((wrap64 (a0_2 * t162)) + (wrap64 (a0_4 * t163)))) (t154 != t159) a0_0 a0_1 a0_2 a0_3 a0_4 a0_5) else (tapearchiveref09_Locate.j1 kj5 (wrap64 ((wrap64 (a0_2 * t162)) + (wrap64 (a0_4 * t163)))) false a0_0 a0_1 a0_2 a0_3 a0_4 a0_5)))) else (if (wrap64 (t158 - t153)) < 0 then (if t159 = true then (if (wrap64 (t158 - t153)) = 0 then (tapearchiveref09_Locate.j1 kj5 (wrap64 ((wrap64 (a0_2 * t162)) + (wrap64 (a0_4 * t163)))) (t154 != t159) a0_0 a0_1 a0_2 a0_3 a0_4 a0_5) else (tapearchiveref09_Locate.j1 kj5 (wrap64 ((wrap64 (a0_2 * t162)) + (wrap64 (a0_4 * t163)))) false a0_0 a0_1 a0_2 a0_3 a0_4 a0_5)) else (tapearchiveref09_Locate.j1 kj5 (wrap64 ((wrap64 (a0_2 * t162)) + (wrap64 (a0_4 * t163)))) true a0_0 a0_1 a0_2 a0_3 a0_4 a0_5)) else (if (wrap64 (t158 - t153)) = 0 then (tapearchiveref09_Locate.j1 kj5 (wrap64 ((wrap64 (a0_2 * t162)) + (wrap64 (a0_4 * t163)))) (t154 != t159) a0_0 a0_1 a0_2 a0_3 a0_4 a0_5) else (tapearchiveref09_Locate.j1 kj5 (wrap64 ((wrap64 (a0_2 * t162)) + (wrap64 (a0_4 * t163)))) false a0_0 a0_1 a0_2 a0_3 a0_4 a0_5)))) = some r := H
        have A23 := Aside0.mk A230
        clear A230
        have HC24 := Aside0.mk H
        clear H
        have hnb25 := NB161_151.out
        have hnc25 := NB151_161.out
        have hnb26 := NB161_156.out
        have hnc26 := NB156_161.out
        obtain ⟨hcz27_0, hcz27_1, hcz27_2, hfz27_0, hfz27_1, hfz27_2⟩ := cz3 BK161.out
        have hnb28 := NB156_151.out
        have hnc28 := NB151_156.out
        obtain ⟨hcz29_0, hcz29_1, hcz29_2, hfz29_0, hfz29_1, hfz29_2⟩ := cz3 BK156.out
        obtain ⟨hcz30_0, hcz30_1, hcz30_2, hcz30_3, hcz30_4, hcz30_5, hfz30_0, hfz30_1, hfz30_2, hfz30_3, hfz30_4, hfz30_5⟩ := cz6 BK151.out
        go_upto_region 7 with (first | (go_at_call 30; (with_reducible refine (tapearchiveref09_size.calls (wrap64 (t158 - t153)) t162 _ A22.out).mono ?_); rintro e w' ⟨rfl, ⟨nd, rfl⟩⟩; (try first | exact ⟨rfl, _, World.drewN_drewN _ _ _⟩ | exact ⟨rfl, _, Eq.trans (World.drewN_drewN _ _ _) (congrArg (World.drewN _) (Nat.add_assoc _ _ _))⟩)) | (go_at_call 30; (with_reducible refine (tapearchiveref09_size.calls (wrap64 (t157 - t152)) t163 _ A23.out).mono ?_); rintro e w' ⟨rfl, ⟨nd, rfl⟩⟩; (try first | exact ⟨rfl, _, World.drewN_drewN _ _ _⟩ | exact ⟨rfl, _, Eq.trans (World.drewN_drewN _ _ _) (congrArg (World.drewN _) (Nat.add_assoc _ _ _))⟩)))
        repeat (go_quiet (first | (go_at_call 30; (with_reducible refine (tapearchiveref09_size.calls (wrap64 (t158 - t153)) t162 _ A22.out).mono ?_); rintro e w' ⟨rfl, ⟨nd, rfl⟩⟩; (try first | exact ⟨rfl, _, World.drewN_drewN _ _ _⟩ | exact ⟨rfl, _, Eq.trans (World.drewN_drewN _ _ _) (congrArg (World.drewN _) (Nat.add_assoc _ _ _))⟩)) | (go_at_call 30; (with_reducible refine (tapearchiveref09_size.calls (wrap64 (t157 - t152)) t163 _ A23.out).mono ?_); rintro e w' ⟨rfl, ⟨nd, rfl⟩⟩; (try first | exact ⟨rfl, _, World.drewN_drewN _ _ _⟩ | exact ⟨rfl, _, Eq.trans (World.drewN_drewN _ _ _) (congrArg (World.drewN _) (Nat.add_assoc _ _ _))⟩))); go_upto_region 7 with (first | (go_at_call 30; (with_reducible refine (tapearchiveref09_size.calls (wrap64 (t158 - t153)) t162 _ A22.out).mono ?_); rintro e w' ⟨rfl, ⟨nd, rfl⟩⟩; (try first | exact ⟨rfl, _, World.drewN_drewN _ _ _⟩ | exact ⟨rfl, _, Eq.trans (World.drewN_drewN _ _ _) (congrArg (World.drewN _) (Nat.add_assoc _ _ _))⟩)) | (go_at_call 30; (with_reducible refine (tapearchiveref09_size.calls (wrap64 (t157 - t152)) t163 _ A23.out).mono ?_); rintro e w' ⟨rfl, ⟨nd, rfl⟩⟩; (try first | exact ⟨rfl, _, World.drewN_drewN _ _ _⟩ | exact ⟨rfl, _, Eq.trans (World.drewN_drewN _ _ _) (congrArg (World.drewN _) (Nat.add_assoc _ _ _))⟩))))
        (try simp only [Act.put, List.setIfInBounds_toArray, List.set_cons_zero, List.set_cons_succ])
        go_cut [81] (fun v81 wc => ∃ (kq : Nat) (x81_23 : Bool), v81 = .bool x81_23 ∧ Aside0 (tapearchiveref09_Locate.j1 kq (wrap64 ((wrap64 (a0_2 * t162)) + (wrap64 (a0_4 * t163)))) x81_23 a0_0 a0_1 a0_2 a0_3 a0_4 a0_5 = some r) ∧ Aside0 (kq ≤ kj5) ∧ Aside0 (wc.heap[gb151]? = some (.cells #[.int .i64 a0_0, .int .i64 a0_1, .int .i64 a0_2, .int .i64 a0_3, .int .i64 a0_4, .int .i64 a0_5] 23 (0, 0))) ∧ Aside0 (wc.heap[gb156]? = some (.cells #[.int .i64 t152, .int .i64 t153, .bool t154] 32 (0, 0))) ∧ Aside0 (wc.heap[gb161]? = some (.cells #[.int .i64 t157, .int .i64 t158, .bool t159] 32 (0, 0))) ∧ Aside0 (Below w.heap.size w wc))
        case first =>
          have H := HC24.out
          clear HC24
          by_cases c31 : (wrap64 (t158 - t153)) > 0
          · rw [if_pos c31] at H
            have c31b0 : decide (0 < (wrap64 (t158 - t153))) = true := decide_eq_true c31
            clear c31
            (first | rw [c31b0] | (simp only [i64_w, i32_w]; rw [c31b0]) | skip)
            by_cases c32 : t159 = true
            · subst c32
              have H1 : (tapearchiveref09_Locate.j1 kj5 (wrap64 ((wrap64 (a0_2 * t162)) + (wrap64 (a0_4 * t163)))) true a0_0 a0_1 a0_2 a0_3 a0_4 a0_5) = some r := by rw [if_pos rfl] at H; exact H
              clear H
              have H := H1
              clear H1
              have H' := Aside0.mk H
              clear H
              have hnb33 := NB161_151.out
              have hnc33 := NB151_161.out
              have hnb34 := NB161_156.out
              have hnc34 := NB156_161.out
              obtain ⟨hcz35_0, hcz35_1, hcz35_2, hfz35_0, hfz35_1, hfz35_2⟩ := cz3 BK161.out
              go_wp2
              repeat (go_quiet (fail); try go_wp2)
              go_meet
              case rel => exact ⟨_, (true), (by first | rfl | (simp; done) | (simp [*]; done)), H', ⟨by have := HJ5.out; first | omega | exact Nat.le_refl _⟩, ⟨by (with_reducible repeat (first | refine blk_drewN ?_ _ | refine blk_drew ?_ | refine blk_alloc ?_ _)); exact BK151.out⟩, ⟨by (with_reducible repeat (first | refine blk_drewN ?_ _ | refine blk_drew ?_ | refine blk_alloc ?_ _)); exact BK156.out⟩, ⟨by (with_reducible repeat (first | refine blk_drewN ?_ _ | refine blk_drew ?_ | refine blk_alloc ?_ _)); exact BK161.out⟩, ⟨bB_⟩⟩
            · replace c32 := Bool.eq_false_iff.mpr c32
              subst c32
              have H1 : (if (wrap64 (t158 - t153)) < 0 then (tapearchiveref09_Locate.j1 kj5 (wrap64 ((wrap64 (a0_2 * t162)) + (wrap64 (a0_4 * t163)))) true a0_0 a0_1 a0_2 a0_3 a0_4 a0_5) else (if (wrap64 (t158 - t153)) = 0 then (tapearchiveref09_Locate.j1 kj5 (wrap64 ((wrap64 (a0_2 * t162)) + (wrap64 (a0_4 * t163)))) (t154 != false) a0_0 a0_1 a0_2 a0_3 a0_4 a0_5) else (tapearchiveref09_Locate.j1 kj5 (wrap64 ((wrap64 (a0_2 * t162)) + (wrap64 (a0_4 * t163)))) false a0_0 a0_1 a0_2 a0_3 a0_4 a0_5))) = some r := by rw [if_neg (show ¬ (false = true) by decide)] at H; exact H
              clear H
              have H := H1
              clear H1
              by_cases c36 : (wrap64 (t158 - t153)) < 0
              · rw [if_pos c36] at H
                have c36b0 : decide ((wrap64 (t158 - t153)) < 0) = true := decide_eq_true c36
                clear c36
                have H' := Aside0.mk H
                clear H
                have hnb37 := NB161_151.out
                have hnc37 := NB151_161.out
                have hnb38 := NB161_156.out
                have hnc38 := NB156_161.out
                obtain ⟨hcz39_0, hcz39_1, hcz39_2, hfz39_0, hfz39_1, hfz39_2⟩ := cz3 BK161.out
                go_wp2
                repeat (go_quiet (fail); try go_wp2)
                go_meet
                case rel => exact ⟨_, (true), (by first | rfl | (simp; done) | (simp [*]; done)), H', ⟨by have := HJ5.out; first | omega | exact Nat.le_refl _⟩, ⟨by (with_reducible repeat (first | refine blk_drewN ?_ _ | refine blk_drew ?_ | refine blk_alloc ?_ _)); exact BK151.out⟩, ⟨by (with_reducible repeat (first | refine blk_drewN ?_ _ | refine blk_drew ?_ | refine blk_alloc ?_ _)); exact BK156.out⟩, ⟨by (with_reducible repeat (first | refine blk_drewN ?_ _ | refine blk_drew ?_ | refine blk_alloc ?_ _)); exact BK161.out⟩, ⟨bB_⟩⟩
              · rw [if_neg c36] at H
                have c36b0 : decide ((wrap64 (t158 - t153)) < 0) = false := decide_eq_false c36
                clear c36
                by_cases c40 : (wrap64 (t158 - t153)) = 0
                · rw [if_pos c40] at H
                  have c40b0 : ((wrap64 (t158 - t153)) == 0) = true := beq_iff_eq.mpr c40
                  have c40b1 : ((wrap64 (t158 - t153)) != 0) = false := bne_eq_false_iff_eq.mpr c40
                  clear c40
                  have H' := Aside0.mk H
                  clear H
                  have hnb41 := NB161_151.out
                  have hnc41 := NB151_161.out
                  have hnb42 := NB161_156.out
                  have hnc42 := NB156_161.out
                  obtain ⟨hcz43_0, hcz43_1, hcz43_2, hfz43_0, hfz43_1, hfz43_2⟩ := cz3 BK161.out
                  have hnb44 := NB156_151.out
                  have hnc44 := NB151_156.out
                  obtain ⟨hcz45_0, hcz45_1, hcz45_2, hfz45_0, hfz45_1, hfz45_2⟩ := cz3 BK156.out
                  go_wp2
                  repeat (go_quiet (fail); try go_wp2)
                  go_meet
                  case rel => exact ⟨_, ((t154 != false)), (by first | rfl | (simp; done) | (simp [*]; done)), H', ⟨by have := HJ5.out; first | omega | exact Nat.le_refl _⟩, ⟨by (with_reducible repeat (first | refine blk_drewN ?_ _ | refine blk_drew ?_ | refine blk_alloc ?_ _)); exact BK151.out⟩, ⟨by (with_reducible repeat (first | refine blk_drewN ?_ _ | refine blk_drew ?_ | refine blk_alloc ?_ _)); exact BK156.out⟩, ⟨by (with_reducible repeat (first | refine blk_drewN ?_ _ | refine blk_drew ?_ | refine blk_alloc ?_ _)); exact BK161.out⟩, ⟨bB_⟩⟩
                · rw [if_neg c40] at H
                  have c40b0 : ((wrap64 (t158 - t153)) == 0) = false := beq_eq_false_iff_ne.mpr c40
                  have c40b1 : ((wrap64 (t158 - t153)) != 0) = true := bne_iff_ne.mpr c40
                  have H' := Aside0.mk H
                  clear H
                  have hnb46 := NB161_151.out
                  have hnc46 := NB151_161.out
                  have hnb47 := NB161_156.out
                  have hnc47 := NB156_161.out
                  obtain ⟨hcz48_0, hcz48_1, hcz48_2, hfz48_0, hfz48_1, hfz48_2⟩ := cz3 BK161.out
                  go_wp2
                  repeat (go_quiet (fail); try go_wp2)
                  go_meet
                  case rel => exact ⟨_, (false), (by first | rfl | (simp; done) | (simp [*]; done)), H', ⟨by have := HJ5.out; first | omega | exact Nat.le_refl _⟩, ⟨by (with_reducible repeat (first | refine blk_drewN ?_ _ | refine blk_drew ?_ | refine blk_alloc ?_ _)); exact BK151.out⟩, ⟨by (with_reducible repeat (first | refine blk_drewN ?_ _ | refine blk_drew ?_ | refine blk_alloc ?_ _)); exact BK156.out⟩, ⟨by (with_reducible repeat (first | refine blk_drewN ?_ _ | refine blk_drew ?_ | refine blk_alloc ?_ _)); exact BK161.out⟩, ⟨bB_⟩⟩
          · rw [if_neg c31] at H
            have c31b0 : decide (0 < (wrap64 (t158 - t153))) = false := decide_eq_false c31
            clear c31
            (first | rw [c31b0] | (simp only [i64_w, i32_w]; rw [c31b0]) | skip)
            by_cases c49 : (wrap64 (t158 - t153)) < 0
            · rw [if_pos c49] at H
              have c49b0 : decide ((wrap64 (t158 - t153)) < 0) = true := decide_eq_true c49
              clear c49
              by_cases c50 : t159 = true
              · subst c50
                have H1 : (if (wrap64 (t158 - t153)) = 0 then (tapearchiveref09_Locate.j1 kj5 (wrap64 ((wrap64 (a0_2 * t162)) + (wrap64 (a0_4 * t163)))) (t154 != true) a0_0 a0_1 a0_2 a0_3 a0_4 a0_5) else (tapearchiveref09_Locate.j1 kj5 (wrap64 ((wrap64 (a0_2 * t162)) + (wrap64 (a0_4 * t163)))) false a0_0 a0_1 a0_2 a0_3 a0_4 a0_5)) = some r := by rw [if_pos rfl] at H; exact H
                clear H
                have H := H1
                clear H1
                by_cases c51 : (wrap64 (t158 - t153)) = 0
                · rw [if_pos c51] at H
                  have c51b0 : ((wrap64 (t158 - t153)) == 0) = true := beq_iff_eq.mpr c51
                  have c51b1 : ((wrap64 (t158 - t153)) != 0) = false := bne_eq_false_iff_eq.mpr c51
                  clear c51
                  have H' := Aside0.mk H
                  clear H
                  have hnb52 := NB161_151.out
                  have hnc52 := NB151_161.out
                  have hnb53 := NB161_156.out
                  have hnc53 := NB156_161.out
                  obtain ⟨hcz54_0, hcz54_1, hcz54_2, hfz54_0, hfz54_1, hfz54_2⟩ := cz3 BK161.out
                  have hnb55 := NB156_151.out
                  have hnc55 := NB151_156.out
                  obtain ⟨hcz56_0, hcz56_1, hcz56_2, hfz56_0, hfz56_1, hfz56_2⟩ := cz3 BK156.out
                  go_wp2
                  repeat (go_quiet (fail); try go_wp2)
                  go_meet
                  case rel => exact ⟨_, ((t154 != true)), (by first | rfl | (simp; done) | (simp [*]; done)), H', ⟨by have := HJ5.out; first | omega | exact Nat.le_refl _⟩, ⟨by (with_reducible repeat (first | refine blk_drewN ?_ _ | refine blk_drew ?_ | refine blk_alloc ?_ _)); exact BK151.out⟩, ⟨by (with_reducible repeat (first | refine blk_drewN ?_ _ | refine blk_drew ?_ | refine blk_alloc ?_ _)); exact BK156.out⟩, ⟨by (with_reducible repeat (first | refine blk_drewN ?_ _ | refine blk_drew ?_ | refine blk_alloc ?_ _)); exact BK161.out⟩, ⟨bB_⟩⟩
                · rw [if_neg c51] at H
                  have c51b0 : ((wrap64 (t158 - t153)) == 0) = false := beq_eq_false_iff_ne.mpr c51
                  have c51b1 : ((wrap64 (t158 - t153)) != 0) = true := bne_iff_ne.mpr c51
                  have H' := Aside0.mk H
                  clear H
                  have hnb57 := NB161_151.out
                  have hnc57 := NB151_161.out
                  have hnb58 := NB161_156.out
                  have hnc58 := NB156_161.out
                  obtain ⟨hcz59_0, hcz59_1, hcz59_2, hfz59_0, hfz59_1, hfz59_2⟩ := cz3 BK161.out
                  go_wp2
                  repeat (go_quiet (fail); try go_wp2)
                  go_meet
                  case rel => exact ⟨_, (false), (by first | rfl | (simp; done) | (simp [*]; done)), H', ⟨by have := HJ5.out; first | omega | exact Nat.le_refl _⟩, ⟨by (with_reducible repeat (first | refine blk_drewN ?_ _ | refine blk_drew ?_ | refine blk_alloc ?_ _)); exact BK151.out⟩, ⟨by (with_reducible repeat (first | refine blk_drewN ?_ _ | refine blk_drew ?_ | refine blk_alloc ?_ _)); exact BK156.out⟩, ⟨by (with_reducible repeat (first | refine blk_drewN ?_ _ | refine blk_drew ?_ | refine blk_alloc ?_ _)); exact BK161.out⟩, ⟨bB_⟩⟩
              · replace c50 := Bool.eq_false_iff.mpr c50
                subst c50
                have H1 : (tapearchiveref09_Locate.j1 kj5 (wrap64 ((wrap64 (a0_2 * t162)) + (wrap64 (a0_4 * t163)))) true a0_0 a0_1 a0_2 a0_3 a0_4 a0_5) = some r := by rw [if_neg (show ¬ (false = true) by decide)] at H; exact H
                clear H
                have H := H1
                clear H1
                have H' := Aside0.mk H
                clear H
                have hnb60 := NB161_151.out
                have hnc60 := NB151_161.out
                have hnb61 := NB161_156.out
                have hnc61 := NB156_161.out
                obtain ⟨hcz62_0, hcz62_1, hcz62_2, hfz62_0, hfz62_1, hfz62_2⟩ := cz3 BK161.out
                go_wp2
                repeat (go_quiet (fail); try go_wp2)
                go_meet
                case rel => exact ⟨_, (true), (by first | rfl | (simp; done) | (simp [*]; done)), H', ⟨by have := HJ5.out; first | omega | exact Nat.le_refl _⟩, ⟨by (with_reducible repeat (first | refine blk_drewN ?_ _ | refine blk_drew ?_ | refine blk_alloc ?_ _)); exact BK151.out⟩, ⟨by (with_reducible repeat (first | refine blk_drewN ?_ _ | refine blk_drew ?_ | refine blk_alloc ?_ _)); exact BK156.out⟩, ⟨by (with_reducible repeat (first | refine blk_drewN ?_ _ | refine blk_drew ?_ | refine blk_alloc ?_ _)); exact BK161.out⟩, ⟨bB_⟩⟩
            · rw [if_neg c49] at H
              have c49b0 : decide ((wrap64 (t158 - t153)) < 0) = false := decide_eq_false c49
              clear c49
              by_cases c63 : (wrap64 (t158 - t153)) = 0
              · rw [if_pos c63] at H
                have c63b0 : ((wrap64 (t158 - t153)) == 0) = true := beq_iff_eq.mpr c63
                have c63b1 : ((wrap64 (t158 - t153)) != 0) = false := bne_eq_false_iff_eq.mpr c63
                clear c63
                have H' := Aside0.mk H
                clear H
                have hnb64 := NB156_151.out
                have hnc64 := NB151_156.out
                have hnb65 := NB156_161.out
                have hnc65 := NB161_156.out
                obtain ⟨hcz66_0, hcz66_1, hcz66_2, hfz66_0, hfz66_1, hfz66_2⟩ := cz3 BK156.out
                have hnb67 := NB161_151.out
                have hnc67 := NB151_161.out
                obtain ⟨hcz68_0, hcz68_1, hcz68_2, hfz68_0, hfz68_1, hfz68_2⟩ := cz3 BK161.out
                go_wp2
                repeat (go_quiet (fail); try go_wp2)
                go_meet
                case rel => exact ⟨_, ((t154 != t159)), (by first | rfl | (simp; done) | (simp [*]; done)), H', ⟨by have := HJ5.out; first | omega | exact Nat.le_refl _⟩, ⟨by (with_reducible repeat (first | refine blk_drewN ?_ _ | refine blk_drew ?_ | refine blk_alloc ?_ _)); exact BK151.out⟩, ⟨by (with_reducible repeat (first | refine blk_drewN ?_ _ | refine blk_drew ?_ | refine blk_alloc ?_ _)); exact BK156.out⟩, ⟨by (with_reducible repeat (first | refine blk_drewN ?_ _ | refine blk_drew ?_ | refine blk_alloc ?_ _)); exact BK161.out⟩, ⟨bB_⟩⟩
              · rw [if_neg c63] at H
                have c63b0 : ((wrap64 (t158 - t153)) == 0) = false := beq_eq_false_iff_ne.mpr c63
                have c63b1 : ((wrap64 (t158 - t153)) != 0) = true := bne_iff_ne.mpr c63
                have H' := Aside0.mk H
                clear H
                go_wp2
                repeat (go_quiet (fail); try go_wp2)
                go_meet
                case rel => exact ⟨_, (false), (by first | rfl | (simp; done) | (simp [*]; done)), H', ⟨by have := HJ5.out; first | omega | exact Nat.le_refl _⟩, ⟨by (with_reducible repeat (first | refine blk_drewN ?_ _ | refine blk_drew ?_ | refine blk_alloc ?_ _)); exact BK151.out⟩, ⟨by (with_reducible repeat (first | refine blk_drewN ?_ _ | refine blk_drew ?_ | refine blk_alloc ?_ _)); exact BK156.out⟩, ⟨by (with_reducible repeat (first | refine blk_drewN ?_ _ | refine blk_drew ?_ | refine blk_alloc ?_ _)); exact BK161.out⟩, ⟨bB_⟩⟩
        case rest =>
          clear HC24
          try clear c1
          try clear c2
          try clear p2
          try clear c3
          try clear c4
          try clear c5
          try clear c6
          try clear p6
          try clear c10
          try clear c11
          try clear c16
          try clear c17
          try clear c19
          try clear c20
          try clear c21
          try clear c25
          try clear c26
          try clear c28
          try clear c31
          try clear c31b0
          try clear c32
          try clear c33
          try clear c34
          try clear c36
          try clear c36b0
          try clear c37
          try clear c38
          try clear c40
          try clear c40b0
          try clear c40b1
          try clear c41
          try clear c42
          try clear c44
          try clear c46
          try clear c47
          try clear c49
          try clear c49b0
          try clear c50
          try clear c51
          try clear c51b0
          try clear c51b1
          try clear c52
          try clear c53
          try clear c55
          try clear c57
          try clear c58
          try clear c60
          try clear c61
          try clear c63
          try clear c63b0
          try clear c63b1
          try clear c64
          try clear p64
          try clear c65
          try clear c67
          try clear hcz12_0
          try clear hcz12_1
          try clear hcz12_2
          try clear hcz13_0
          try clear hcz13_1
          try clear hcz13_2
          try clear hcz13_3
          try clear hcz13_4
          try clear hcz13_5
          try clear hcz18_0
          try clear hcz18_1
          try clear hcz18_2
          try clear hcz27_0
          try clear hcz27_1
          try clear hcz27_2
          try clear hcz29_0
          try clear hcz29_1
          try clear hcz29_2
          try clear hcz30_0
          try clear hcz30_1
          try clear hcz30_2
          try clear hcz30_3
          try clear hcz30_4
          try clear hcz30_5
          try clear hcz35_0
          try clear hcz35_1
          try clear hcz35_2
          try clear hcz39_0
          try clear hcz39_1
          try clear hcz39_2
          try clear hcz43_0
          try clear hcz43_1
          try clear hcz43_2
          try clear hcz45_0
          try clear hcz45_1
          try clear hcz45_2
          try clear hcz48_0
          try clear hcz48_1
          try clear hcz48_2
          try clear hcz54_0
          try clear hcz54_1
          try clear hcz54_2
          try clear hcz56_0
          try clear hcz56_1
          try clear hcz56_2
          try clear hcz59_0
          try clear hcz59_1
          try clear hcz59_2
          try clear hcz62_0
          try clear hcz62_1
          try clear hcz62_2
          try clear hcz66_0
          try clear hcz66_1
          try clear hcz66_2
          try clear hcz68_0
          try clear hcz68_1
          try clear hcz68_2
          try clear hcz8_0
          try clear hcz8_1
          try clear hcz8_2
          try clear hcz8_3
          try clear hcz8_4
          try clear hcz8_5
          try clear hfz12_0
          try clear hfz12_1
          try clear hfz12_2
          try clear hfz13_0
          try clear hfz13_1
          try clear hfz13_2
          try clear hfz13_3
          try clear hfz13_4
          try clear hfz13_5
          try clear hfz18_0
          try clear hfz18_1
          try clear hfz18_2
          try clear hfz27_0
          try clear hfz27_1
          try clear hfz27_2
          try clear hfz29_0
          try clear hfz29_1
          try clear hfz29_2
          try clear hfz30_0
          try clear hfz30_1
          try clear hfz30_2
          try clear hfz30_3
          try clear hfz30_4
          try clear hfz30_5
          try clear hfz35_0
          try clear hfz35_1
          try clear hfz35_2
          try clear hfz39_0
          try clear hfz39_1
          try clear hfz39_2
          try clear hfz43_0
          try clear hfz43_1
          try clear hfz43_2
          try clear hfz45_0
          try clear hfz45_1
          try clear hfz45_2
          try clear hfz48_0
          try clear hfz48_1
          try clear hfz48_2
          try clear hfz54_0
          try clear hfz54_1
          try clear hfz54_2
          try clear hfz56_0
          try clear hfz56_1
          try clear hfz56_2
          try clear hfz59_0
          try clear hfz59_1
          try clear hfz59_2
          try clear hfz62_0
          try clear hfz62_1
          try clear hfz62_2
          try clear hfz66_0
          try clear hfz66_1
          try clear hfz66_2
          try clear hfz68_0
          try clear hfz68_1
          try clear hfz68_2
          try clear hfz8_0
          try clear hfz8_1
          try clear hfz8_2
          try clear hfz8_3
          try clear hfz8_4
          try clear hfz8_5
          try clear p2
          obtain ⟨kq, x81_23, rfl, HA, HJ23, BK151, BK156, BK161, HB⟩ := hcut
          cases kq with
          | zero => exact absurd HA.out (by simp [tapearchiveref09_Locate.j1])
          | succ kj23 =>
            have H := HA.out
            clear HA
            simp only [tapearchiveref09_Locate.j1] at H
            by_cases c69 : x81_23 = true
            · subst c69
              have H1 : (some (wrap64 ((wrap64 ((wrap64 (a0_2 * t162)) + (wrap64 (a0_4 * t163)))) + a0_3))) = some r := by rw [if_pos rfl] at H; exact H
              clear H
              have H := H1
              clear H1
              obtain rfl := Option.some.inj H
              have hnb70 := NB151_156.out
              have hnc70 := NB156_151.out
              have hnb71 := NB151_161.out
              have hnc71 := NB161_151.out
              obtain ⟨hcz72_0, hcz72_1, hcz72_2, hcz72_3, hcz72_4, hcz72_5, hfz72_0, hfz72_1, hfz72_2, hfz72_3, hfz72_4, hfz72_5⟩ := cz6 BK151.out
              go_wp2
              repeat (go_quiet (fail); try go_wp2)
              go_ret
              exact ⟨by first | rfl | (simp [errW_none, errW_some] <;> rfl) | (simp [*, errW_none, errW_some] <;> rfl), bB_⟩
            · replace c69 := Bool.eq_false_iff.mpr c69
              subst c69
              have H1 : (some (wrap64 ((wrap64 (a0_2 * t162)) + (wrap64 (a0_4 * t163))))) = some r := by rw [if_neg (show ¬ (false = true) by decide)] at H; exact H
              clear H
              have H := H1
              clear H1
              obtain rfl := Option.some.inj H
              go_wp2
              repeat (go_quiet (fail); try go_wp2)
              go_ret
              exact ⟨by first | rfl | (simp [errW_none, errW_some] <;> rfl) | (simp [*, errW_none, errW_some] <;> rfl), bB_⟩

end Go.Proofs.Ytnogfkhbfgmjcaa.P
