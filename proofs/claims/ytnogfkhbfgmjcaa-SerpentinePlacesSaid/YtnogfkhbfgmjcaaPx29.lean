-- Written by a program of this session (wip/gen/myprint.py): plain functions of the Go code, and the proofs of the walks.
import Derived.Test.YtnogfkhbfgmjcaaPx0
import Derived.Test.YtnogfkhbfgmjcaaPx1
import Derived.Test.YtnogfkhbfgmjcaaPx2
import Derived.Test.YtnogfkhbfgmjcaaPx7
import Derived.Test.YtnogfkhbfgmjcaaPx8
import Derived.Test.YtnogfkhbfgmjcaaPx18
import Derived.Test.YtnogfkhbfgmjcaaPx19
import Derived.Test.YtnogfkhbfgmjcaaPx23
import Derived.Test.YtnogfkhbfgmjcaaPx26
namespace Go.Proofs.Ytnogfkhbfgmjcaa.P
open Go.RowKit Go.Proofs.YtnogfkhbfgmjcaaW.PrintWords Go.Proofs.YtnogfkhbfgmjcaaW.PrintLast Go.Proofs.YtnogfkhbfgmjcaaW.PrintMore
open Go.Proofs.YtnogfkhbfgmjcaaW.Mine
attribute [local go_sem] isSome_setCell Go.Instr.field Go.asAgg
attribute [local go_sem] max2_int min2_int max_two min_two max_three min_three max_four min_four   -- for this text's walks alone
set_option linter.unusedVariables false
set_option linter.unusedSimpArgs false

attribute [local go_sem high] eqA32
/-! ### tapearchivelaw09_SerpentinePlaces: function 8 -/
def tapearchivelaw09_SerpentinePlaces.j0 : Nat → Int → Bool → Bool → Int → Int → Int → Int → Int → Int → Int → Int → Bool → Option (Bool)
  | 0, _, _, _, _, _, _, _, _, _, _, _, _ => none
  | k + 1, x1, x6, x44, x341000, x341001, x341002, x341003, x341004, x341005, x346000, x346001, x346002 => if x44 = true then (some false) else ((serpentine_Block.f k x341000 x341001 x341002 x341003 x341004 x341005 x346000 x346001 x346002).bind fun bt355 => (if x6 = true then (if bt355.2 = true then (if bt355.1 = x1 then ((tapearchivelaw09_awake.f k).bind fun t357 => (some t357)) else (some false)) else (some false)) else ((tapearchivelaw09_awake.f k).bind fun t358 => (some t358))))
def tapearchivelaw09_SerpentinePlaces.f (k : Nat) (a0_0 : Int) (a0_1 : Int) (a0_2 : Int) (a0_3 : Int) (a0_4 : Int) (a0_5 : Int) (a1 : Int) : Option (Bool) := (serpentine_Place.f k a0_0 a0_1 a0_2 a0_3 a0_4 a0_5 a1).bind fun bt341 => ((tapearchiveref09_Place.f k a0_0 a0_1 a0_2 a0_3 a0_4 a0_5 a1).bind fun bt346 => (if (!(bt341.1 == bt346.1) || (!(bt341.2.1 == bt346.2.1) || (!(bt341.2.2.1 == bt346.2.2.1)))) = true then (tapearchivelaw09_SerpentinePlaces.j0 k a1 bt341.2.2.2 true a0_0 a0_1 a0_2 a0_3 a0_4 a0_5 bt341.1 bt341.2.1 bt341.2.2.1) else (if (bt341.2.2.2 != bt346.2.2.2) = true then (tapearchivelaw09_SerpentinePlaces.j0 k a1 bt341.2.2.2 true a0_0 a0_1 a0_2 a0_3 a0_4 a0_5 bt341.1 bt341.2.1 bt341.2.2.1) else ((serpentine_Valid.f k a0_0 a0_1 a0_2 a0_3 a0_4 a0_5).bind fun t351 => ((tapearchiveref09_Valid.f k a0_0 a0_1 a0_2 a0_3 a0_4 a0_5).bind fun t352 => (if (t351 != t352) = true then (tapearchivelaw09_SerpentinePlaces.j0 k a1 bt341.2.2.2 true a0_0 a0_1 a0_2 a0_3 a0_4 a0_5 bt341.1 bt341.2.1 bt341.2.2.1) else ((serpentine_Capacity.f k a0_0 a0_1 a0_2 a0_3 a0_4 a0_5).bind fun t353 => ((tapearchiveref09_Capacity.f k a0_0 a0_1 a0_2 a0_3 a0_4 a0_5).bind fun t354 => (tapearchivelaw09_SerpentinePlaces.j0 k a1 bt341.2.2.2 (t353 != t354) a0_0 a0_1 a0_2 a0_3 a0_4 a0_5 bt341.1 bt341.2.1 bt341.2.2.1)))))))))
theorem tapearchivelaw09_SerpentinePlaces.mono_l : ∀ k, (∀ y0 y1 y2 y3 y4 y5 y6 y7 y8 y9 y10 y11, LeO (tapearchivelaw09_SerpentinePlaces.j0 k y0 y1 y2 y3 y4 y5 y6 y7 y8 y9 y10 y11) (tapearchivelaw09_SerpentinePlaces.j0 (k + 1) y0 y1 y2 y3 y4 y5 y6 y7 y8 y9 y10 y11))
  | 0 => fun _ _ _ _ _ _ _ _ _ _ _ _ r h => by simp [tapearchivelaw09_SerpentinePlaces.j0] at h
  | k + 1 => by
    have ih0 := tapearchivelaw09_SerpentinePlaces.mono_l k
    · intro y0 y1 y2 y3 y4 y5 y6 y7 y8 y9 y10 y11
      unfold tapearchivelaw09_SerpentinePlaces.j0
      repeat' first
      | (with_reducible exact ih0 _ _ _ _ _ _ _ _ _ _ _ _)
      | (with_reducible exact serpentine_Block.mono _ _ _ _ _ _ _ _ _ _)
      | (with_reducible exact serpentine_Capacity.mono _ _ _ _ _ _ _)
      | (with_reducible exact serpentine_Place.mono _ _ _ _ _ _ _ _)
      | (with_reducible exact serpentine_Valid.mono _ _ _ _ _ _ _)
      | (with_reducible exact tapearchivelaw09_awake.mono _)
      | (with_reducible exact tapearchiveref09_Capacity.mono _ _ _ _ _ _ _)
      | (with_reducible exact tapearchiveref09_Place.mono _ _ _ _ _ _ _ _)
      | (with_reducible exact tapearchiveref09_Valid.mono _ _ _ _ _ _ _)
      | (with_reducible exact LeO.refl _)
      | (with_reducible exact LeO.none _)
      | (with_reducible refine LeO.ite ?_ ?_)
      | (with_reducible refine LeO.bind ?_ (fun _ => ?_))
      | exact ih0 _ _ _ _ _ _ _ _ _ _ _ _
      | exact serpentine_Block.mono _ _ _ _ _ _ _ _ _ _
      | exact serpentine_Capacity.mono _ _ _ _ _ _ _
      | exact serpentine_Place.mono _ _ _ _ _ _ _ _
      | exact serpentine_Valid.mono _ _ _ _ _ _ _
      | exact tapearchivelaw09_awake.mono _
      | exact tapearchiveref09_Capacity.mono _ _ _ _ _ _ _
      | exact tapearchiveref09_Place.mono _ _ _ _ _ _ _ _
      | exact tapearchiveref09_Valid.mono _ _ _ _ _ _ _
      | exact LeO.none _
      | refine LeO.ite ?_ ?_
      | refine LeO.bind ?_ (fun _ => ?_)
theorem tapearchivelaw09_SerpentinePlaces.mono : ∀ a0 a1 a2 a3 a4 a5 a6 k, LeO (tapearchivelaw09_SerpentinePlaces.f k a0 a1 a2 a3 a4 a5 a6) (tapearchivelaw09_SerpentinePlaces.f (k + 1) a0 a1 a2 a3 a4 a5 a6) := by
  intro a0 a1 a2 a3 a4 a5 a6 k
  have ih0 := tapearchivelaw09_SerpentinePlaces.mono_l k
  unfold tapearchivelaw09_SerpentinePlaces.f
  repeat' first
      | (with_reducible exact ih0 _ _ _ _ _ _ _ _ _ _ _ _)
      | (with_reducible exact serpentine_Block.mono _ _ _ _ _ _ _ _ _ _)
      | (with_reducible exact serpentine_Capacity.mono _ _ _ _ _ _ _)
      | (with_reducible exact serpentine_Place.mono _ _ _ _ _ _ _ _)
      | (with_reducible exact serpentine_Valid.mono _ _ _ _ _ _ _)
      | (with_reducible exact tapearchivelaw09_awake.mono _)
      | (with_reducible exact tapearchiveref09_Capacity.mono _ _ _ _ _ _ _)
      | (with_reducible exact tapearchiveref09_Place.mono _ _ _ _ _ _ _ _)
      | (with_reducible exact tapearchiveref09_Valid.mono _ _ _ _ _ _ _)
      | (with_reducible exact LeO.refl _)
      | (with_reducible exact LeO.none _)
      | (with_reducible refine LeO.ite ?_ ?_)
      | (with_reducible refine LeO.bind ?_ (fun _ => ?_))
      | exact ih0 _ _ _ _ _ _ _ _ _ _ _ _
      | exact serpentine_Block.mono _ _ _ _ _ _ _ _ _ _
      | exact serpentine_Capacity.mono _ _ _ _ _ _ _
      | exact serpentine_Place.mono _ _ _ _ _ _ _ _
      | exact serpentine_Valid.mono _ _ _ _ _ _ _
      | exact tapearchivelaw09_awake.mono _
      | exact tapearchiveref09_Capacity.mono _ _ _ _ _ _ _
      | exact tapearchiveref09_Place.mono _ _ _ _ _ _ _ _
      | exact tapearchiveref09_Valid.mono _ _ _ _ _ _ _
      | exact LeO.none _
      | refine LeO.ite ?_ ?_
      | refine LeO.bind ?_ (fun _ => ?_)
def tapearchivelaw09_SerpentinePlaces.T3 : Bool × List (List Nat × List Nat) := (true, [([], []), ([], []), ([0, 1], [0, 1]), ([2], [2]), ([3], [3]), ([3], [3]), ([4, 5, 3], [3, 4, 5]), ([3, 6], [3, 6]), ([7, 3], [7]), ([8], [8]), ([9, 8, 8], [8, 9]), ([8], [8]), ([11, 10, 8], [8, 11]), ([10, 12, 8], [8, 10, 12]), ([8, 13], [8, 13]), ([14, 12], [14]), ([15], [15]), ([16, 15, 15], [15, 16]), ([15], [15]), ([18, 17, 15], [15, 18]), ([17, 19, 15], [15, 17, 19]), ([15, 20], [15, 20])])
def tapearchivelaw09_SerpentinePlaces.B3 : List Nat := [0, 0, 3, 7, 15, 15, 63, 127, 255, 511, 1023, 511, 4095, 8191, 16383, 32767, 65535, 131071, 65535, 524287, 1048575, 2097151]
theorem tapearchivelaw09_SerpentinePlaces.tab3 : rtab .any (opsOf Try.f8 3) = tapearchivelaw09_SerpentinePlaces.T3 := by kernel_rfl
theorem tapearchivelaw09_SerpentinePlaces.bits3 : waitsOk tapearchivelaw09_SerpentinePlaces.T3.2 tapearchivelaw09_SerpentinePlaces.B3 = true := by kernel_rfl
set_option maxHeartbeats 8000000 in
set_option maxRecDepth 100000 in
theorem tapearchivelaw09_SerpentinePlaces.calls (k : Nat) (a0_0 : Int) (a0_1 : Int) (a0_2 : Int) (a0_3 : Int) (a0_4 : Int) (a0_5 : Int) (a1 : Int) (r : Bool) (w : World) (h : tapearchivelaw09_SerpentinePlaces.f k a0_0 a0_1 a0_2 a0_3 a0_4 a0_5 a1 = some r) :
    Calls Try.prog 8 #[.agg #[.int .i64 a0_0, .int .i64 a0_1, .int .i64 a0_2, .int .i64 a0_3, .int .i64 a0_4, .int .i64 a0_5], .int .i64 a1] w fun e w' => e = .returned (.bool r) ∧ Below w.heap.size w w' := by
  have hu23 := Try.underlying23
  have hu32 := Try.underlying32
  have HB := Aside0.mk (Below.refl w.heap.size w)
  have H : ((serpentine_Place.f k a0_0 a0_1 a0_2 a0_3 a0_4 a0_5 a1).bind fun bt341 => ((tapearchiveref09_Place.f k a0_0 a0_1 a0_2 a0_3 a0_4 a0_5 a1).bind fun bt346 => (if (!(bt341.1 == bt346.1) || (!(bt341.2.1 == bt346.2.1) || (!(bt341.2.2.1 == bt346.2.2.1)))) = true then (tapearchivelaw09_SerpentinePlaces.j0 k a1 bt341.2.2.2 true a0_0 a0_1 a0_2 a0_3 a0_4 a0_5 bt341.1 bt341.2.1 bt341.2.2.1) else (if (bt341.2.2.2 != bt346.2.2.2) = true then (tapearchivelaw09_SerpentinePlaces.j0 k a1 bt341.2.2.2 true a0_0 a0_1 a0_2 a0_3 a0_4 a0_5 bt341.1 bt341.2.1 bt341.2.2.1) else ((serpentine_Valid.f k a0_0 a0_1 a0_2 a0_3 a0_4 a0_5).bind fun t351 => ((tapearchiveref09_Valid.f k a0_0 a0_1 a0_2 a0_3 a0_4 a0_5).bind fun t352 => (if (t351 != t352) = true then (tapearchivelaw09_SerpentinePlaces.j0 k a1 bt341.2.2.2 true a0_0 a0_1 a0_2 a0_3 a0_4 a0_5 bt341.1 bt341.2.1 bt341.2.2.1) else ((serpentine_Capacity.f k a0_0 a0_1 a0_2 a0_3 a0_4 a0_5).bind fun t353 => ((tapearchiveref09_Capacity.f k a0_0 a0_1 a0_2 a0_3 a0_4 a0_5).bind fun t354 => (tapearchivelaw09_SerpentinePlaces.j0 k a1 bt341.2.2.2 (t353 != t354) a0_0 a0_1 a0_2 a0_3 a0_4 a0_5 bt341.1 bt341.2.1 bt341.2.2.1)))))))))) = some r := h
  clear h
  replace H := Option.bind_eq_some_iff.mp H
  obtain ⟨⟨t341, t342, t343, t344⟩, A30, H⟩ := H
  replace H : ((tapearchiveref09_Place.f k a0_0 a0_1 a0_2 a0_3 a0_4 a0_5 a1).bind fun bt346 => (if (!(t341 == bt346.1) || (!(t342 == bt346.2.1) || (!(t343 == bt346.2.2.1)))) = true then (tapearchivelaw09_SerpentinePlaces.j0 k a1 t344 true a0_0 a0_1 a0_2 a0_3 a0_4 a0_5 t341 t342 t343) else (if (t344 != bt346.2.2.2) = true then (tapearchivelaw09_SerpentinePlaces.j0 k a1 t344 true a0_0 a0_1 a0_2 a0_3 a0_4 a0_5 t341 t342 t343) else ((serpentine_Valid.f k a0_0 a0_1 a0_2 a0_3 a0_4 a0_5).bind fun t351 => ((tapearchiveref09_Valid.f k a0_0 a0_1 a0_2 a0_3 a0_4 a0_5).bind fun t352 => (if (t351 != t352) = true then (tapearchivelaw09_SerpentinePlaces.j0 k a1 t344 true a0_0 a0_1 a0_2 a0_3 a0_4 a0_5 t341 t342 t343) else ((serpentine_Capacity.f k a0_0 a0_1 a0_2 a0_3 a0_4 a0_5).bind fun t353 => ((tapearchiveref09_Capacity.f k a0_0 a0_1 a0_2 a0_3 a0_4 a0_5).bind fun t354 => (tapearchivelaw09_SerpentinePlaces.j0 k a1 t344 (t353 != t354) a0_0 a0_1 a0_2 a0_3 a0_4 a0_5 t341 t342 t343))))))))) = some r := H
  have A3 := Aside0.mk A30
  clear A30
  replace H := Option.bind_eq_some_iff.mp H
  obtain ⟨⟨t346, t347, t348, t349⟩, A40, H⟩ := H
  replace H : (if (!(t341 == t346) || (!(t342 == t347) || (!(t343 == t348)))) = true then (tapearchivelaw09_SerpentinePlaces.j0 k a1 t344 true a0_0 a0_1 a0_2 a0_3 a0_4 a0_5 t341 t342 t343) else (if (t344 != t349) = true then (tapearchivelaw09_SerpentinePlaces.j0 k a1 t344 true a0_0 a0_1 a0_2 a0_3 a0_4 a0_5 t341 t342 t343) else ((serpentine_Valid.f k a0_0 a0_1 a0_2 a0_3 a0_4 a0_5).bind fun t351 => ((tapearchiveref09_Valid.f k a0_0 a0_1 a0_2 a0_3 a0_4 a0_5).bind fun t352 => (if (t351 != t352) = true then (tapearchivelaw09_SerpentinePlaces.j0 k a1 t344 true a0_0 a0_1 a0_2 a0_3 a0_4 a0_5 t341 t342 t343) else ((serpentine_Capacity.f k a0_0 a0_1 a0_2 a0_3 a0_4 a0_5).bind fun t353 => ((tapearchiveref09_Capacity.f k a0_0 a0_1 a0_2 a0_3 a0_4 a0_5).bind fun t354 => (tapearchivelaw09_SerpentinePlaces.j0 k a1 t344 (t353 != t354) a0_0 a0_1 a0_2 a0_3 a0_4 a0_5 t341 t342 t343)))))))) = some r := H
  have A4 := Aside0.mk A40
  clear A40
  have HC5 := Aside0.mk H
  clear H
  go_enter Try.func8, Try.ntmps8
  go_upto_region 3 with (first | ((with_reducible refine gate_dst (N := 2) rfl ?_); refine box_event ?hg (N := 2) ?hd (cs := #[.int .i64 a0_0, .int .i64 a0_1, .int .i64 a0_2, .int .i64 a0_3, .int .i64 a0_4, .int .i64 a0_5]) (t := 23) ?hr ?_; (case hd => rfl); (case hg => rfl); (case hr => first | (go_simp; done) | (go_simp; rfl)); intro gb340 hg w6 hbox hb; have n0_ := Aside0.mk (below_step bB_ hb); have n1_ := Aside0.mk (hbox); have n2_ := Aside0.mk (gB_ hg (below_size bB_)); have n3_ := Aside0.mk (gB_ hg (below_size bB_)); clear HB; have HB := n0_; have BK340 := n1_; have GW340 := n2_; have GE340 := n3_; clear n0_ n1_ n2_ n3_; clear hb hbox hg; obtain ⟨hcz7_0, hcz7_1, hcz7_2, hcz7_3, hcz7_4, hcz7_5, hfz7_0, hfz7_1, hfz7_2, hfz7_3, hfz7_4, hfz7_5⟩ := cz6 BK340.out) | ((with_reducible refine gate_callee (f := 18) rfl ?_); refine goesL_ (some 14) rfl rfl Try.func18 (by kernel_rfl) rfl #[.agg #[.int .i64 a0_0, .int .i64 a0_1, .int .i64 a0_2, .int .i64 a0_3, .int .i64 a0_4, .int .i64 a0_5], .int .i64 a1] rfl mB_ ?_; (with_reducible refine (serpentine_Place.calls k a0_0 a0_1 a0_2 a0_3 a0_4 a0_5 a1 t341 t342 t343 t344 _ A3.out).mono ?_); rintro e w8 ⟨rfl, hb⟩; refine ⟨_, rfl, ?_⟩; have n0_ := Aside0.mk (blk_below (kB_ BK340.out) hb); have n1_ := Aside0.mk (below_step bB_ hb); clear BK340; clear HB; have BK340 := n0_; have HB := n1_; clear n0_ n1_; (try clear hb); (try clear hb2); (try clear hk); (try clear hi)) | ((with_reducible refine gate_dst (N := 5) rfl ?_); refine box_event ?hg (N := 5) ?hd (cs := #[.int .i64 0, .int .i64 0, .bool false]) (t := 32) ?hr ?_; (case hd => rfl); (case hg => rfl); (case hr => first | (go_simp; done) | (go_simp; rfl)); intro gb345 hg w9 hbox hb; have n0_ := Aside0.mk (blk_below (kB_ BK340.out) hb); have n1_ := Aside0.mk (below_step bB_ hb); have n2_ := Aside0.mk (hbox); have n3_ := Aside0.mk (gB_ hg (below_size bB_)); have n4_ := Aside0.mk (gB_ hg (below_size bB_)); have n5_ := Aside0.mk ((by rw [hg]; exact Nat.ne_of_lt (blk_lt (kB_ BK340.out)) : gb340 ≠ gb345)); have n6_ := Aside0.mk ((by rw [hg]; exact Nat.ne_of_gt (blk_lt (kB_ BK340.out)) : gb345 ≠ gb340)); clear BK340; clear HB; have BK340 := n0_; have HB := n1_; have BK345 := n2_; have GW345 := n3_; have GE345 := n4_; have NB340_345 := n5_; have NB345_340 := n6_; clear n0_ n1_ n2_ n3_ n4_ n5_ n6_; clear hb hbox hg; have hnb10 := NB345_340.out; have hnc10 := NB340_345.out; obtain ⟨hcz11_0, hcz11_1, hcz11_2, hfz11_0, hfz11_1, hfz11_2⟩ := cz3 BK345.out; obtain ⟨hcz12_0, hcz12_1, hcz12_2, hcz12_3, hcz12_4, hcz12_5, hfz12_0, hfz12_1, hfz12_2, hfz12_3, hfz12_4, hfz12_5⟩ := cz6 BK340.out) | ((with_reducible refine gate_callee (f := 23) rfl ?_); refine goesL_ (some 20) rfl rfl Try.func23 (by kernel_rfl) rfl #[.agg #[.int .i64 a0_0, .int .i64 a0_1, .int .i64 a0_2, .int .i64 a0_3, .int .i64 a0_4, .int .i64 a0_5], .int .i64 a1] rfl mB_ ?_; (with_reducible refine (tapearchiveref09_Place.calls k a0_0 a0_1 a0_2 a0_3 a0_4 a0_5 a1 t346 t347 t348 t349 _ A4.out).mono ?_); rintro e w13 ⟨rfl, hb⟩; refine ⟨_, rfl, ?_⟩; have n0_ := Aside0.mk (blk_below (g := gb340) (o := .cells #[.int .i64 a0_0, .int .i64 a0_1, .int .i64 a0_2, .int .i64 a0_3, .int .i64 a0_4, .int .i64 a0_5] 23 (0, 0)) (by (with_reducible repeat (first | refine blk_drewN ?_ _ | refine blk_drew ?_ | refine blk_alloc ?_ _)); refine blk_far ?_ NB340_345.out _; (with_reducible repeat (first | refine blk_drewN ?_ _ | refine blk_drew ?_ | refine blk_alloc ?_ _)); refine blk_far ?_ NB340_345.out _; (with_reducible repeat (first | refine blk_drewN ?_ _ | refine blk_drew ?_ | refine blk_alloc ?_ _)); refine blk_far ?_ NB340_345.out _; (with_reducible repeat (first | refine blk_drewN ?_ _ | refine blk_drew ?_ | refine blk_alloc ?_ _)); exact BK340.out) hb); have n1_ := Aside0.mk (blk_below (g := gb345) (o := .cells #[.int .i64 t341, .int .i64 t342, .bool t343] 32 (0, 0)) (by (with_reducible repeat (first | refine blk_drewN ?_ _ | refine blk_drew ?_ | refine blk_alloc ?_ _)); refine blk_put (cs := #[.int .i64 t341, .int .i64 t342, .bool false]) ?_ 2 _ rfl; (with_reducible repeat (first | refine blk_drewN ?_ _ | refine blk_drew ?_ | refine blk_alloc ?_ _)); refine blk_put (cs := #[.int .i64 t341, .int .i64 0, .bool false]) ?_ 1 _ rfl; (with_reducible repeat (first | refine blk_drewN ?_ _ | refine blk_drew ?_ | refine blk_alloc ?_ _)); refine blk_put (cs := #[.int .i64 0, .int .i64 0, .bool false]) ?_ 0 _ rfl; (with_reducible repeat (first | refine blk_drewN ?_ _ | refine blk_drew ?_ | refine blk_alloc ?_ _)); exact BK345.out) hb); have n2_ := Aside0.mk (below_step bB_ hb); clear BK340; clear BK345; clear HB; have BK340 := n0_; have BK345 := n1_; have HB := n2_; clear n0_ n1_ n2_; (try clear hb); (try clear hb2); (try clear hk); (try clear hi)) | ((with_reducible refine gate_dst (N := 7) rfl ?_); refine box_event ?hg (N := 7) ?hd (cs := #[.int .i64 0, .int .i64 0, .bool false]) (t := 32) ?hr ?_; (case hd => rfl); (case hg => rfl); (case hr => first | (go_simp; done) | (go_simp; rfl)); intro gb350 hg w14 hbox hb; have n0_ := Aside0.mk (blk_below (kB_ BK340.out) hb); have n1_ := Aside0.mk (blk_below (kB_ BK345.out) hb); have n2_ := Aside0.mk (below_step bB_ hb); have n3_ := Aside0.mk (hbox); have n4_ := Aside0.mk (gB_ hg (below_size bB_)); have n5_ := Aside0.mk (gB_ hg (below_size bB_)); have n6_ := Aside0.mk ((by rw [hg]; exact Nat.ne_of_lt (blk_lt (kB_ BK340.out)) : gb340 ≠ gb350)); have n7_ := Aside0.mk ((by rw [hg]; exact Nat.ne_of_gt (blk_lt (kB_ BK340.out)) : gb350 ≠ gb340)); have n8_ := Aside0.mk ((by rw [hg]; exact Nat.ne_of_lt (blk_lt (kB_ BK345.out)) : gb345 ≠ gb350)); have n9_ := Aside0.mk ((by rw [hg]; exact Nat.ne_of_gt (blk_lt (kB_ BK345.out)) : gb350 ≠ gb345)); clear BK340; clear BK345; clear HB; have BK340 := n0_; have BK345 := n1_; have HB := n2_; have BK350 := n3_; have GW350 := n4_; have GE350 := n5_; have NB340_350 := n6_; have NB350_340 := n7_; have NB345_350 := n8_; have NB350_345 := n9_; clear n0_ n1_ n2_ n3_ n4_ n5_ n6_ n7_ n8_ n9_; clear hb hbox hg; have hnb15 := NB350_340.out; have hnc15 := NB340_350.out; have hnb16 := NB350_345.out; have hnc16 := NB345_350.out; obtain ⟨hcz17_0, hcz17_1, hcz17_2, hfz17_0, hfz17_1, hfz17_2⟩ := cz3 BK350.out))
  (try simp only [Act.put, List.setIfInBounds_toArray, List.set_cons_zero, List.set_cons_succ])
  go_cut [44] (fun v44 wc => ∃ (kq : Nat) (x44_4 : Bool), v44 = .bool x44_4 ∧ Aside0 (tapearchivelaw09_SerpentinePlaces.j0 kq a1 t344 x44_4 a0_0 a0_1 a0_2 a0_3 a0_4 a0_5 t341 t342 t343 = some r) ∧ Aside0 (kq ≤ k) ∧ Aside0 (wc.heap[gb340]? = some (.cells #[.int .i64 a0_0, .int .i64 a0_1, .int .i64 a0_2, .int .i64 a0_3, .int .i64 a0_4, .int .i64 a0_5] 23 (0, 0))) ∧ Aside0 (wc.heap[gb345]? = some (.cells #[.int .i64 t341, .int .i64 t342, .bool t343] 32 (0, 0))) ∧ Aside0 (wc.heap[gb350]? = some (.cells #[.int .i64 t346, .int .i64 t347, .bool t348] 32 (0, 0))) ∧ Aside0 (Below w.heap.size w wc))
  case first =>
    have H := HC5.out
    clear HC5
    by_cases c18 : (!(t341 == t346) || (!(t342 == t347) || (!(t343 == t348)))) = true
    · rw [if_pos c18] at H
      have c18b0 : (!(t341 == t346) || (!(t342 == t347) || (!(t343 == t348)))) = true := c18
      clear c18
      (first | rw [c18b0] | (simp only [i64_w, i32_w]; rw [c18b0]) | skip)
      have H' := Aside0.mk H
      clear H
      try go_wp2
      have n0_ : Aside0 ((((w14.setCell ⟨gb350, 0, none⟩ (.int .i64 t346)).setCell ⟨gb350, 1, none⟩ (.int .i64 t347)).setCell ⟨gb350, 2, none⟩ (.bool t348)).heap[gb340]? = some (.cells #[.int .i64 a0_0, .int .i64 a0_1, .int .i64 a0_2, .int .i64 a0_3, .int .i64 a0_4, .int .i64 a0_5] 23 (0, 0))) := ⟨by (with_reducible repeat (first | refine blk_drewN ?_ _ | refine blk_drew ?_ | refine blk_alloc ?_ _)); refine blk_far ?_ NB340_350.out _; (with_reducible repeat (first | refine blk_drewN ?_ _ | refine blk_drew ?_ | refine blk_alloc ?_ _)); refine blk_far ?_ NB340_350.out _; (with_reducible repeat (first | refine blk_drewN ?_ _ | refine blk_drew ?_ | refine blk_alloc ?_ _)); refine blk_far ?_ NB340_350.out _; (with_reducible repeat (first | refine blk_drewN ?_ _ | refine blk_drew ?_ | refine blk_alloc ?_ _)); exact BK340.out⟩
      have n1_ : Aside0 ((((w14.setCell ⟨gb350, 0, none⟩ (.int .i64 t346)).setCell ⟨gb350, 1, none⟩ (.int .i64 t347)).setCell ⟨gb350, 2, none⟩ (.bool t348)).heap[gb345]? = some (.cells #[.int .i64 t341, .int .i64 t342, .bool t343] 32 (0, 0))) := ⟨by (with_reducible repeat (first | refine blk_drewN ?_ _ | refine blk_drew ?_ | refine blk_alloc ?_ _)); refine blk_far ?_ NB345_350.out _; (with_reducible repeat (first | refine blk_drewN ?_ _ | refine blk_drew ?_ | refine blk_alloc ?_ _)); refine blk_far ?_ NB345_350.out _; (with_reducible repeat (first | refine blk_drewN ?_ _ | refine blk_drew ?_ | refine blk_alloc ?_ _)); refine blk_far ?_ NB345_350.out _; (with_reducible repeat (first | refine blk_drewN ?_ _ | refine blk_drew ?_ | refine blk_alloc ?_ _)); exact BK345.out⟩
      have n2_ : Aside0 ((((w14.setCell ⟨gb350, 0, none⟩ (.int .i64 t346)).setCell ⟨gb350, 1, none⟩ (.int .i64 t347)).setCell ⟨gb350, 2, none⟩ (.bool t348)).heap[gb350]? = some (.cells #[.int .i64 t346, .int .i64 t347, .bool t348] 32 (0, 0))) := ⟨by (with_reducible repeat (first | refine blk_drewN ?_ _ | refine blk_drew ?_ | refine blk_alloc ?_ _)); refine blk_put (cs := #[.int .i64 t346, .int .i64 t347, .bool false]) ?_ 2 _ rfl; (with_reducible repeat (first | refine blk_drewN ?_ _ | refine blk_drew ?_ | refine blk_alloc ?_ _)); refine blk_put (cs := #[.int .i64 t346, .int .i64 0, .bool false]) ?_ 1 _ rfl; (with_reducible repeat (first | refine blk_drewN ?_ _ | refine blk_drew ?_ | refine blk_alloc ?_ _)); refine blk_put (cs := #[.int .i64 0, .int .i64 0, .bool false]) ?_ 0 _ rfl; (with_reducible repeat (first | refine blk_drewN ?_ _ | refine blk_drew ?_ | refine blk_alloc ?_ _)); exact BK350.out⟩
      have n3_ : Aside0 (Below w.heap.size w (((w14.setCell ⟨gb350, 0, none⟩ (.int .i64 t346)).setCell ⟨gb350, 1, none⟩ (.int .i64 t347)).setCell ⟨gb350, 2, none⟩ (.bool t348))) := ⟨bB_⟩
      (try clear BK340)
      (try clear BK345)
      (try clear BK350)
      (try clear HB)
      generalize (((w14.setCell ⟨gb350, 0, none⟩ (.int .i64 t346)).setCell ⟨gb350, 1, none⟩ (.int .i64 t347)).setCell ⟨gb350, 2, none⟩ (.bool t348)) = w19 at n0_ n1_ n2_ n3_ ⊢
      have BK340 := n0_
      have BK345 := n1_
      have BK350 := n2_
      have HB := n3_
      clear n0_ n1_ n2_ n3_
      have n0_ := Aside0.mk (blk_drew BK340.out)
      have n1_ := Aside0.mk (blk_drew BK345.out)
      have n2_ := Aside0.mk (blk_drew BK350.out)
      have n3_ := Aside0.mk (below_drew1 HB.out)
      clear BK340
      clear BK345
      clear BK350
      clear HB
      have BK340 := n0_
      have BK345 := n1_
      have BK350 := n2_
      have HB := n3_
      clear n0_ n1_ n2_ n3_
      refine start_ (n := 22) (S := fun w' => w'.cell? ⟨gb345, 0, none⟩ = some (.int .i64 t341) ∧ w'.cell? ⟨gb345, 1, none⟩ = some (.int .i64 t342) ∧ w'.cell? ⟨gb345, 2, none⟩ = some (.bool t343) ∧ w'.cell? ⟨gb350, 0, none⟩ = some (.int .i64 t346) ∧ w'.cell? ⟨gb350, 1, none⟩ = some (.int .i64 t347) ∧ w'.cell? ⟨gb350, 2, none⟩ = some (.bool t348)) (ds := []) #[f_,f_,f_,f_,f_,f_,f_,f_,f_,f_,f_,f_,f_,f_,f_,f_,f_,f_,f_,f_,f_,f_] (by kernel_rfl) rfl rfl ⟨(blk_cell BK345.out 0).trans rfl, (blk_cell BK345.out 1).trans rfl, (blk_cell BK345.out 2).trans rfl, (blk_cell BK350.out 0).trans rfl, (blk_cell BK350.out 1).trans rfl, (blk_cell BK350.out 2).trans rfl⟩ (fun hHeld => ?_); refine with_tabW tapearchivelaw09_SerpentinePlaces.tab3 tapearchivelaw09_SerpentinePlaces.bits3 (fun HT_ HW_ => ?_)
      generalize w19.drew = w20 at BK340 BK345 BK350 HB hHeld ⊢
      refine take_ (i := 0) (N := some 23) (v := ?_) (a' := ?_) #[t_,f_,f_,f_,f_,f_,f_,f_,f_,f_,f_,f_,f_,f_,f_,f_,f_,f_,f_,f_,f_,f_] rfl rfl (take_ofW HT_.out HW_.out (by kernel_rfl)) (fun _ _ _ h => h) (Or.inl ⟨by rfl, ?_⟩) hHeld ?_ ?_
      rotate_left
      · rintro w' ⟨s0, s1, s2, s3, s4, s5⟩
        go_simp
        with_reducible rfl
      rotate_left
      · simp only [Act.put, pW_]
        rfl
      refine take_ (i := 1) (N := some 24) (v := ?_) (a' := ?_) #[t_,t_,f_,f_,f_,f_,f_,f_,f_,f_,f_,f_,f_,f_,f_,f_,f_,f_,f_,f_,f_,f_] rfl rfl (take_ofW HT_.out HW_.out (by kernel_rfl)) (fun _ _ _ h => h) (Or.inl ⟨by rfl, ?_⟩) hHeld ?_ ?_
      rotate_left
      · rintro w' ⟨s0, s1, s2, s3, s4, s5⟩
        go_simp
        with_reducible rfl
      rotate_left
      · simp only [Act.put, pW_]
        rfl
      refine pure_ (i := 2) (N := some 25) (v := ?_) (a' := ?_) #[t_,t_,t_,f_,f_,f_,f_,f_,f_,f_,f_,f_,f_,f_,f_,f_,f_,f_,f_,f_,f_,f_] rfl rfl (any_of HT_.out (by kernel_rfl)) (fun _ _ _ h => h) (Or.inl ⟨by rfl, ?_⟩) ?_ ?_
      rotate_left
      · intro w'
        go_simp
        with_reducible rfl
      rotate_left
      · simp only [Act.put, pW_]
        rfl
      refine pure_ (i := 3) (N := some 26) (v := ?_) (a' := ?_) #[t_,t_,t_,t_,f_,f_,f_,f_,f_,f_,f_,f_,f_,f_,f_,f_,f_,f_,f_,f_,f_,f_] rfl rfl (any_of HT_.out (by kernel_rfl)) (fun _ _ _ h => h) (Or.inl ⟨by rfl, ?_⟩) ?_ ?_
      rotate_left
      · intro w'
        go_simp
        with_reducible rfl
      rotate_left
      · simp only [Act.put, pW_]
        rfl
      refine pure_ (i := 4) (N := some 27) (v := undef) (a' := ?_) #[t_,t_,t_,t_,t_,f_,f_,f_,f_,f_,f_,f_,f_,f_,f_,f_,f_,f_,f_,f_,f_,f_] rfl rfl (any_of HT_.out (by kernel_rfl)) (fun _ _ _ h => h) (Or.inr ⟨by rfl, rfl⟩) ?_ ?_
      rotate_left
      · simp only [Act.put, pW_]
        rfl
      refine pure_ (i := 5) (N := some 28) (v := undef) (a' := ?_) #[t_,t_,t_,t_,t_,t_,f_,f_,f_,f_,f_,f_,f_,f_,f_,f_,f_,f_,f_,f_,f_,f_] rfl rfl (any_of HT_.out (by kernel_rfl)) (fun _ _ _ h => h) (Or.inr ⟨by rfl, rfl⟩) ?_ ?_
      rotate_left
      · simp only [Act.put, pW_]
        rfl
      refine pure_ (i := 6) (N := some 29) (v := undef) (a' := ?_) #[t_,t_,t_,t_,t_,t_,t_,f_,f_,f_,f_,f_,f_,f_,f_,f_,f_,f_,f_,f_,f_,f_] rfl rfl (any_of HT_.out (by kernel_rfl)) (fun _ _ _ h => h) (Or.inr ⟨by rfl, rfl⟩) ?_ ?_
      rotate_left
      · simp only [Act.put, pW_]
        rfl
      refine pure_ (i := 7) (N := some 30) (v := ?_) (a' := ?_) #[t_,t_,t_,t_,t_,t_,t_,t_,f_,f_,f_,f_,f_,f_,f_,f_,f_,f_,f_,f_,f_,f_] rfl rfl (any_of HT_.out (by kernel_rfl)) (fun _ _ _ h => h) (Or.inl ⟨by rfl, ?_⟩) ?_ ?_
      rotate_left
      · intro w'
        go_simp
        with_reducible rfl
      rotate_left
      · simp only [Act.put, pW_]
        rfl
      refine pure_ (i := 8) (N := some 31) (v := ?_) (a' := ?_) #[t_,t_,t_,t_,t_,t_,t_,t_,t_,f_,f_,f_,f_,f_,f_,f_,f_,f_,f_,f_,f_,f_] rfl rfl (any_of HT_.out (by kernel_rfl)) (fun _ _ _ h => h) (Or.inl ⟨by rfl, ?_⟩) ?_ ?_
      rotate_left
      · intro w'
        go_simp
        with_reducible rfl
      rotate_left
      · simp only [Act.put, pW_]
        rfl
      refine pure_ (i := 9) (N := some 32) (v := undef) (a' := ?_) #[t_,t_,t_,t_,t_,t_,t_,t_,t_,t_,f_,f_,f_,f_,f_,f_,f_,f_,f_,f_,f_,f_] rfl rfl (any_of HT_.out (by kernel_rfl)) (fun _ _ _ h => h) (Or.inr ⟨by rfl, rfl⟩) ?_ ?_
      rotate_left
      · simp only [Act.put, pW_]
        rfl
      refine pure_ (i := 10) (N := some 33) (v := undef) (a' := ?_) #[t_,t_,t_,t_,t_,t_,t_,t_,t_,t_,t_,f_,f_,f_,f_,f_,f_,f_,f_,f_,f_,f_] rfl rfl (any_of HT_.out (by kernel_rfl)) (fun _ _ _ h => h) (Or.inr ⟨by rfl, rfl⟩) ?_ ?_
      rotate_left
      · simp only [Act.put, pW_]
        rfl
      refine pure_ (i := 11) (N := some 34) (v := undef) (a' := ?_) #[t_,t_,t_,t_,t_,t_,t_,t_,t_,t_,t_,t_,f_,f_,f_,f_,f_,f_,f_,f_,f_,f_] rfl rfl (any_of HT_.out (by kernel_rfl)) (fun _ _ _ h => h) (Or.inr ⟨by rfl, rfl⟩) ?_ ?_
      rotate_left
      · simp only [Act.put, pW_]
        rfl
      refine pure_ (i := 12) (N := some 35) (v := undef) (a' := ?_) #[t_,t_,t_,t_,t_,t_,t_,t_,t_,t_,t_,t_,t_,f_,f_,f_,f_,f_,f_,f_,f_,f_] rfl rfl (any_of HT_.out (by kernel_rfl)) (fun _ _ _ h => h) (Or.inr ⟨by rfl, rfl⟩) ?_ ?_
      rotate_left
      · simp only [Act.put, pW_]
        rfl
      refine pure_ (i := 13) (N := some 36) (v := undef) (a' := ?_) #[t_,t_,t_,t_,t_,t_,t_,t_,t_,t_,t_,t_,t_,t_,f_,f_,f_,f_,f_,f_,f_,f_] rfl rfl (any_of HT_.out (by kernel_rfl)) (fun _ _ _ h => h) (Or.inr ⟨by rfl, rfl⟩) ?_ ?_
      rotate_left
      · simp only [Act.put, pW_]
        rfl
      refine pure_ (i := 14) (N := some 37) (v := ?_) (a' := ?_) #[t_,t_,t_,t_,t_,t_,t_,t_,t_,t_,t_,t_,t_,t_,t_,f_,f_,f_,f_,f_,f_,f_] rfl rfl (any_of HT_.out (by kernel_rfl)) (fun _ _ _ h => h) (Or.inl ⟨by rfl, ?_⟩) ?_ ?_
      rotate_left
      · intro w'
        go_simp
        with_reducible rfl
      rotate_left
      · simp only [Act.put, pW_]
        rfl
      refine pure_ (i := 15) (N := some 38) (v := ?_) (a' := ?_) #[t_,t_,t_,t_,t_,t_,t_,t_,t_,t_,t_,t_,t_,t_,t_,t_,f_,f_,f_,f_,f_,f_] rfl rfl (any_of HT_.out (by kernel_rfl)) (fun _ _ _ h => h) (Or.inl ⟨by rfl, ?_⟩) ?_ ?_
      rotate_left
      · intro w'
        go_simp
        with_reducible rfl
      rotate_left
      · simp only [Act.put, pW_]
        rfl
      refine pure_ (i := 16) (N := some 39) (v := undef) (a' := ?_) #[t_,t_,t_,t_,t_,t_,t_,t_,t_,t_,t_,t_,t_,t_,t_,t_,t_,f_,f_,f_,f_,f_] rfl rfl (any_of HT_.out (by kernel_rfl)) (fun _ _ _ h => h) (Or.inr ⟨by rfl, rfl⟩) ?_ ?_
      rotate_left
      · simp only [Act.put, pW_]
        rfl
      refine pure_ (i := 17) (N := some 40) (v := undef) (a' := ?_) #[t_,t_,t_,t_,t_,t_,t_,t_,t_,t_,t_,t_,t_,t_,t_,t_,t_,t_,f_,f_,f_,f_] rfl rfl (any_of HT_.out (by kernel_rfl)) (fun _ _ _ h => h) (Or.inr ⟨by rfl, rfl⟩) ?_ ?_
      rotate_left
      · simp only [Act.put, pW_]
        rfl
      refine pure_ (i := 18) (N := some 41) (v := undef) (a' := ?_) #[t_,t_,t_,t_,t_,t_,t_,t_,t_,t_,t_,t_,t_,t_,t_,t_,t_,t_,t_,f_,f_,f_] rfl rfl (any_of HT_.out (by kernel_rfl)) (fun _ _ _ h => h) (Or.inr ⟨by rfl, rfl⟩) ?_ ?_
      rotate_left
      · simp only [Act.put, pW_]
        rfl
      refine pure_ (i := 19) (N := some 42) (v := undef) (a' := ?_) #[t_,t_,t_,t_,t_,t_,t_,t_,t_,t_,t_,t_,t_,t_,t_,t_,t_,t_,t_,t_,f_,f_] rfl rfl (any_of HT_.out (by kernel_rfl)) (fun _ _ _ h => h) (Or.inr ⟨by rfl, rfl⟩) ?_ ?_
      rotate_left
      · simp only [Act.put, pW_]
        rfl
      refine pure_ (i := 20) (N := some 43) (v := undef) (a' := ?_) #[t_,t_,t_,t_,t_,t_,t_,t_,t_,t_,t_,t_,t_,t_,t_,t_,t_,t_,t_,t_,t_,f_] rfl rfl (any_of HT_.out (by kernel_rfl)) (fun _ _ _ h => h) (Or.inr ⟨by rfl, rfl⟩) ?_ ?_
      rotate_left
      · simp only [Act.put, pW_]
        rfl
      refine pure_ (i := 21) (N := some 44) (v := ?_) (a' := ?_) #[t_,t_,t_,t_,t_,t_,t_,t_,t_,t_,t_,t_,t_,t_,t_,t_,t_,t_,t_,t_,t_,t_] rfl rfl (any_of HT_.out (by kernel_rfl)) (fun _ _ _ h => h) (Or.inl ⟨by rfl, ?_⟩) ?_ ?_
      rotate_left
      · intro w'
        go_simp
        with_reducible rfl
      rotate_left
      · simp only [Act.put, pW_]
        rfl
      refine done_ (done_of HT_.out (by kernel_rfl)) ?_
      try go_wp2
      go_meet
      case rel => exact ⟨_, (true), (by first | rfl | (simp; done) | (simp [*]; done)), H', ⟨by first | omega | exact Nat.le_refl _⟩, ⟨by (with_reducible repeat (first | refine blk_drewN ?_ _ | refine blk_drew ?_ | refine blk_alloc ?_ _)); exact BK340.out⟩, ⟨by (with_reducible repeat (first | refine blk_drewN ?_ _ | refine blk_drew ?_ | refine blk_alloc ?_ _)); exact BK345.out⟩, ⟨by (with_reducible repeat (first | refine blk_drewN ?_ _ | refine blk_drew ?_ | refine blk_alloc ?_ _)); exact BK350.out⟩, ⟨bB_⟩⟩
    · rw [if_neg c18] at H
      have c18b0 : (!(t341 == t346) || (!(t342 == t347) || (!(t343 == t348)))) = false := by simpa using c18
      clear c18
      (first | rw [c18b0] | (simp only [i64_w, i32_w]; rw [c18b0]) | skip)
      by_cases c21 : (t344 != t349) = true
      · rw [if_pos c21] at H
        have c21b0 : (t344 != t349) = true := c21
        (try (have c21b1 : decide (t344 = t349) = false := by simpa using c21))
        (try (have c21b2 : (t344 == t349) = false := by simpa using c21))
        (try (have c21b3 : ¬ (t344 = t349) := by simpa using c21))
        clear c21
        have H' := Aside0.mk H
        clear H
        try go_wp2
        have n0_ : Aside0 ((((w14.setCell ⟨gb350, 0, none⟩ (.int .i64 t346)).setCell ⟨gb350, 1, none⟩ (.int .i64 t347)).setCell ⟨gb350, 2, none⟩ (.bool t348)).heap[gb340]? = some (.cells #[.int .i64 a0_0, .int .i64 a0_1, .int .i64 a0_2, .int .i64 a0_3, .int .i64 a0_4, .int .i64 a0_5] 23 (0, 0))) := ⟨by (with_reducible repeat (first | refine blk_drewN ?_ _ | refine blk_drew ?_ | refine blk_alloc ?_ _)); refine blk_far ?_ NB340_350.out _; (with_reducible repeat (first | refine blk_drewN ?_ _ | refine blk_drew ?_ | refine blk_alloc ?_ _)); refine blk_far ?_ NB340_350.out _; (with_reducible repeat (first | refine blk_drewN ?_ _ | refine blk_drew ?_ | refine blk_alloc ?_ _)); refine blk_far ?_ NB340_350.out _; (with_reducible repeat (first | refine blk_drewN ?_ _ | refine blk_drew ?_ | refine blk_alloc ?_ _)); exact BK340.out⟩
        have n1_ : Aside0 ((((w14.setCell ⟨gb350, 0, none⟩ (.int .i64 t346)).setCell ⟨gb350, 1, none⟩ (.int .i64 t347)).setCell ⟨gb350, 2, none⟩ (.bool t348)).heap[gb345]? = some (.cells #[.int .i64 t341, .int .i64 t342, .bool t343] 32 (0, 0))) := ⟨by (with_reducible repeat (first | refine blk_drewN ?_ _ | refine blk_drew ?_ | refine blk_alloc ?_ _)); refine blk_far ?_ NB345_350.out _; (with_reducible repeat (first | refine blk_drewN ?_ _ | refine blk_drew ?_ | refine blk_alloc ?_ _)); refine blk_far ?_ NB345_350.out _; (with_reducible repeat (first | refine blk_drewN ?_ _ | refine blk_drew ?_ | refine blk_alloc ?_ _)); refine blk_far ?_ NB345_350.out _; (with_reducible repeat (first | refine blk_drewN ?_ _ | refine blk_drew ?_ | refine blk_alloc ?_ _)); exact BK345.out⟩
        have n2_ : Aside0 ((((w14.setCell ⟨gb350, 0, none⟩ (.int .i64 t346)).setCell ⟨gb350, 1, none⟩ (.int .i64 t347)).setCell ⟨gb350, 2, none⟩ (.bool t348)).heap[gb350]? = some (.cells #[.int .i64 t346, .int .i64 t347, .bool t348] 32 (0, 0))) := ⟨by (with_reducible repeat (first | refine blk_drewN ?_ _ | refine blk_drew ?_ | refine blk_alloc ?_ _)); refine blk_put (cs := #[.int .i64 t346, .int .i64 t347, .bool false]) ?_ 2 _ rfl; (with_reducible repeat (first | refine blk_drewN ?_ _ | refine blk_drew ?_ | refine blk_alloc ?_ _)); refine blk_put (cs := #[.int .i64 t346, .int .i64 0, .bool false]) ?_ 1 _ rfl; (with_reducible repeat (first | refine blk_drewN ?_ _ | refine blk_drew ?_ | refine blk_alloc ?_ _)); refine blk_put (cs := #[.int .i64 0, .int .i64 0, .bool false]) ?_ 0 _ rfl; (with_reducible repeat (first | refine blk_drewN ?_ _ | refine blk_drew ?_ | refine blk_alloc ?_ _)); exact BK350.out⟩
        have n3_ : Aside0 (Below w.heap.size w (((w14.setCell ⟨gb350, 0, none⟩ (.int .i64 t346)).setCell ⟨gb350, 1, none⟩ (.int .i64 t347)).setCell ⟨gb350, 2, none⟩ (.bool t348))) := ⟨bB_⟩
        (try clear BK340)
        (try clear BK345)
        (try clear BK350)
        (try clear HB)
        generalize (((w14.setCell ⟨gb350, 0, none⟩ (.int .i64 t346)).setCell ⟨gb350, 1, none⟩ (.int .i64 t347)).setCell ⟨gb350, 2, none⟩ (.bool t348)) = w22 at n0_ n1_ n2_ n3_ ⊢
        have BK340 := n0_
        have BK345 := n1_
        have BK350 := n2_
        have HB := n3_
        clear n0_ n1_ n2_ n3_
        have n0_ := Aside0.mk (blk_drew BK340.out)
        have n1_ := Aside0.mk (blk_drew BK345.out)
        have n2_ := Aside0.mk (blk_drew BK350.out)
        have n3_ := Aside0.mk (below_drew1 HB.out)
        clear BK340
        clear BK345
        clear BK350
        clear HB
        have BK340 := n0_
        have BK345 := n1_
        have BK350 := n2_
        have HB := n3_
        clear n0_ n1_ n2_ n3_
        refine start_ (n := 22) (S := fun w' => w'.cell? ⟨gb345, 0, none⟩ = some (.int .i64 t341) ∧ w'.cell? ⟨gb345, 1, none⟩ = some (.int .i64 t342) ∧ w'.cell? ⟨gb345, 2, none⟩ = some (.bool t343) ∧ w'.cell? ⟨gb350, 0, none⟩ = some (.int .i64 t346) ∧ w'.cell? ⟨gb350, 1, none⟩ = some (.int .i64 t347) ∧ w'.cell? ⟨gb350, 2, none⟩ = some (.bool t348)) (ds := []) #[f_,f_,f_,f_,f_,f_,f_,f_,f_,f_,f_,f_,f_,f_,f_,f_,f_,f_,f_,f_,f_,f_] (by kernel_rfl) rfl rfl ⟨(blk_cell BK345.out 0).trans rfl, (blk_cell BK345.out 1).trans rfl, (blk_cell BK345.out 2).trans rfl, (blk_cell BK350.out 0).trans rfl, (blk_cell BK350.out 1).trans rfl, (blk_cell BK350.out 2).trans rfl⟩ (fun hHeld => ?_); refine with_tabW tapearchivelaw09_SerpentinePlaces.tab3 tapearchivelaw09_SerpentinePlaces.bits3 (fun HT_ HW_ => ?_)
        generalize w22.drew = w23 at BK340 BK345 BK350 HB hHeld ⊢
        refine take_ (i := 0) (N := some 23) (v := ?_) (a' := ?_) #[t_,f_,f_,f_,f_,f_,f_,f_,f_,f_,f_,f_,f_,f_,f_,f_,f_,f_,f_,f_,f_,f_] rfl rfl (take_ofW HT_.out HW_.out (by kernel_rfl)) (fun _ _ _ h => h) (Or.inl ⟨by rfl, ?_⟩) hHeld ?_ ?_
        rotate_left
        · rintro w' ⟨s0, s1, s2, s3, s4, s5⟩
          go_simp
          with_reducible rfl
        rotate_left
        · simp only [Act.put, pW_]
          rfl
        refine take_ (i := 1) (N := some 24) (v := ?_) (a' := ?_) #[t_,t_,f_,f_,f_,f_,f_,f_,f_,f_,f_,f_,f_,f_,f_,f_,f_,f_,f_,f_,f_,f_] rfl rfl (take_ofW HT_.out HW_.out (by kernel_rfl)) (fun _ _ _ h => h) (Or.inl ⟨by rfl, ?_⟩) hHeld ?_ ?_
        rotate_left
        · rintro w' ⟨s0, s1, s2, s3, s4, s5⟩
          go_simp
          with_reducible rfl
        rotate_left
        · simp only [Act.put, pW_]
          rfl
        refine pure_ (i := 2) (N := some 25) (v := ?_) (a' := ?_) #[t_,t_,t_,f_,f_,f_,f_,f_,f_,f_,f_,f_,f_,f_,f_,f_,f_,f_,f_,f_,f_,f_] rfl rfl (any_of HT_.out (by kernel_rfl)) (fun _ _ _ h => h) (Or.inl ⟨by rfl, ?_⟩) ?_ ?_
        rotate_left
        · intro w'
          go_simp
          with_reducible rfl
        rotate_left
        · simp only [Act.put, pW_]
          rfl
        refine pure_ (i := 3) (N := some 26) (v := ?_) (a' := ?_) #[t_,t_,t_,t_,f_,f_,f_,f_,f_,f_,f_,f_,f_,f_,f_,f_,f_,f_,f_,f_,f_,f_] rfl rfl (any_of HT_.out (by kernel_rfl)) (fun _ _ _ h => h) (Or.inl ⟨by rfl, ?_⟩) ?_ ?_
        rotate_left
        · intro w'
          go_simp
          with_reducible rfl
        rotate_left
        · simp only [Act.put, pW_]
          rfl
        refine pure_ (i := 4) (N := some 27) (v := ?_) (a' := ?_) #[t_,t_,t_,t_,t_,f_,f_,f_,f_,f_,f_,f_,f_,f_,f_,f_,f_,f_,f_,f_,f_,f_] rfl rfl (any_of HT_.out (by kernel_rfl)) (fun _ _ _ h => h) (Or.inl ⟨by rfl, ?_⟩) ?_ ?_
        rotate_left
        · intro w'
          go_simp
          with_reducible rfl
        rotate_left
        · simp only [Act.put, pW_]
          rfl
        refine pure_ (i := 5) (N := some 28) (v := ?_) (a' := ?_) #[t_,t_,t_,t_,t_,t_,f_,f_,f_,f_,f_,f_,f_,f_,f_,f_,f_,f_,f_,f_,f_,f_] rfl rfl (any_of HT_.out (by kernel_rfl)) (fun _ _ _ h => h) (Or.inl ⟨by rfl, ?_⟩) ?_ ?_
        rotate_left
        · intro w'
          go_simp
          with_reducible rfl
        rotate_left
        · simp only [Act.put, pW_]
          rfl
        refine pure_ (i := 6) (N := some 29) (v := ?_) (a' := ?_) #[t_,t_,t_,t_,t_,t_,t_,f_,f_,f_,f_,f_,f_,f_,f_,f_,f_,f_,f_,f_,f_,f_] rfl rfl (any_of HT_.out (by kernel_rfl)) (fun _ _ _ h => h) (Or.inl ⟨by rfl, ?_⟩) ?_ ?_
        rotate_left
        · intro w'
          go_simp
          with_reducible rfl
        rotate_left
        · simp only [Act.put, pW_]
          rfl
        refine pure_ (i := 7) (N := some 30) (v := ?_) (a' := ?_) #[t_,t_,t_,t_,t_,t_,t_,t_,f_,f_,f_,f_,f_,f_,f_,f_,f_,f_,f_,f_,f_,f_] rfl rfl (any_of HT_.out (by kernel_rfl)) (fun _ _ _ h => h) (Or.inl ⟨by rfl, ?_⟩) ?_ ?_
        rotate_left
        · intro w'
          go_simp
          with_reducible rfl
        rotate_left
        · simp only [Act.put, pW_]
          rfl
        refine pure_ (i := 8) (N := some 31) (v := ?_) (a' := ?_) #[t_,t_,t_,t_,t_,t_,t_,t_,t_,f_,f_,f_,f_,f_,f_,f_,f_,f_,f_,f_,f_,f_] rfl rfl (any_of HT_.out (by kernel_rfl)) (fun _ _ _ h => h) (Or.inl ⟨by rfl, ?_⟩) ?_ ?_
        rotate_left
        · intro w'
          go_simp
          with_reducible rfl
        rotate_left
        · simp only [Act.put, pW_]
          rfl
        refine pure_ (i := 9) (N := some 32) (v := undef) (a' := ?_) #[t_,t_,t_,t_,t_,t_,t_,t_,t_,t_,f_,f_,f_,f_,f_,f_,f_,f_,f_,f_,f_,f_] rfl rfl (any_of HT_.out (by kernel_rfl)) (fun _ _ _ h => h) (Or.inr ⟨by rfl, rfl⟩) ?_ ?_
        rotate_left
        · simp only [Act.put, pW_]
          rfl
        refine pure_ (i := 10) (N := some 33) (v := undef) (a' := ?_) #[t_,t_,t_,t_,t_,t_,t_,t_,t_,t_,t_,f_,f_,f_,f_,f_,f_,f_,f_,f_,f_,f_] rfl rfl (any_of HT_.out (by kernel_rfl)) (fun _ _ _ h => h) (Or.inr ⟨by rfl, rfl⟩) ?_ ?_
        rotate_left
        · simp only [Act.put, pW_]
          rfl
        refine pure_ (i := 11) (N := some 34) (v := undef) (a' := ?_) #[t_,t_,t_,t_,t_,t_,t_,t_,t_,t_,t_,t_,f_,f_,f_,f_,f_,f_,f_,f_,f_,f_] rfl rfl (any_of HT_.out (by kernel_rfl)) (fun _ _ _ h => h) (Or.inr ⟨by rfl, rfl⟩) ?_ ?_
        rotate_left
        · simp only [Act.put, pW_]
          rfl
        refine pure_ (i := 12) (N := some 35) (v := undef) (a' := ?_) #[t_,t_,t_,t_,t_,t_,t_,t_,t_,t_,t_,t_,t_,f_,f_,f_,f_,f_,f_,f_,f_,f_] rfl rfl (any_of HT_.out (by kernel_rfl)) (fun _ _ _ h => h) (Or.inr ⟨by rfl, rfl⟩) ?_ ?_
        rotate_left
        · simp only [Act.put, pW_]
          rfl
        refine pure_ (i := 13) (N := some 36) (v := undef) (a' := ?_) #[t_,t_,t_,t_,t_,t_,t_,t_,t_,t_,t_,t_,t_,t_,f_,f_,f_,f_,f_,f_,f_,f_] rfl rfl (any_of HT_.out (by kernel_rfl)) (fun _ _ _ h => h) (Or.inr ⟨by rfl, rfl⟩) ?_ ?_
        rotate_left
        · simp only [Act.put, pW_]
          rfl
        refine pure_ (i := 14) (N := some 37) (v := ?_) (a' := ?_) #[t_,t_,t_,t_,t_,t_,t_,t_,t_,t_,t_,t_,t_,t_,t_,f_,f_,f_,f_,f_,f_,f_] rfl rfl (any_of HT_.out (by kernel_rfl)) (fun _ _ _ h => h) (Or.inl ⟨by rfl, ?_⟩) ?_ ?_
        rotate_left
        · intro w'
          go_simp
          with_reducible rfl
        rotate_left
        · simp only [Act.put, pW_]
          rfl
        refine pure_ (i := 15) (N := some 38) (v := ?_) (a' := ?_) #[t_,t_,t_,t_,t_,t_,t_,t_,t_,t_,t_,t_,t_,t_,t_,t_,f_,f_,f_,f_,f_,f_] rfl rfl (any_of HT_.out (by kernel_rfl)) (fun _ _ _ h => h) (Or.inl ⟨by rfl, ?_⟩) ?_ ?_
        rotate_left
        · intro w'
          go_simp
          with_reducible rfl
        rotate_left
        · simp only [Act.put, pW_]
          rfl
        refine pure_ (i := 16) (N := some 39) (v := undef) (a' := ?_) #[t_,t_,t_,t_,t_,t_,t_,t_,t_,t_,t_,t_,t_,t_,t_,t_,t_,f_,f_,f_,f_,f_] rfl rfl (any_of HT_.out (by kernel_rfl)) (fun _ _ _ h => h) (Or.inr ⟨by rfl, rfl⟩) ?_ ?_
        rotate_left
        · simp only [Act.put, pW_]
          rfl
        refine pure_ (i := 17) (N := some 40) (v := undef) (a' := ?_) #[t_,t_,t_,t_,t_,t_,t_,t_,t_,t_,t_,t_,t_,t_,t_,t_,t_,t_,f_,f_,f_,f_] rfl rfl (any_of HT_.out (by kernel_rfl)) (fun _ _ _ h => h) (Or.inr ⟨by rfl, rfl⟩) ?_ ?_
        rotate_left
        · simp only [Act.put, pW_]
          rfl
        refine pure_ (i := 18) (N := some 41) (v := undef) (a' := ?_) #[t_,t_,t_,t_,t_,t_,t_,t_,t_,t_,t_,t_,t_,t_,t_,t_,t_,t_,t_,f_,f_,f_] rfl rfl (any_of HT_.out (by kernel_rfl)) (fun _ _ _ h => h) (Or.inr ⟨by rfl, rfl⟩) ?_ ?_
        rotate_left
        · simp only [Act.put, pW_]
          rfl
        refine pure_ (i := 19) (N := some 42) (v := undef) (a' := ?_) #[t_,t_,t_,t_,t_,t_,t_,t_,t_,t_,t_,t_,t_,t_,t_,t_,t_,t_,t_,t_,f_,f_] rfl rfl (any_of HT_.out (by kernel_rfl)) (fun _ _ _ h => h) (Or.inr ⟨by rfl, rfl⟩) ?_ ?_
        rotate_left
        · simp only [Act.put, pW_]
          rfl
        refine pure_ (i := 20) (N := some 43) (v := undef) (a' := ?_) #[t_,t_,t_,t_,t_,t_,t_,t_,t_,t_,t_,t_,t_,t_,t_,t_,t_,t_,t_,t_,t_,f_] rfl rfl (any_of HT_.out (by kernel_rfl)) (fun _ _ _ h => h) (Or.inr ⟨by rfl, rfl⟩) ?_ ?_
        rotate_left
        · simp only [Act.put, pW_]
          rfl
        refine pure_ (i := 21) (N := some 44) (v := ?_) (a' := ?_) #[t_,t_,t_,t_,t_,t_,t_,t_,t_,t_,t_,t_,t_,t_,t_,t_,t_,t_,t_,t_,t_,t_] rfl rfl (any_of HT_.out (by kernel_rfl)) (fun _ _ _ h => h) (Or.inl ⟨by rfl, ?_⟩) ?_ ?_
        rotate_left
        · intro w'
          go_simp
          with_reducible rfl
        rotate_left
        · simp only [Act.put, pW_]
          rfl
        refine done_ (done_of HT_.out (by kernel_rfl)) ?_
        try go_wp2
        go_meet
        case rel => exact ⟨_, (true), (by first | rfl | (simp; done) | (simp [*]; done)), H', ⟨by first | omega | exact Nat.le_refl _⟩, ⟨by (with_reducible repeat (first | refine blk_drewN ?_ _ | refine blk_drew ?_ | refine blk_alloc ?_ _)); exact BK340.out⟩, ⟨by (with_reducible repeat (first | refine blk_drewN ?_ _ | refine blk_drew ?_ | refine blk_alloc ?_ _)); exact BK345.out⟩, ⟨by (with_reducible repeat (first | refine blk_drewN ?_ _ | refine blk_drew ?_ | refine blk_alloc ?_ _)); exact BK350.out⟩, ⟨bB_⟩⟩
      · rw [if_neg c21] at H
        have c21b0 : (t344 != t349) = false := by simpa using c21
        (try (have c21b1 : decide (t344 = t349) = true := by simpa using c21))
        (try (have c21b2 : (t344 == t349) = true := by simpa using c21))
        clear c21
        replace H := Option.bind_eq_some_iff.mp H
        obtain ⟨t351, A240, H⟩ := H
        replace H : ((tapearchiveref09_Valid.f k a0_0 a0_1 a0_2 a0_3 a0_4 a0_5).bind fun t352 => (if (t351 != t352) = true then (tapearchivelaw09_SerpentinePlaces.j0 k a1 t344 true a0_0 a0_1 a0_2 a0_3 a0_4 a0_5 t341 t342 t343) else ((serpentine_Capacity.f k a0_0 a0_1 a0_2 a0_3 a0_4 a0_5).bind fun t353 => ((tapearchiveref09_Capacity.f k a0_0 a0_1 a0_2 a0_3 a0_4 a0_5).bind fun t354 => (tapearchivelaw09_SerpentinePlaces.j0 k a1 t344 (t353 != t354) a0_0 a0_1 a0_2 a0_3 a0_4 a0_5 t341 t342 t343))))) = some r := H
        have A24 := Aside0.mk A240
        clear A240
        replace H := Option.bind_eq_some_iff.mp H
        obtain ⟨t352, A250, H⟩ := H
        replace H : (if (t351 != t352) = true then (tapearchivelaw09_SerpentinePlaces.j0 k a1 t344 true a0_0 a0_1 a0_2 a0_3 a0_4 a0_5 t341 t342 t343) else ((serpentine_Capacity.f k a0_0 a0_1 a0_2 a0_3 a0_4 a0_5).bind fun t353 => ((tapearchiveref09_Capacity.f k a0_0 a0_1 a0_2 a0_3 a0_4 a0_5).bind fun t354 => (tapearchivelaw09_SerpentinePlaces.j0 k a1 t344 (t353 != t354) a0_0 a0_1 a0_2 a0_3 a0_4 a0_5 t341 t342 t343)))) = some r := H
        have A25 := Aside0.mk A250
        clear A250
        by_cases c26 : (t351 != t352) = true
        · rw [if_pos c26] at H
          have c26b0 : (t351 != t352) = true := c26
          (try (have c26b1 : decide (t351 = t352) = false := by simpa using c26))
          (try (have c26b2 : (t351 == t352) = false := by simpa using c26))
          (try (have c26b3 : ¬ (t351 = t352) := by simpa using c26))
          clear c26
          have H' := Aside0.mk H
          clear H
          try go_wp2
          have n0_ : Aside0 ((((w14.setCell ⟨gb350, 0, none⟩ (.int .i64 t346)).setCell ⟨gb350, 1, none⟩ (.int .i64 t347)).setCell ⟨gb350, 2, none⟩ (.bool t348)).heap[gb340]? = some (.cells #[.int .i64 a0_0, .int .i64 a0_1, .int .i64 a0_2, .int .i64 a0_3, .int .i64 a0_4, .int .i64 a0_5] 23 (0, 0))) := ⟨by (with_reducible repeat (first | refine blk_drewN ?_ _ | refine blk_drew ?_ | refine blk_alloc ?_ _)); refine blk_far ?_ NB340_350.out _; (with_reducible repeat (first | refine blk_drewN ?_ _ | refine blk_drew ?_ | refine blk_alloc ?_ _)); refine blk_far ?_ NB340_350.out _; (with_reducible repeat (first | refine blk_drewN ?_ _ | refine blk_drew ?_ | refine blk_alloc ?_ _)); refine blk_far ?_ NB340_350.out _; (with_reducible repeat (first | refine blk_drewN ?_ _ | refine blk_drew ?_ | refine blk_alloc ?_ _)); exact BK340.out⟩
          have n1_ : Aside0 ((((w14.setCell ⟨gb350, 0, none⟩ (.int .i64 t346)).setCell ⟨gb350, 1, none⟩ (.int .i64 t347)).setCell ⟨gb350, 2, none⟩ (.bool t348)).heap[gb345]? = some (.cells #[.int .i64 t341, .int .i64 t342, .bool t343] 32 (0, 0))) := ⟨by (with_reducible repeat (first | refine blk_drewN ?_ _ | refine blk_drew ?_ | refine blk_alloc ?_ _)); refine blk_far ?_ NB345_350.out _; (with_reducible repeat (first | refine blk_drewN ?_ _ | refine blk_drew ?_ | refine blk_alloc ?_ _)); refine blk_far ?_ NB345_350.out _; (with_reducible repeat (first | refine blk_drewN ?_ _ | refine blk_drew ?_ | refine blk_alloc ?_ _)); refine blk_far ?_ NB345_350.out _; (with_reducible repeat (first | refine blk_drewN ?_ _ | refine blk_drew ?_ | refine blk_alloc ?_ _)); exact BK345.out⟩
          have n2_ : Aside0 ((((w14.setCell ⟨gb350, 0, none⟩ (.int .i64 t346)).setCell ⟨gb350, 1, none⟩ (.int .i64 t347)).setCell ⟨gb350, 2, none⟩ (.bool t348)).heap[gb350]? = some (.cells #[.int .i64 t346, .int .i64 t347, .bool t348] 32 (0, 0))) := ⟨by (with_reducible repeat (first | refine blk_drewN ?_ _ | refine blk_drew ?_ | refine blk_alloc ?_ _)); refine blk_put (cs := #[.int .i64 t346, .int .i64 t347, .bool false]) ?_ 2 _ rfl; (with_reducible repeat (first | refine blk_drewN ?_ _ | refine blk_drew ?_ | refine blk_alloc ?_ _)); refine blk_put (cs := #[.int .i64 t346, .int .i64 0, .bool false]) ?_ 1 _ rfl; (with_reducible repeat (first | refine blk_drewN ?_ _ | refine blk_drew ?_ | refine blk_alloc ?_ _)); refine blk_put (cs := #[.int .i64 0, .int .i64 0, .bool false]) ?_ 0 _ rfl; (with_reducible repeat (first | refine blk_drewN ?_ _ | refine blk_drew ?_ | refine blk_alloc ?_ _)); exact BK350.out⟩
          have n3_ : Aside0 (Below w.heap.size w (((w14.setCell ⟨gb350, 0, none⟩ (.int .i64 t346)).setCell ⟨gb350, 1, none⟩ (.int .i64 t347)).setCell ⟨gb350, 2, none⟩ (.bool t348))) := ⟨bB_⟩
          (try clear BK340)
          (try clear BK345)
          (try clear BK350)
          (try clear HB)
          generalize (((w14.setCell ⟨gb350, 0, none⟩ (.int .i64 t346)).setCell ⟨gb350, 1, none⟩ (.int .i64 t347)).setCell ⟨gb350, 2, none⟩ (.bool t348)) = w27 at n0_ n1_ n2_ n3_ ⊢
          have BK340 := n0_
          have BK345 := n1_
          have BK350 := n2_
          have HB := n3_
          clear n0_ n1_ n2_ n3_
          have n0_ := Aside0.mk (blk_drew BK340.out)
          have n1_ := Aside0.mk (blk_drew BK345.out)
          have n2_ := Aside0.mk (blk_drew BK350.out)
          have n3_ := Aside0.mk (below_drew1 HB.out)
          clear BK340
          clear BK345
          clear BK350
          clear HB
          have BK340 := n0_
          have BK345 := n1_
          have BK350 := n2_
          have HB := n3_
          clear n0_ n1_ n2_ n3_
          refine start_ (n := 22) (S := fun w' => w'.cell? ⟨gb345, 0, none⟩ = some (.int .i64 t341) ∧ w'.cell? ⟨gb345, 1, none⟩ = some (.int .i64 t342) ∧ w'.cell? ⟨gb345, 2, none⟩ = some (.bool t343) ∧ w'.cell? ⟨gb350, 0, none⟩ = some (.int .i64 t346) ∧ w'.cell? ⟨gb350, 1, none⟩ = some (.int .i64 t347) ∧ w'.cell? ⟨gb350, 2, none⟩ = some (.bool t348) ∧ w'.cell? ⟨gb340, 0, none⟩ = some (.int .i64 a0_0) ∧ w'.cell? ⟨gb340, 1, none⟩ = some (.int .i64 a0_1) ∧ w'.cell? ⟨gb340, 2, none⟩ = some (.int .i64 a0_2) ∧ w'.cell? ⟨gb340, 3, none⟩ = some (.int .i64 a0_3) ∧ w'.cell? ⟨gb340, 4, none⟩ = some (.int .i64 a0_4) ∧ w'.cell? ⟨gb340, 5, none⟩ = some (.int .i64 a0_5)) (ds := []) #[f_,f_,f_,f_,f_,f_,f_,f_,f_,f_,f_,f_,f_,f_,f_,f_,f_,f_,f_,f_,f_,f_] (by kernel_rfl) rfl rfl ⟨(blk_cell BK345.out 0).trans rfl, (blk_cell BK345.out 1).trans rfl, (blk_cell BK345.out 2).trans rfl, (blk_cell BK350.out 0).trans rfl, (blk_cell BK350.out 1).trans rfl, (blk_cell BK350.out 2).trans rfl, (blk_cell BK340.out 0).trans rfl, (blk_cell BK340.out 1).trans rfl, (blk_cell BK340.out 2).trans rfl, (blk_cell BK340.out 3).trans rfl, (blk_cell BK340.out 4).trans rfl, (blk_cell BK340.out 5).trans rfl⟩ (fun hHeld => ?_); refine with_tabW tapearchivelaw09_SerpentinePlaces.tab3 tapearchivelaw09_SerpentinePlaces.bits3 (fun HT_ HW_ => ?_)
          generalize w27.drew = w28 at BK340 BK345 BK350 HB hHeld ⊢
          refine take_ (i := 0) (N := some 23) (v := ?_) (a' := ?_) #[t_,f_,f_,f_,f_,f_,f_,f_,f_,f_,f_,f_,f_,f_,f_,f_,f_,f_,f_,f_,f_,f_] rfl rfl (take_ofW HT_.out HW_.out (by kernel_rfl)) (fun _ _ _ h => h) (Or.inl ⟨by rfl, ?_⟩) hHeld ?_ ?_
          rotate_left
          · rintro w' ⟨s0, s1, s2, s3, s4, s5, s6, s7, s8, s9, s10, s11⟩
            go_simp
            with_reducible rfl
          rotate_left
          · simp only [Act.put, pW_]
            rfl
          refine take_ (i := 1) (N := some 24) (v := ?_) (a' := ?_) #[t_,t_,f_,f_,f_,f_,f_,f_,f_,f_,f_,f_,f_,f_,f_,f_,f_,f_,f_,f_,f_,f_] rfl rfl (take_ofW HT_.out HW_.out (by kernel_rfl)) (fun _ _ _ h => h) (Or.inl ⟨by rfl, ?_⟩) hHeld ?_ ?_
          rotate_left
          · rintro w' ⟨s0, s1, s2, s3, s4, s5, s6, s7, s8, s9, s10, s11⟩
            go_simp
            with_reducible rfl
          rotate_left
          · simp only [Act.put, pW_]
            rfl
          refine pure_ (i := 2) (N := some 25) (v := ?_) (a' := ?_) #[t_,t_,t_,f_,f_,f_,f_,f_,f_,f_,f_,f_,f_,f_,f_,f_,f_,f_,f_,f_,f_,f_] rfl rfl (any_of HT_.out (by kernel_rfl)) (fun _ _ _ h => h) (Or.inl ⟨by rfl, ?_⟩) ?_ ?_
          rotate_left
          · intro w'
            go_simp
            with_reducible rfl
          rotate_left
          · simp only [Act.put, pW_]
            rfl
          refine pure_ (i := 3) (N := some 26) (v := ?_) (a' := ?_) #[t_,t_,t_,t_,f_,f_,f_,f_,f_,f_,f_,f_,f_,f_,f_,f_,f_,f_,f_,f_,f_,f_] rfl rfl (any_of HT_.out (by kernel_rfl)) (fun _ _ _ h => h) (Or.inl ⟨by rfl, ?_⟩) ?_ ?_
          rotate_left
          · intro w'
            go_simp
            with_reducible rfl
          rotate_left
          · simp only [Act.put, pW_]
            rfl
          refine pure_ (i := 4) (N := some 27) (v := ?_) (a' := ?_) #[t_,t_,t_,t_,t_,f_,f_,f_,f_,f_,f_,f_,f_,f_,f_,f_,f_,f_,f_,f_,f_,f_] rfl rfl (any_of HT_.out (by kernel_rfl)) (fun _ _ _ h => h) (Or.inl ⟨by rfl, ?_⟩) ?_ ?_
          rotate_left
          · intro w'
            go_simp
            with_reducible rfl
          rotate_left
          · simp only [Act.put, pW_]
            rfl
          refine pure_ (i := 5) (N := some 28) (v := ?_) (a' := ?_) #[t_,t_,t_,t_,t_,t_,f_,f_,f_,f_,f_,f_,f_,f_,f_,f_,f_,f_,f_,f_,f_,f_] rfl rfl (any_of HT_.out (by kernel_rfl)) (fun _ _ _ h => h) (Or.inl ⟨by rfl, ?_⟩) ?_ ?_
          rotate_left
          · intro w'
            go_simp
            with_reducible rfl
          rotate_left
          · simp only [Act.put, pW_]
            rfl
          refine pure_ (i := 6) (N := some 29) (v := ?_) (a' := ?_) #[t_,t_,t_,t_,t_,t_,t_,f_,f_,f_,f_,f_,f_,f_,f_,f_,f_,f_,f_,f_,f_,f_] rfl rfl (any_of HT_.out (by kernel_rfl)) (fun _ _ _ h => h) (Or.inl ⟨by rfl, ?_⟩) ?_ ?_
          rotate_left
          · intro w'
            go_simp
            with_reducible rfl
          rotate_left
          · simp only [Act.put, pW_]
            rfl
          refine pure_ (i := 7) (N := some 30) (v := ?_) (a' := ?_) #[t_,t_,t_,t_,t_,t_,t_,t_,f_,f_,f_,f_,f_,f_,f_,f_,f_,f_,f_,f_,f_,f_] rfl rfl (any_of HT_.out (by kernel_rfl)) (fun _ _ _ h => h) (Or.inl ⟨by rfl, ?_⟩) ?_ ?_
          rotate_left
          · intro w'
            go_simp
            with_reducible rfl
          rotate_left
          · simp only [Act.put, pW_]
            rfl
          refine pure_ (i := 8) (N := some 31) (v := ?_) (a' := ?_) #[t_,t_,t_,t_,t_,t_,t_,t_,t_,f_,f_,f_,f_,f_,f_,f_,f_,f_,f_,f_,f_,f_] rfl rfl (any_of HT_.out (by kernel_rfl)) (fun _ _ _ h => h) (Or.inl ⟨by rfl, ?_⟩) ?_ ?_
          rotate_left
          · intro w'
            go_simp
            with_reducible rfl
          rotate_left
          · simp only [Act.put, pW_]
            rfl
          refine take_ (i := 9) (N := some 32) (v := ?_) (a' := ?_) #[t_,t_,t_,t_,t_,t_,t_,t_,t_,t_,f_,f_,f_,f_,f_,f_,f_,f_,f_,f_,f_,f_] rfl rfl (take_ofW HT_.out HW_.out (by kernel_rfl)) (fun _ _ _ h => h) (Or.inl ⟨by rfl, ?_⟩) hHeld ?_ ?_
          rotate_left
          · rintro w' ⟨s0, s1, s2, s3, s4, s5, s6, s7, s8, s9, s10, s11⟩
            go_simp
            with_reducible rfl
          rotate_left
          · simp only [Act.put, pW_]
            rfl
          refine take_ (i := 11) (N := some 34) (v := ?_) (a' := ?_) #[t_,t_,t_,t_,t_,t_,t_,t_,t_,t_,f_,t_,f_,f_,f_,f_,f_,f_,f_,f_,f_,f_] rfl rfl (take_ofW HT_.out HW_.out (by kernel_rfl)) (fun _ _ _ h => h) (Or.inl ⟨by rfl, ?_⟩) hHeld ?_ ?_
          rotate_left
          · rintro w' ⟨s0, s1, s2, s3, s4, s5, s6, s7, s8, s9, s10, s11⟩
            go_simp
            with_reducible rfl
          rotate_left
          · simp only [Act.put, pW_]
            rfl
          refine one_ (i := 10) (N := some 33) #[t_,t_,t_,t_,t_,t_,t_,t_,t_,t_,t_,t_,f_,f_,f_,f_,f_,f_,f_,f_,f_,f_] rfl rfl (one_of HT_.out (by kernel_rfl)) (by decide) (fun K hK => ?_)
          refine goes_ Try.func24 (by kernel_rfl) rfl #[.agg #[.int .i64 a0_0, .int .i64 a0_1, .int .i64 a0_2, .int .i64 a0_3, .int .i64 a0_4, .int .i64 a0_5]] (by rfl) rfl rfl mB_ ?_
          with_reducible refine (serpentine_Valid.calls k a0_0 a0_1 a0_2 a0_3 a0_4 a0_5 t351 _ A24.out).mono ?_
          rintro e w29 ⟨rfl, hb⟩
          refine ⟨_, rfl, ?_⟩
          have n0_ := Aside0.mk (blk_below (kB_ BK340.out) hb)
          have n1_ := Aside0.mk (blk_below (kB_ BK345.out) hb)
          have n2_ := Aside0.mk (blk_below (kB_ BK350.out) hb)
          have n3_ := Aside0.mk (below_step bB_ hb)
          clear BK340
          clear BK345
          clear BK350
          clear HB
          have BK340 := n0_
          have BK345 := n1_
          have BK350 := n2_
          have HB := n3_
          clear n0_ n1_ n2_ n3_
          (try clear hb)
          (try clear hb2)
          (try clear hk)
          (try clear hi)
          refine hK.out _ _ ⟨(blk_cell BK345.out 0).trans rfl, (blk_cell BK345.out 1).trans rfl, (blk_cell BK345.out 2).trans rfl, (blk_cell BK350.out 0).trans rfl, (blk_cell BK350.out 1).trans rfl, (blk_cell BK350.out 2).trans rfl, (blk_cell BK340.out 0).trans rfl, (blk_cell BK340.out 1).trans rfl, (blk_cell BK340.out 2).trans rfl, (blk_cell BK340.out 3).trans rfl, (blk_cell BK340.out 4).trans rfl, (blk_cell BK340.out 5).trans rfl⟩ (fun hHeld => ?_)
          clear hK K
          refine norm_ (a' := ?_) ?_ ?_
          rotate_left
          · show Act.put _ (some 33) _ = _
            simp only [Act.put, pW_]
            rfl
          refine one_ (i := 12) (N := some 35) #[t_,t_,t_,t_,t_,t_,t_,t_,t_,t_,t_,t_,t_,f_,f_,f_,f_,f_,f_,f_,f_,f_] rfl rfl (one_of HT_.out (by kernel_rfl)) (by decide) (fun K hK => ?_)
          refine goes_ Try.func25 (by kernel_rfl) rfl #[.agg #[.int .i64 a0_0, .int .i64 a0_1, .int .i64 a0_2, .int .i64 a0_3, .int .i64 a0_4, .int .i64 a0_5]] (by rfl) rfl rfl mB_ ?_
          with_reducible refine (tapearchiveref09_Valid.calls k a0_0 a0_1 a0_2 a0_3 a0_4 a0_5 t352 _ A25.out).mono ?_
          rintro e w30 ⟨rfl, hb⟩
          refine ⟨_, rfl, ?_⟩
          have n0_ := Aside0.mk (blk_below (kB_ BK340.out) hb)
          have n1_ := Aside0.mk (blk_below (kB_ BK345.out) hb)
          have n2_ := Aside0.mk (blk_below (kB_ BK350.out) hb)
          have n3_ := Aside0.mk (below_step bB_ hb)
          clear BK340
          clear BK345
          clear BK350
          clear HB
          have BK340 := n0_
          have BK345 := n1_
          have BK350 := n2_
          have HB := n3_
          clear n0_ n1_ n2_ n3_
          (try clear hb)
          (try clear hb2)
          (try clear hk)
          (try clear hi)
          refine hK.out _ _ ⟨(blk_cell BK345.out 0).trans rfl, (blk_cell BK345.out 1).trans rfl, (blk_cell BK345.out 2).trans rfl, (blk_cell BK350.out 0).trans rfl, (blk_cell BK350.out 1).trans rfl, (blk_cell BK350.out 2).trans rfl, (blk_cell BK340.out 0).trans rfl, (blk_cell BK340.out 1).trans rfl, (blk_cell BK340.out 2).trans rfl, (blk_cell BK340.out 3).trans rfl, (blk_cell BK340.out 4).trans rfl, (blk_cell BK340.out 5).trans rfl⟩ (fun hHeld => ?_)
          clear hK K
          refine norm_ (a' := ?_) ?_ ?_
          rotate_left
          · show Act.put _ (some 35) _ = _
            simp only [Act.put, pW_]
            rfl
          refine pure_ (i := 13) (N := some 36) (v := ?_) (a' := ?_) #[t_,t_,t_,t_,t_,t_,t_,t_,t_,t_,t_,t_,t_,t_,f_,f_,f_,f_,f_,f_,f_,f_] rfl rfl (any_of HT_.out (by kernel_rfl)) (fun _ _ _ h => h) (Or.inl ⟨by rfl, ?_⟩) ?_ ?_
          rotate_left
          · intro w'
            go_simp
            with_reducible rfl
          rotate_left
          · simp only [Act.put, pW_]
            rfl
          refine pure_ (i := 14) (N := some 37) (v := ?_) (a' := ?_) #[t_,t_,t_,t_,t_,t_,t_,t_,t_,t_,t_,t_,t_,t_,t_,f_,f_,f_,f_,f_,f_,f_] rfl rfl (any_of HT_.out (by kernel_rfl)) (fun _ _ _ h => h) (Or.inl ⟨by rfl, ?_⟩) ?_ ?_
          rotate_left
          · intro w'
            go_simp
            with_reducible rfl
          rotate_left
          · simp only [Act.put, pW_]
            rfl
          refine pure_ (i := 15) (N := some 38) (v := ?_) (a' := ?_) #[t_,t_,t_,t_,t_,t_,t_,t_,t_,t_,t_,t_,t_,t_,t_,t_,f_,f_,f_,f_,f_,f_] rfl rfl (any_of HT_.out (by kernel_rfl)) (fun _ _ _ h => h) (Or.inl ⟨by rfl, ?_⟩) ?_ ?_
          rotate_left
          · intro w'
            go_simp
            with_reducible rfl
          rotate_left
          · simp only [Act.put, pW_]
            rfl
          refine pure_ (i := 16) (N := some 39) (v := undef) (a' := ?_) #[t_,t_,t_,t_,t_,t_,t_,t_,t_,t_,t_,t_,t_,t_,t_,t_,t_,f_,f_,f_,f_,f_] rfl rfl (any_of HT_.out (by kernel_rfl)) (fun _ _ _ h => h) (Or.inr ⟨by rfl, rfl⟩) ?_ ?_
          rotate_left
          · simp only [Act.put, pW_]
            rfl
          refine pure_ (i := 17) (N := some 40) (v := undef) (a' := ?_) #[t_,t_,t_,t_,t_,t_,t_,t_,t_,t_,t_,t_,t_,t_,t_,t_,t_,t_,f_,f_,f_,f_] rfl rfl (any_of HT_.out (by kernel_rfl)) (fun _ _ _ h => h) (Or.inr ⟨by rfl, rfl⟩) ?_ ?_
          rotate_left
          · simp only [Act.put, pW_]
            rfl
          refine pure_ (i := 18) (N := some 41) (v := undef) (a' := ?_) #[t_,t_,t_,t_,t_,t_,t_,t_,t_,t_,t_,t_,t_,t_,t_,t_,t_,t_,t_,f_,f_,f_] rfl rfl (any_of HT_.out (by kernel_rfl)) (fun _ _ _ h => h) (Or.inr ⟨by rfl, rfl⟩) ?_ ?_
          rotate_left
          · simp only [Act.put, pW_]
            rfl
          refine pure_ (i := 19) (N := some 42) (v := undef) (a' := ?_) #[t_,t_,t_,t_,t_,t_,t_,t_,t_,t_,t_,t_,t_,t_,t_,t_,t_,t_,t_,t_,f_,f_] rfl rfl (any_of HT_.out (by kernel_rfl)) (fun _ _ _ h => h) (Or.inr ⟨by rfl, rfl⟩) ?_ ?_
          rotate_left
          · simp only [Act.put, pW_]
            rfl
          refine pure_ (i := 20) (N := some 43) (v := undef) (a' := ?_) #[t_,t_,t_,t_,t_,t_,t_,t_,t_,t_,t_,t_,t_,t_,t_,t_,t_,t_,t_,t_,t_,f_] rfl rfl (any_of HT_.out (by kernel_rfl)) (fun _ _ _ h => h) (Or.inr ⟨by rfl, rfl⟩) ?_ ?_
          rotate_left
          · simp only [Act.put, pW_]
            rfl
          refine pure_ (i := 21) (N := some 44) (v := ?_) (a' := ?_) #[t_,t_,t_,t_,t_,t_,t_,t_,t_,t_,t_,t_,t_,t_,t_,t_,t_,t_,t_,t_,t_,t_] rfl rfl (any_of HT_.out (by kernel_rfl)) (fun _ _ _ h => h) (Or.inl ⟨by rfl, ?_⟩) ?_ ?_
          rotate_left
          · intro w'
            go_simp
            with_reducible rfl
          rotate_left
          · simp only [Act.put, pW_]
            rfl
          refine done_ (done_of HT_.out (by kernel_rfl)) ?_
          try go_wp2
          go_meet
          case rel => exact ⟨_, (true), (by first | rfl | (simp; done) | (simp [*]; done)), H', ⟨by first | omega | exact Nat.le_refl _⟩, ⟨by (with_reducible repeat (first | refine blk_drewN ?_ _ | refine blk_drew ?_ | refine blk_alloc ?_ _)); exact BK340.out⟩, ⟨by (with_reducible repeat (first | refine blk_drewN ?_ _ | refine blk_drew ?_ | refine blk_alloc ?_ _)); exact BK345.out⟩, ⟨by (with_reducible repeat (first | refine blk_drewN ?_ _ | refine blk_drew ?_ | refine blk_alloc ?_ _)); exact BK350.out⟩, ⟨bB_⟩⟩
        · rw [if_neg c26] at H
          have c26b0 : (t351 != t352) = false := by simpa using c26
          (try (have c26b1 : decide (t351 = t352) = true := by simpa using c26))
          (try (have c26b2 : (t351 == t352) = true := by simpa using c26))
          clear c26
          replace H := Option.bind_eq_some_iff.mp H
          obtain ⟨t353, A310, H⟩ := H
          replace H : ((tapearchiveref09_Capacity.f k a0_0 a0_1 a0_2 a0_3 a0_4 a0_5).bind fun t354 => (tapearchivelaw09_SerpentinePlaces.j0 k a1 t344 (t353 != t354) a0_0 a0_1 a0_2 a0_3 a0_4 a0_5 t341 t342 t343)) = some r := H
          have A31 := Aside0.mk A310
          clear A310
          replace H := Option.bind_eq_some_iff.mp H
          obtain ⟨t354, A320, H⟩ := H
          replace H : (tapearchivelaw09_SerpentinePlaces.j0 k a1 t344 (t353 != t354) a0_0 a0_1 a0_2 a0_3 a0_4 a0_5 t341 t342 t343) = some r := H
          have A32 := Aside0.mk A320
          clear A320
          have H' := Aside0.mk H
          clear H
          try go_wp2
          have n0_ : Aside0 ((((w14.setCell ⟨gb350, 0, none⟩ (.int .i64 t346)).setCell ⟨gb350, 1, none⟩ (.int .i64 t347)).setCell ⟨gb350, 2, none⟩ (.bool t348)).heap[gb340]? = some (.cells #[.int .i64 a0_0, .int .i64 a0_1, .int .i64 a0_2, .int .i64 a0_3, .int .i64 a0_4, .int .i64 a0_5] 23 (0, 0))) := ⟨by (with_reducible repeat (first | refine blk_drewN ?_ _ | refine blk_drew ?_ | refine blk_alloc ?_ _)); refine blk_far ?_ NB340_350.out _; (with_reducible repeat (first | refine blk_drewN ?_ _ | refine blk_drew ?_ | refine blk_alloc ?_ _)); refine blk_far ?_ NB340_350.out _; (with_reducible repeat (first | refine blk_drewN ?_ _ | refine blk_drew ?_ | refine blk_alloc ?_ _)); refine blk_far ?_ NB340_350.out _; (with_reducible repeat (first | refine blk_drewN ?_ _ | refine blk_drew ?_ | refine blk_alloc ?_ _)); exact BK340.out⟩
          have n1_ : Aside0 ((((w14.setCell ⟨gb350, 0, none⟩ (.int .i64 t346)).setCell ⟨gb350, 1, none⟩ (.int .i64 t347)).setCell ⟨gb350, 2, none⟩ (.bool t348)).heap[gb345]? = some (.cells #[.int .i64 t341, .int .i64 t342, .bool t343] 32 (0, 0))) := ⟨by (with_reducible repeat (first | refine blk_drewN ?_ _ | refine blk_drew ?_ | refine blk_alloc ?_ _)); refine blk_far ?_ NB345_350.out _; (with_reducible repeat (first | refine blk_drewN ?_ _ | refine blk_drew ?_ | refine blk_alloc ?_ _)); refine blk_far ?_ NB345_350.out _; (with_reducible repeat (first | refine blk_drewN ?_ _ | refine blk_drew ?_ | refine blk_alloc ?_ _)); refine blk_far ?_ NB345_350.out _; (with_reducible repeat (first | refine blk_drewN ?_ _ | refine blk_drew ?_ | refine blk_alloc ?_ _)); exact BK345.out⟩
          have n2_ : Aside0 ((((w14.setCell ⟨gb350, 0, none⟩ (.int .i64 t346)).setCell ⟨gb350, 1, none⟩ (.int .i64 t347)).setCell ⟨gb350, 2, none⟩ (.bool t348)).heap[gb350]? = some (.cells #[.int .i64 t346, .int .i64 t347, .bool t348] 32 (0, 0))) := ⟨by (with_reducible repeat (first | refine blk_drewN ?_ _ | refine blk_drew ?_ | refine blk_alloc ?_ _)); refine blk_put (cs := #[.int .i64 t346, .int .i64 t347, .bool false]) ?_ 2 _ rfl; (with_reducible repeat (first | refine blk_drewN ?_ _ | refine blk_drew ?_ | refine blk_alloc ?_ _)); refine blk_put (cs := #[.int .i64 t346, .int .i64 0, .bool false]) ?_ 1 _ rfl; (with_reducible repeat (first | refine blk_drewN ?_ _ | refine blk_drew ?_ | refine blk_alloc ?_ _)); refine blk_put (cs := #[.int .i64 0, .int .i64 0, .bool false]) ?_ 0 _ rfl; (with_reducible repeat (first | refine blk_drewN ?_ _ | refine blk_drew ?_ | refine blk_alloc ?_ _)); exact BK350.out⟩
          have n3_ : Aside0 (Below w.heap.size w (((w14.setCell ⟨gb350, 0, none⟩ (.int .i64 t346)).setCell ⟨gb350, 1, none⟩ (.int .i64 t347)).setCell ⟨gb350, 2, none⟩ (.bool t348))) := ⟨bB_⟩
          (try clear BK340)
          (try clear BK345)
          (try clear BK350)
          (try clear HB)
          generalize (((w14.setCell ⟨gb350, 0, none⟩ (.int .i64 t346)).setCell ⟨gb350, 1, none⟩ (.int .i64 t347)).setCell ⟨gb350, 2, none⟩ (.bool t348)) = w33 at n0_ n1_ n2_ n3_ ⊢
          have BK340 := n0_
          have BK345 := n1_
          have BK350 := n2_
          have HB := n3_
          clear n0_ n1_ n2_ n3_
          have n0_ := Aside0.mk (blk_drew BK340.out)
          have n1_ := Aside0.mk (blk_drew BK345.out)
          have n2_ := Aside0.mk (blk_drew BK350.out)
          have n3_ := Aside0.mk (below_drew1 HB.out)
          clear BK340
          clear BK345
          clear BK350
          clear HB
          have BK340 := n0_
          have BK345 := n1_
          have BK350 := n2_
          have HB := n3_
          clear n0_ n1_ n2_ n3_
          refine start_ (n := 22) (S := fun w' => w'.cell? ⟨gb345, 0, none⟩ = some (.int .i64 t341) ∧ w'.cell? ⟨gb345, 1, none⟩ = some (.int .i64 t342) ∧ w'.cell? ⟨gb345, 2, none⟩ = some (.bool t343) ∧ w'.cell? ⟨gb350, 0, none⟩ = some (.int .i64 t346) ∧ w'.cell? ⟨gb350, 1, none⟩ = some (.int .i64 t347) ∧ w'.cell? ⟨gb350, 2, none⟩ = some (.bool t348) ∧ w'.cell? ⟨gb340, 0, none⟩ = some (.int .i64 a0_0) ∧ w'.cell? ⟨gb340, 1, none⟩ = some (.int .i64 a0_1) ∧ w'.cell? ⟨gb340, 2, none⟩ = some (.int .i64 a0_2) ∧ w'.cell? ⟨gb340, 3, none⟩ = some (.int .i64 a0_3) ∧ w'.cell? ⟨gb340, 4, none⟩ = some (.int .i64 a0_4) ∧ w'.cell? ⟨gb340, 5, none⟩ = some (.int .i64 a0_5)) (ds := []) #[f_,f_,f_,f_,f_,f_,f_,f_,f_,f_,f_,f_,f_,f_,f_,f_,f_,f_,f_,f_,f_,f_] (by kernel_rfl) rfl rfl ⟨(blk_cell BK345.out 0).trans rfl, (blk_cell BK345.out 1).trans rfl, (blk_cell BK345.out 2).trans rfl, (blk_cell BK350.out 0).trans rfl, (blk_cell BK350.out 1).trans rfl, (blk_cell BK350.out 2).trans rfl, (blk_cell BK340.out 0).trans rfl, (blk_cell BK340.out 1).trans rfl, (blk_cell BK340.out 2).trans rfl, (blk_cell BK340.out 3).trans rfl, (blk_cell BK340.out 4).trans rfl, (blk_cell BK340.out 5).trans rfl⟩ (fun hHeld => ?_); refine with_tabW tapearchivelaw09_SerpentinePlaces.tab3 tapearchivelaw09_SerpentinePlaces.bits3 (fun HT_ HW_ => ?_)
          generalize w33.drew = w34 at BK340 BK345 BK350 HB hHeld ⊢
          refine take_ (i := 0) (N := some 23) (v := ?_) (a' := ?_) #[t_,f_,f_,f_,f_,f_,f_,f_,f_,f_,f_,f_,f_,f_,f_,f_,f_,f_,f_,f_,f_,f_] rfl rfl (take_ofW HT_.out HW_.out (by kernel_rfl)) (fun _ _ _ h => h) (Or.inl ⟨by rfl, ?_⟩) hHeld ?_ ?_
          rotate_left
          · rintro w' ⟨s0, s1, s2, s3, s4, s5, s6, s7, s8, s9, s10, s11⟩
            go_simp
            with_reducible rfl
          rotate_left
          · simp only [Act.put, pW_]
            rfl
          refine take_ (i := 1) (N := some 24) (v := ?_) (a' := ?_) #[t_,t_,f_,f_,f_,f_,f_,f_,f_,f_,f_,f_,f_,f_,f_,f_,f_,f_,f_,f_,f_,f_] rfl rfl (take_ofW HT_.out HW_.out (by kernel_rfl)) (fun _ _ _ h => h) (Or.inl ⟨by rfl, ?_⟩) hHeld ?_ ?_
          rotate_left
          · rintro w' ⟨s0, s1, s2, s3, s4, s5, s6, s7, s8, s9, s10, s11⟩
            go_simp
            with_reducible rfl
          rotate_left
          · simp only [Act.put, pW_]
            rfl
          refine pure_ (i := 2) (N := some 25) (v := ?_) (a' := ?_) #[t_,t_,t_,f_,f_,f_,f_,f_,f_,f_,f_,f_,f_,f_,f_,f_,f_,f_,f_,f_,f_,f_] rfl rfl (any_of HT_.out (by kernel_rfl)) (fun _ _ _ h => h) (Or.inl ⟨by rfl, ?_⟩) ?_ ?_
          rotate_left
          · intro w'
            go_simp
            with_reducible rfl
          rotate_left
          · simp only [Act.put, pW_]
            rfl
          refine pure_ (i := 3) (N := some 26) (v := ?_) (a' := ?_) #[t_,t_,t_,t_,f_,f_,f_,f_,f_,f_,f_,f_,f_,f_,f_,f_,f_,f_,f_,f_,f_,f_] rfl rfl (any_of HT_.out (by kernel_rfl)) (fun _ _ _ h => h) (Or.inl ⟨by rfl, ?_⟩) ?_ ?_
          rotate_left
          · intro w'
            go_simp
            with_reducible rfl
          rotate_left
          · simp only [Act.put, pW_]
            rfl
          refine pure_ (i := 4) (N := some 27) (v := ?_) (a' := ?_) #[t_,t_,t_,t_,t_,f_,f_,f_,f_,f_,f_,f_,f_,f_,f_,f_,f_,f_,f_,f_,f_,f_] rfl rfl (any_of HT_.out (by kernel_rfl)) (fun _ _ _ h => h) (Or.inl ⟨by rfl, ?_⟩) ?_ ?_
          rotate_left
          · intro w'
            go_simp
            with_reducible rfl
          rotate_left
          · simp only [Act.put, pW_]
            rfl
          refine pure_ (i := 5) (N := some 28) (v := ?_) (a' := ?_) #[t_,t_,t_,t_,t_,t_,f_,f_,f_,f_,f_,f_,f_,f_,f_,f_,f_,f_,f_,f_,f_,f_] rfl rfl (any_of HT_.out (by kernel_rfl)) (fun _ _ _ h => h) (Or.inl ⟨by rfl, ?_⟩) ?_ ?_
          rotate_left
          · intro w'
            go_simp
            with_reducible rfl
          rotate_left
          · simp only [Act.put, pW_]
            rfl
          refine pure_ (i := 6) (N := some 29) (v := ?_) (a' := ?_) #[t_,t_,t_,t_,t_,t_,t_,f_,f_,f_,f_,f_,f_,f_,f_,f_,f_,f_,f_,f_,f_,f_] rfl rfl (any_of HT_.out (by kernel_rfl)) (fun _ _ _ h => h) (Or.inl ⟨by rfl, ?_⟩) ?_ ?_
          rotate_left
          · intro w'
            go_simp
            with_reducible rfl
          rotate_left
          · simp only [Act.put, pW_]
            rfl
          refine pure_ (i := 7) (N := some 30) (v := ?_) (a' := ?_) #[t_,t_,t_,t_,t_,t_,t_,t_,f_,f_,f_,f_,f_,f_,f_,f_,f_,f_,f_,f_,f_,f_] rfl rfl (any_of HT_.out (by kernel_rfl)) (fun _ _ _ h => h) (Or.inl ⟨by rfl, ?_⟩) ?_ ?_
          rotate_left
          · intro w'
            go_simp
            with_reducible rfl
          rotate_left
          · simp only [Act.put, pW_]
            rfl
          refine pure_ (i := 8) (N := some 31) (v := ?_) (a' := ?_) #[t_,t_,t_,t_,t_,t_,t_,t_,t_,f_,f_,f_,f_,f_,f_,f_,f_,f_,f_,f_,f_,f_] rfl rfl (any_of HT_.out (by kernel_rfl)) (fun _ _ _ h => h) (Or.inl ⟨by rfl, ?_⟩) ?_ ?_
          rotate_left
          · intro w'
            go_simp
            with_reducible rfl
          rotate_left
          · simp only [Act.put, pW_]
            rfl
          refine take_ (i := 9) (N := some 32) (v := ?_) (a' := ?_) #[t_,t_,t_,t_,t_,t_,t_,t_,t_,t_,f_,f_,f_,f_,f_,f_,f_,f_,f_,f_,f_,f_] rfl rfl (take_ofW HT_.out HW_.out (by kernel_rfl)) (fun _ _ _ h => h) (Or.inl ⟨by rfl, ?_⟩) hHeld ?_ ?_
          rotate_left
          · rintro w' ⟨s0, s1, s2, s3, s4, s5, s6, s7, s8, s9, s10, s11⟩
            go_simp
            with_reducible rfl
          rotate_left
          · simp only [Act.put, pW_]
            rfl
          refine take_ (i := 11) (N := some 34) (v := ?_) (a' := ?_) #[t_,t_,t_,t_,t_,t_,t_,t_,t_,t_,f_,t_,f_,f_,f_,f_,f_,f_,f_,f_,f_,f_] rfl rfl (take_ofW HT_.out HW_.out (by kernel_rfl)) (fun _ _ _ h => h) (Or.inl ⟨by rfl, ?_⟩) hHeld ?_ ?_
          rotate_left
          · rintro w' ⟨s0, s1, s2, s3, s4, s5, s6, s7, s8, s9, s10, s11⟩
            go_simp
            with_reducible rfl
          rotate_left
          · simp only [Act.put, pW_]
            rfl
          refine one_ (i := 10) (N := some 33) #[t_,t_,t_,t_,t_,t_,t_,t_,t_,t_,t_,t_,f_,f_,f_,f_,f_,f_,f_,f_,f_,f_] rfl rfl (one_of HT_.out (by kernel_rfl)) (by decide) (fun K hK => ?_)
          refine goes_ Try.func24 (by kernel_rfl) rfl #[.agg #[.int .i64 a0_0, .int .i64 a0_1, .int .i64 a0_2, .int .i64 a0_3, .int .i64 a0_4, .int .i64 a0_5]] (by rfl) rfl rfl mB_ ?_
          with_reducible refine (serpentine_Valid.calls k a0_0 a0_1 a0_2 a0_3 a0_4 a0_5 t351 _ A24.out).mono ?_
          rintro e w35 ⟨rfl, hb⟩
          refine ⟨_, rfl, ?_⟩
          have n0_ := Aside0.mk (blk_below (kB_ BK340.out) hb)
          have n1_ := Aside0.mk (blk_below (kB_ BK345.out) hb)
          have n2_ := Aside0.mk (blk_below (kB_ BK350.out) hb)
          have n3_ := Aside0.mk (below_step bB_ hb)
          clear BK340
          clear BK345
          clear BK350
          clear HB
          have BK340 := n0_
          have BK345 := n1_
          have BK350 := n2_
          have HB := n3_
          clear n0_ n1_ n2_ n3_
          (try clear hb)
          (try clear hb2)
          (try clear hk)
          (try clear hi)
          refine hK.out _ _ ⟨(blk_cell BK345.out 0).trans rfl, (blk_cell BK345.out 1).trans rfl, (blk_cell BK345.out 2).trans rfl, (blk_cell BK350.out 0).trans rfl, (blk_cell BK350.out 1).trans rfl, (blk_cell BK350.out 2).trans rfl, (blk_cell BK340.out 0).trans rfl, (blk_cell BK340.out 1).trans rfl, (blk_cell BK340.out 2).trans rfl, (blk_cell BK340.out 3).trans rfl, (blk_cell BK340.out 4).trans rfl, (blk_cell BK340.out 5).trans rfl⟩ (fun hHeld => ?_)
          clear hK K
          refine norm_ (a' := ?_) ?_ ?_
          rotate_left
          · show Act.put _ (some 33) _ = _
            simp only [Act.put, pW_]
            rfl
          refine one_ (i := 12) (N := some 35) #[t_,t_,t_,t_,t_,t_,t_,t_,t_,t_,t_,t_,t_,f_,f_,f_,f_,f_,f_,f_,f_,f_] rfl rfl (one_of HT_.out (by kernel_rfl)) (by decide) (fun K hK => ?_)
          refine goes_ Try.func25 (by kernel_rfl) rfl #[.agg #[.int .i64 a0_0, .int .i64 a0_1, .int .i64 a0_2, .int .i64 a0_3, .int .i64 a0_4, .int .i64 a0_5]] (by rfl) rfl rfl mB_ ?_
          with_reducible refine (tapearchiveref09_Valid.calls k a0_0 a0_1 a0_2 a0_3 a0_4 a0_5 t352 _ A25.out).mono ?_
          rintro e w36 ⟨rfl, hb⟩
          refine ⟨_, rfl, ?_⟩
          have n0_ := Aside0.mk (blk_below (kB_ BK340.out) hb)
          have n1_ := Aside0.mk (blk_below (kB_ BK345.out) hb)
          have n2_ := Aside0.mk (blk_below (kB_ BK350.out) hb)
          have n3_ := Aside0.mk (below_step bB_ hb)
          clear BK340
          clear BK345
          clear BK350
          clear HB
          have BK340 := n0_
          have BK345 := n1_
          have BK350 := n2_
          have HB := n3_
          clear n0_ n1_ n2_ n3_
          (try clear hb)
          (try clear hb2)
          (try clear hk)
          (try clear hi)
          refine hK.out _ _ ⟨(blk_cell BK345.out 0).trans rfl, (blk_cell BK345.out 1).trans rfl, (blk_cell BK345.out 2).trans rfl, (blk_cell BK350.out 0).trans rfl, (blk_cell BK350.out 1).trans rfl, (blk_cell BK350.out 2).trans rfl, (blk_cell BK340.out 0).trans rfl, (blk_cell BK340.out 1).trans rfl, (blk_cell BK340.out 2).trans rfl, (blk_cell BK340.out 3).trans rfl, (blk_cell BK340.out 4).trans rfl, (blk_cell BK340.out 5).trans rfl⟩ (fun hHeld => ?_)
          clear hK K
          refine norm_ (a' := ?_) ?_ ?_
          rotate_left
          · show Act.put _ (some 35) _ = _
            simp only [Act.put, pW_]
            rfl
          refine pure_ (i := 13) (N := some 36) (v := ?_) (a' := ?_) #[t_,t_,t_,t_,t_,t_,t_,t_,t_,t_,t_,t_,t_,t_,f_,f_,f_,f_,f_,f_,f_,f_] rfl rfl (any_of HT_.out (by kernel_rfl)) (fun _ _ _ h => h) (Or.inl ⟨by rfl, ?_⟩) ?_ ?_
          rotate_left
          · intro w'
            go_simp
            with_reducible rfl
          rotate_left
          · simp only [Act.put, pW_]
            rfl
          refine pure_ (i := 14) (N := some 37) (v := ?_) (a' := ?_) #[t_,t_,t_,t_,t_,t_,t_,t_,t_,t_,t_,t_,t_,t_,t_,f_,f_,f_,f_,f_,f_,f_] rfl rfl (any_of HT_.out (by kernel_rfl)) (fun _ _ _ h => h) (Or.inl ⟨by rfl, ?_⟩) ?_ ?_
          rotate_left
          · intro w'
            go_simp
            with_reducible rfl
          rotate_left
          · simp only [Act.put, pW_]
            rfl
          refine pure_ (i := 15) (N := some 38) (v := ?_) (a' := ?_) #[t_,t_,t_,t_,t_,t_,t_,t_,t_,t_,t_,t_,t_,t_,t_,t_,f_,f_,f_,f_,f_,f_] rfl rfl (any_of HT_.out (by kernel_rfl)) (fun _ _ _ h => h) (Or.inl ⟨by rfl, ?_⟩) ?_ ?_
          rotate_left
          · intro w'
            go_simp
            with_reducible rfl
          rotate_left
          · simp only [Act.put, pW_]
            rfl
          refine take_ (i := 16) (N := some 39) (v := ?_) (a' := ?_) #[t_,t_,t_,t_,t_,t_,t_,t_,t_,t_,t_,t_,t_,t_,t_,t_,t_,f_,f_,f_,f_,f_] rfl rfl (take_ofW HT_.out HW_.out (by kernel_rfl)) (fun _ _ _ h => h) (Or.inl ⟨by rfl, ?_⟩) hHeld ?_ ?_
          rotate_left
          · rintro w' ⟨s0, s1, s2, s3, s4, s5, s6, s7, s8, s9, s10, s11⟩
            go_simp
            with_reducible rfl
          rotate_left
          · simp only [Act.put, pW_]
            rfl
          refine take_ (i := 18) (N := some 41) (v := ?_) (a' := ?_) #[t_,t_,t_,t_,t_,t_,t_,t_,t_,t_,t_,t_,t_,t_,t_,t_,t_,f_,t_,f_,f_,f_] rfl rfl (take_ofW HT_.out HW_.out (by kernel_rfl)) (fun _ _ _ h => h) (Or.inl ⟨by rfl, ?_⟩) hHeld ?_ ?_
          rotate_left
          · rintro w' ⟨s0, s1, s2, s3, s4, s5, s6, s7, s8, s9, s10, s11⟩
            go_simp
            with_reducible rfl
          rotate_left
          · simp only [Act.put, pW_]
            rfl
          refine one_ (i := 17) (N := some 40) #[t_,t_,t_,t_,t_,t_,t_,t_,t_,t_,t_,t_,t_,t_,t_,t_,t_,t_,t_,f_,f_,f_] rfl rfl (one_of HT_.out (by kernel_rfl)) (by decide) (fun K hK => ?_)
          refine goes_ Try.func20 (by kernel_rfl) rfl #[.agg #[.int .i64 a0_0, .int .i64 a0_1, .int .i64 a0_2, .int .i64 a0_3, .int .i64 a0_4, .int .i64 a0_5]] (by rfl) rfl rfl mB_ ?_
          with_reducible refine (serpentine_Capacity.calls k a0_0 a0_1 a0_2 a0_3 a0_4 a0_5 t353 _ A31.out).mono ?_
          rintro e w37 ⟨rfl, hb⟩
          refine ⟨_, rfl, ?_⟩
          have n0_ := Aside0.mk (blk_below (kB_ BK340.out) hb)
          have n1_ := Aside0.mk (blk_below (kB_ BK345.out) hb)
          have n2_ := Aside0.mk (blk_below (kB_ BK350.out) hb)
          have n3_ := Aside0.mk (below_step bB_ hb)
          clear BK340
          clear BK345
          clear BK350
          clear HB
          have BK340 := n0_
          have BK345 := n1_
          have BK350 := n2_
          have HB := n3_
          clear n0_ n1_ n2_ n3_
          (try clear hb)
          (try clear hb2)
          (try clear hk)
          (try clear hi)
          refine hK.out _ _ ⟨(blk_cell BK345.out 0).trans rfl, (blk_cell BK345.out 1).trans rfl, (blk_cell BK345.out 2).trans rfl, (blk_cell BK350.out 0).trans rfl, (blk_cell BK350.out 1).trans rfl, (blk_cell BK350.out 2).trans rfl, (blk_cell BK340.out 0).trans rfl, (blk_cell BK340.out 1).trans rfl, (blk_cell BK340.out 2).trans rfl, (blk_cell BK340.out 3).trans rfl, (blk_cell BK340.out 4).trans rfl, (blk_cell BK340.out 5).trans rfl⟩ (fun hHeld => ?_)
          clear hK K
          refine norm_ (a' := ?_) ?_ ?_
          rotate_left
          · show Act.put _ (some 40) _ = _
            simp only [Act.put, pW_]
            rfl
          refine one_ (i := 19) (N := some 42) #[t_,t_,t_,t_,t_,t_,t_,t_,t_,t_,t_,t_,t_,t_,t_,t_,t_,t_,t_,t_,f_,f_] rfl rfl (one_of HT_.out (by kernel_rfl)) (by decide) (fun K hK => ?_)
          refine goes_ Try.func26 (by kernel_rfl) rfl #[.agg #[.int .i64 a0_0, .int .i64 a0_1, .int .i64 a0_2, .int .i64 a0_3, .int .i64 a0_4, .int .i64 a0_5]] (by rfl) rfl rfl mB_ ?_
          with_reducible refine (tapearchiveref09_Capacity.calls k a0_0 a0_1 a0_2 a0_3 a0_4 a0_5 t354 _ A32.out).mono ?_
          rintro e w38 ⟨rfl, hb⟩
          refine ⟨_, rfl, ?_⟩
          have n0_ := Aside0.mk (blk_below (kB_ BK340.out) hb)
          have n1_ := Aside0.mk (blk_below (kB_ BK345.out) hb)
          have n2_ := Aside0.mk (blk_below (kB_ BK350.out) hb)
          have n3_ := Aside0.mk (below_step bB_ hb)
          clear BK340
          clear BK345
          clear BK350
          clear HB
          have BK340 := n0_
          have BK345 := n1_
          have BK350 := n2_
          have HB := n3_
          clear n0_ n1_ n2_ n3_
          (try clear hb)
          (try clear hb2)
          (try clear hk)
          (try clear hi)
          refine hK.out _ _ ⟨(blk_cell BK345.out 0).trans rfl, (blk_cell BK345.out 1).trans rfl, (blk_cell BK345.out 2).trans rfl, (blk_cell BK350.out 0).trans rfl, (blk_cell BK350.out 1).trans rfl, (blk_cell BK350.out 2).trans rfl, (blk_cell BK340.out 0).trans rfl, (blk_cell BK340.out 1).trans rfl, (blk_cell BK340.out 2).trans rfl, (blk_cell BK340.out 3).trans rfl, (blk_cell BK340.out 4).trans rfl, (blk_cell BK340.out 5).trans rfl⟩ (fun hHeld => ?_)
          clear hK K
          refine norm_ (a' := ?_) ?_ ?_
          rotate_left
          · show Act.put _ (some 42) _ = _
            simp only [Act.put, pW_]
            rfl
          refine pure_ (i := 20) (N := some 43) (v := ?_) (a' := ?_) #[t_,t_,t_,t_,t_,t_,t_,t_,t_,t_,t_,t_,t_,t_,t_,t_,t_,t_,t_,t_,t_,f_] rfl rfl (any_of HT_.out (by kernel_rfl)) (fun _ _ _ h => h) (Or.inl ⟨by rfl, ?_⟩) ?_ ?_
          rotate_left
          · intro w'
            go_simp
            with_reducible rfl
          rotate_left
          · simp only [Act.put, pW_]
            rfl
          refine pure_ (i := 21) (N := some 44) (v := ?_) (a' := ?_) #[t_,t_,t_,t_,t_,t_,t_,t_,t_,t_,t_,t_,t_,t_,t_,t_,t_,t_,t_,t_,t_,t_] rfl rfl (any_of HT_.out (by kernel_rfl)) (fun _ _ _ h => h) (Or.inl ⟨by rfl, ?_⟩) ?_ ?_
          rotate_left
          · intro w'
            go_simp
            with_reducible rfl
          rotate_left
          · simp only [Act.put, pW_]
            rfl
          refine done_ (done_of HT_.out (by kernel_rfl)) ?_
          try go_wp2
          go_meet
          case rel => exact ⟨_, ((t353 != t354)), (by first | rfl | (simp; done) | (simp [*]; done)), H', ⟨by first | omega | exact Nat.le_refl _⟩, ⟨by (with_reducible repeat (first | refine blk_drewN ?_ _ | refine blk_drew ?_ | refine blk_alloc ?_ _)); exact BK340.out⟩, ⟨by (with_reducible repeat (first | refine blk_drewN ?_ _ | refine blk_drew ?_ | refine blk_alloc ?_ _)); exact BK345.out⟩, ⟨by (with_reducible repeat (first | refine blk_drewN ?_ _ | refine blk_drew ?_ | refine blk_alloc ?_ _)); exact BK350.out⟩, ⟨bB_⟩⟩
  case rest =>
    clear HC5
    try clear c2
    try clear p2
    try clear c20
    try clear c21
    try clear c21b0
    try clear c21b1
    try clear c21b2
    try clear c24
    try clear c25
    try clear c26
    try clear c26b0
    try clear c26b1
    try clear c26b2
    obtain ⟨kq, x44_4, rfl, HA, HJ4, BK340, BK345, BK350, HB⟩ := hcut
    cases kq with
    | zero => exact absurd HA.out (by simp [tapearchivelaw09_SerpentinePlaces.j0])
    | succ kj4 =>
      have H := HA.out
      clear HA
      simp only [tapearchivelaw09_SerpentinePlaces.j0] at H
      by_cases c39 : x44_4 = true
      · subst c39
        have H1 : (some false) = some r := by rw [if_pos rfl] at H; exact H
        clear H
        have H := H1
        clear H1
        obtain rfl := Option.some.inj H
        go_wp2
        go_ret
        exact ⟨by first | rfl | (simp [errW_none, errW_some] <;> rfl) | (simp [*, errW_none, errW_some] <;> rfl), bB_⟩
      · replace c39 := Bool.eq_false_iff.mpr c39
        subst c39
        have H1 : ((serpentine_Block.f kj4 a0_0 a0_1 a0_2 a0_3 a0_4 a0_5 t341 t342 t343).bind fun bt355 => (if t344 = true then (if bt355.2 = true then (if bt355.1 = a1 then ((tapearchivelaw09_awake.f kj4).bind fun t357 => (some t357)) else (some false)) else (some false)) else ((tapearchivelaw09_awake.f kj4).bind fun t358 => (some t358)))) = some r := by rw [if_neg (show ¬ (false = true) by decide)] at H; exact H
        clear H
        have H := H1
        clear H1
        replace H := Option.bind_eq_some_iff.mp H
        obtain ⟨⟨t355, t356⟩, A400, H⟩ := H
        replace H : (if t344 = true then (if t356 = true then (if t355 = a1 then ((tapearchivelaw09_awake.f kj4).bind fun t357 => (some t357)) else (some false)) else (some false)) else ((tapearchivelaw09_awake.f kj4).bind fun t358 => (some t358))) = some r := H
        have A40 := Aside0.mk A400
        clear A400
        by_cases c41 : t344 = true
        · subst c41
          have H1 : (if t356 = true then (if t355 = a1 then ((tapearchivelaw09_awake.f kj4).bind fun t357 => (some t357)) else (some false)) else (some false)) = some r := by rw [if_pos rfl] at H; exact H
          clear H
          have H := H1
          clear H1
          by_cases c42 : t356 = true
          · subst c42
            have H1 : (if t355 = a1 then ((tapearchivelaw09_awake.f kj4).bind fun t357 => (some t357)) else (some false)) = some r := by rw [if_pos rfl] at H; exact H
            clear H
            have H := H1
            clear H1
            by_cases c43 : t355 = a1
            · rw [if_pos c43] at H
              have c43b0 : (t355 == a1) = true := beq_iff_eq.mpr c43
              have c43b1 : (t355 != a1) = false := bne_eq_false_iff_eq.mpr c43
              clear c43
              replace H := Option.bind_eq_some_iff.mp H
              obtain ⟨t357, A440, H⟩ := H
              replace H : (some t357) = some r := H
              have A44 := Aside0.mk A440
              clear A440
              obtain rfl := Option.some.inj H
              have hnb45 := NB340_345.out
              have hnc45 := NB345_340.out
              have hnb46 := NB340_350.out
              have hnc46 := NB350_340.out
              obtain ⟨hcz47_0, hcz47_1, hcz47_2, hcz47_3, hcz47_4, hcz47_5, hfz47_0, hfz47_1, hfz47_2, hfz47_3, hfz47_4, hfz47_5⟩ := cz6 BK340.out
              have hnb48 := NB345_350.out
              have hnc48 := NB350_345.out
              obtain ⟨hcz49_0, hcz49_1, hcz49_2, hfz49_0, hfz49_1, hfz49_2⟩ := cz3 BK345.out
              go_wp2_with (first | ((with_reducible refine gate_callee (f := 21) rfl ?_); refine goesL_ (some 48) rfl rfl Try.func21 (by kernel_rfl) rfl #[.agg #[.int .i64 a0_0, .int .i64 a0_1, .int .i64 a0_2, .int .i64 a0_3, .int .i64 a0_4, .int .i64 a0_5], .agg #[.int .i64 t341, .int .i64 t342, .bool t343]] rfl mB_ ?_; (with_reducible refine (serpentine_Block.calls kj4 a0_0 a0_1 a0_2 a0_3 a0_4 a0_5 t341 t342 t343 t355 true _ A40.out).mono ?_); rintro e w50 ⟨rfl, hb⟩; refine ⟨_, rfl, ?_⟩; have n0_ := Aside0.mk (blk_below (kB_ BK340.out) hb); have n1_ := Aside0.mk (blk_below (kB_ BK345.out) hb); have n2_ := Aside0.mk (blk_below (kB_ BK350.out) hb); have n3_ := Aside0.mk (below_step bB_ hb); clear BK340; clear BK345; clear BK350; clear HB; have BK340 := n0_; have BK345 := n1_; have BK350 := n2_; have HB := n3_; clear n0_ n1_ n2_ n3_; (try clear hb); (try clear hb2); (try clear hk); (try clear hi)) | (go_at_call 17; (with_reducible refine (tapearchivelaw09_awake.calls kj4  t357 _ A44.out).mono ?_); rintro e w51 ⟨rfl, hb⟩; have n0_ := Aside0.mk (blk_below (kB_ BK340.out) hb); have n1_ := Aside0.mk (blk_below (kB_ BK345.out) hb); have n2_ := Aside0.mk (blk_below (kB_ BK350.out) hb); have n3_ := Aside0.mk (below_step bB_ hb); clear BK340; clear BK345; clear BK350; clear HB; have BK340 := n0_; have BK345 := n1_; have BK350 := n2_; have HB := n3_; clear n0_ n1_ n2_ n3_; (try clear hb); (try clear hb2); (try clear hk); (try clear hi)))
              go_ret
              exact ⟨by first | rfl | (simp [errW_none, errW_some] <;> rfl) | (simp [*, errW_none, errW_some] <;> rfl), bB_⟩
            · rw [if_neg c43] at H
              have c43b0 : (t355 == a1) = false := beq_eq_false_iff_ne.mpr c43
              have c43b1 : (t355 != a1) = true := bne_iff_ne.mpr c43
              obtain rfl := Option.some.inj H
              have hnb52 := NB340_345.out
              have hnc52 := NB345_340.out
              have hnb53 := NB340_350.out
              have hnc53 := NB350_340.out
              obtain ⟨hcz54_0, hcz54_1, hcz54_2, hcz54_3, hcz54_4, hcz54_5, hfz54_0, hfz54_1, hfz54_2, hfz54_3, hfz54_4, hfz54_5⟩ := cz6 BK340.out
              have hnb55 := NB345_350.out
              have hnc55 := NB350_345.out
              obtain ⟨hcz56_0, hcz56_1, hcz56_2, hfz56_0, hfz56_1, hfz56_2⟩ := cz3 BK345.out
              go_wp2_with (first | ((with_reducible refine gate_callee (f := 21) rfl ?_); refine goesL_ (some 48) rfl rfl Try.func21 (by kernel_rfl) rfl #[.agg #[.int .i64 a0_0, .int .i64 a0_1, .int .i64 a0_2, .int .i64 a0_3, .int .i64 a0_4, .int .i64 a0_5], .agg #[.int .i64 t341, .int .i64 t342, .bool t343]] rfl mB_ ?_; (with_reducible refine (serpentine_Block.calls kj4 a0_0 a0_1 a0_2 a0_3 a0_4 a0_5 t341 t342 t343 t355 true _ A40.out).mono ?_); rintro e w57 ⟨rfl, hb⟩; refine ⟨_, rfl, ?_⟩; have n0_ := Aside0.mk (blk_below (kB_ BK340.out) hb); have n1_ := Aside0.mk (blk_below (kB_ BK345.out) hb); have n2_ := Aside0.mk (blk_below (kB_ BK350.out) hb); have n3_ := Aside0.mk (below_step bB_ hb); clear BK340; clear BK345; clear BK350; clear HB; have BK340 := n0_; have BK345 := n1_; have BK350 := n2_; have HB := n3_; clear n0_ n1_ n2_ n3_; (try clear hb); (try clear hb2); (try clear hk); (try clear hi)))
              go_ret
              exact ⟨by first | rfl | (simp [errW_none, errW_some] <;> rfl) | (simp [*, errW_none, errW_some] <;> rfl), bB_⟩
          · replace c42 := Bool.eq_false_iff.mpr c42
            subst c42
            have H1 : (some false) = some r := by rw [if_neg (show ¬ (false = true) by decide)] at H; exact H
            clear H
            have H := H1
            clear H1
            obtain rfl := Option.some.inj H
            have hnb58 := NB340_345.out
            have hnc58 := NB345_340.out
            have hnb59 := NB340_350.out
            have hnc59 := NB350_340.out
            obtain ⟨hcz60_0, hcz60_1, hcz60_2, hcz60_3, hcz60_4, hcz60_5, hfz60_0, hfz60_1, hfz60_2, hfz60_3, hfz60_4, hfz60_5⟩ := cz6 BK340.out
            have hnb61 := NB345_350.out
            have hnc61 := NB350_345.out
            obtain ⟨hcz62_0, hcz62_1, hcz62_2, hfz62_0, hfz62_1, hfz62_2⟩ := cz3 BK345.out
            go_wp2_with (first | ((with_reducible refine gate_callee (f := 21) rfl ?_); refine goesL_ (some 48) rfl rfl Try.func21 (by kernel_rfl) rfl #[.agg #[.int .i64 a0_0, .int .i64 a0_1, .int .i64 a0_2, .int .i64 a0_3, .int .i64 a0_4, .int .i64 a0_5], .agg #[.int .i64 t341, .int .i64 t342, .bool t343]] rfl mB_ ?_; (with_reducible refine (serpentine_Block.calls kj4 a0_0 a0_1 a0_2 a0_3 a0_4 a0_5 t341 t342 t343 t355 false _ A40.out).mono ?_); rintro e w63 ⟨rfl, hb⟩; refine ⟨_, rfl, ?_⟩; have n0_ := Aside0.mk (blk_below (kB_ BK340.out) hb); have n1_ := Aside0.mk (blk_below (kB_ BK345.out) hb); have n2_ := Aside0.mk (blk_below (kB_ BK350.out) hb); have n3_ := Aside0.mk (below_step bB_ hb); clear BK340; clear BK345; clear BK350; clear HB; have BK340 := n0_; have BK345 := n1_; have BK350 := n2_; have HB := n3_; clear n0_ n1_ n2_ n3_; (try clear hb); (try clear hb2); (try clear hk); (try clear hi)))
            go_ret
            exact ⟨by first | rfl | (simp [errW_none, errW_some] <;> rfl) | (simp [*, errW_none, errW_some] <;> rfl), bB_⟩
        · replace c41 := Bool.eq_false_iff.mpr c41
          subst c41
          have H1 : ((tapearchivelaw09_awake.f kj4).bind fun t358 => (some t358)) = some r := by rw [if_neg (show ¬ (false = true) by decide)] at H; exact H
          clear H
          have H := H1
          clear H1
          replace H := Option.bind_eq_some_iff.mp H
          obtain ⟨t358, A640, H⟩ := H
          replace H : (some t358) = some r := H
          have A64 := Aside0.mk A640
          clear A640
          obtain rfl := Option.some.inj H
          have hnb65 := NB340_345.out
          have hnc65 := NB345_340.out
          have hnb66 := NB340_350.out
          have hnc66 := NB350_340.out
          obtain ⟨hcz67_0, hcz67_1, hcz67_2, hcz67_3, hcz67_4, hcz67_5, hfz67_0, hfz67_1, hfz67_2, hfz67_3, hfz67_4, hfz67_5⟩ := cz6 BK340.out
          have hnb68 := NB345_350.out
          have hnc68 := NB350_345.out
          obtain ⟨hcz69_0, hcz69_1, hcz69_2, hfz69_0, hfz69_1, hfz69_2⟩ := cz3 BK345.out
          go_wp2_with (first | ((with_reducible refine gate_callee (f := 21) rfl ?_); refine goesL_ (some 48) rfl rfl Try.func21 (by kernel_rfl) rfl #[.agg #[.int .i64 a0_0, .int .i64 a0_1, .int .i64 a0_2, .int .i64 a0_3, .int .i64 a0_4, .int .i64 a0_5], .agg #[.int .i64 t341, .int .i64 t342, .bool t343]] rfl mB_ ?_; (with_reducible refine (serpentine_Block.calls kj4 a0_0 a0_1 a0_2 a0_3 a0_4 a0_5 t341 t342 t343 t355 t356 _ A40.out).mono ?_); rintro e w70 ⟨rfl, hb⟩; refine ⟨_, rfl, ?_⟩; have n0_ := Aside0.mk (blk_below (kB_ BK340.out) hb); have n1_ := Aside0.mk (blk_below (kB_ BK345.out) hb); have n2_ := Aside0.mk (blk_below (kB_ BK350.out) hb); have n3_ := Aside0.mk (below_step bB_ hb); clear BK340; clear BK345; clear BK350; clear HB; have BK340 := n0_; have BK345 := n1_; have BK350 := n2_; have HB := n3_; clear n0_ n1_ n2_ n3_; (try clear hb); (try clear hb2); (try clear hk); (try clear hi)) | (go_at_call 17; (with_reducible refine (tapearchivelaw09_awake.calls kj4  t358 _ A64.out).mono ?_); rintro e w71 ⟨rfl, hb⟩; have n0_ := Aside0.mk (blk_below (kB_ BK340.out) hb); have n1_ := Aside0.mk (blk_below (kB_ BK345.out) hb); have n2_ := Aside0.mk (blk_below (kB_ BK350.out) hb); have n3_ := Aside0.mk (below_step bB_ hb); clear BK340; clear BK345; clear BK350; clear HB; have BK340 := n0_; have BK345 := n1_; have BK350 := n2_; have HB := n3_; clear n0_ n1_ n2_ n3_; (try clear hb); (try clear hb2); (try clear hk); (try clear hi)))
          go_ret
          exact ⟨by first | rfl | (simp [errW_none, errW_some] <;> rfl) | (simp [*, errW_none, errW_some] <;> rfl), bB_⟩

end Go.Proofs.Ytnogfkhbfgmjcaa.P
