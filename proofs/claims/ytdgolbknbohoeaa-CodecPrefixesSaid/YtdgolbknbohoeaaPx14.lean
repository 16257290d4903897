-- Written by a program of this session (wip/gen/myprint.py): plain functions of the Go code, and the proofs of the walks.
import Derived.Test.YtdgolbknbohoeaaPx0
import Derived.Test.YtdgolbknbohoeaaPx1
import Derived.Test.YtdgolbknbohoeaaPx3
import Derived.Test.YtdgolbknbohoeaaPx4
import Derived.Test.YtdgolbknbohoeaaPx5
import Derived.Test.YtdgolbknbohoeaaPx8
namespace Go.Proofs.Ytdgolbknbohoeaa.P
open Go.RowKit Go.Proofs.YtdgolbknbohoeaaW.PrintWords Go.Proofs.YtdgolbknbohoeaaW.PrintLast Go.Proofs.YtdgolbknbohoeaaW.PrintMore
open Go.Proofs.YtdgolbknbohoeaaW.Mine
attribute [local go_sem] isSome_setCell Go.Instr.field Go.asAgg
attribute [local go_sem] max2_int min2_int max_two min_two max_three min_three max_four min_four   -- for this text's walks alone
set_option linter.unusedVariables false
set_option linter.unusedSimpArgs false

/-! ### tapearchivelaw02_CodecPrefixes: function 8 -/
def tapearchivelaw02_CodecPrefixes.j0 : Nat → Int → List Int → Bool → Int → Int → Int → ByteArray → Bool → Option (Bool)
  | 0, _, _, _, _, _, _, _, _ => none
  | k + 1, x1, x5, x22, x406000, x406001, x406002, x406003, x406004 => if x22 = true then (some true) else (if 0 ≤ x1 then (if x1 ≤ (x5.length : Int) then ((some (x5.take (x1 : Int).toNat : List Int)).bind fun y414 => (if x406000 = 0 then ((codec_Uint.f k y414 0).bind fun bt417 => (some (bt417.2.2 == 2))) else (if x406000 = 1 then ((codec_Int.f k y414 0).bind fun bt420 => (some (bt420.2.2 == 2))) else (if x406000 = 2 then ((codec_Text.f k y414 0 (x406003.size : Int)).bind fun bt423 => (some (bt423.2.2 == 2))) else ((codec_Bool.f k y414 0).bind fun bt426 => (some (bt426.2.2 == 2))))))) else (none)) else (none))
def tapearchivelaw02_CodecPrefixes.f (k : Nat) (a0_0 : Int) (a0_1 : Int) (a0_2 : Int) (a0_3 : ByteArray) (a0_4 : Bool) (a1 : Int) : Option (Bool) := (tapearchivelaw02_lives.f k).bind fun t406 => (if t406 = true then ((tapearchivelaw02_small.f k (([(⟨a0_0, a0_1, a0_2, a0_3, a0_4⟩ : S29)] : List (S29)))).bind fun t410 => (if t410 = true then ((tapearchivelaw02_put.f k ([] : List Int) a0_0 a0_1 a0_2 a0_3 a0_4).bind fun t411 => (if a1 < 0 then (tapearchivelaw02_CodecPrefixes.j0 k a1 t411 true a0_0 a0_1 a0_2 a0_3 a0_4) else (tapearchivelaw02_CodecPrefixes.j0 k a1 t411 (decide (a1 ≥ (t411.length : Int))) a0_0 a0_1 a0_2 a0_3 a0_4))) else (some true))) else (some false))
theorem tapearchivelaw02_CodecPrefixes.mono_l : ∀ k, (∀ y0 y1 y2 y3 y4 y5 y6 y7, LeO (tapearchivelaw02_CodecPrefixes.j0 k y0 y1 y2 y3 y4 y5 y6 y7) (tapearchivelaw02_CodecPrefixes.j0 (k + 1) y0 y1 y2 y3 y4 y5 y6 y7))
  | 0 => fun _ _ _ _ _ _ _ _ r h => by simp [tapearchivelaw02_CodecPrefixes.j0] at h
  | k + 1 => by
    have ih0 := tapearchivelaw02_CodecPrefixes.mono_l k
    · intro y0 y1 y2 y3 y4 y5 y6 y7
      unfold tapearchivelaw02_CodecPrefixes.j0
      repeat' first
      | (with_reducible exact ih0 _ _ _ _ _ _ _ _)
      | (with_reducible exact codec_Bool.mono _ _ _)
      | (with_reducible exact codec_Int.mono _ _ _)
      | (with_reducible exact codec_Text.mono _ _ _ _)
      | (with_reducible exact codec_Uint.mono _ _ _)
      | (with_reducible exact tapearchivelaw02_lives.mono _)
      | (with_reducible exact tapearchivelaw02_put.mono _ _ _ _ _ _ _)
      | (with_reducible exact tapearchivelaw02_small.mono _ _)
      | (with_reducible exact LeO.refl _)
      | (with_reducible exact LeO.none _)
      | (with_reducible refine LeO.ite ?_ ?_)
      | (with_reducible refine LeO.bind ?_ (fun _ => ?_))
      | exact ih0 _ _ _ _ _ _ _ _
      | exact codec_Bool.mono _ _ _
      | exact codec_Int.mono _ _ _
      | exact codec_Text.mono _ _ _ _
      | exact codec_Uint.mono _ _ _
      | exact tapearchivelaw02_lives.mono _
      | exact tapearchivelaw02_put.mono _ _ _ _ _ _ _
      | exact tapearchivelaw02_small.mono _ _
      | exact LeO.none _
      | refine LeO.ite ?_ ?_
      | refine LeO.bind ?_ (fun _ => ?_)
theorem tapearchivelaw02_CodecPrefixes.mono : ∀ a0 a1 a2 a3 a4 a5 k, LeO (tapearchivelaw02_CodecPrefixes.f k a0 a1 a2 a3 a4 a5) (tapearchivelaw02_CodecPrefixes.f (k + 1) a0 a1 a2 a3 a4 a5) := by
  intro a0 a1 a2 a3 a4 a5 k
  have ih0 := tapearchivelaw02_CodecPrefixes.mono_l k
  unfold tapearchivelaw02_CodecPrefixes.f
  repeat' first
      | (with_reducible exact ih0 _ _ _ _ _ _ _ _)
      | (with_reducible exact codec_Bool.mono _ _ _)
      | (with_reducible exact codec_Int.mono _ _ _)
      | (with_reducible exact codec_Text.mono _ _ _ _)
      | (with_reducible exact codec_Uint.mono _ _ _)
      | (with_reducible exact tapearchivelaw02_lives.mono _)
      | (with_reducible exact tapearchivelaw02_put.mono _ _ _ _ _ _ _)
      | (with_reducible exact tapearchivelaw02_small.mono _ _)
      | (with_reducible exact LeO.refl _)
      | (with_reducible exact LeO.none _)
      | (with_reducible refine LeO.ite ?_ ?_)
      | (with_reducible refine LeO.bind ?_ (fun _ => ?_))
      | exact ih0 _ _ _ _ _ _ _ _
      | exact codec_Bool.mono _ _ _
      | exact codec_Int.mono _ _ _
      | exact codec_Text.mono _ _ _ _
      | exact codec_Uint.mono _ _ _
      | exact tapearchivelaw02_lives.mono _
      | exact tapearchivelaw02_put.mono _ _ _ _ _ _ _
      | exact tapearchivelaw02_small.mono _ _
      | exact LeO.none _
      | refine LeO.ite ?_ ?_
      | refine LeO.bind ?_ (fun _ => ?_)
set_option maxHeartbeats 8000000 in
set_option maxRecDepth 100000 in
theorem tapearchivelaw02_CodecPrefixes.calls (k : Nat) (a0_0 : Int) (a0_1 : Int) (a0_2 : Int) (a0_3 : ByteArray) (a0_4 : Bool) (a1 : Int) (r : Bool) (w : World) (h : tapearchivelaw02_CodecPrefixes.f k a0_0 a0_1 a0_2 a0_3 a0_4 a1 = some r) :
    Calls Try.prog 8 #[.agg #[.int .i64 a0_0, .int .u64 a0_1, .int .i64 a0_2, .string a0_3, .bool a0_4], .int .i64 a1] w fun e w' => e = .returned (.bool r) ∧ Below w.heap.size w w' := by
  have hu29 := Try.underlying29
  have HB := Aside0.mk (Below.refl w.heap.size w)
  have H : ((tapearchivelaw02_lives.f k).bind fun t406 => (if t406 = true then ((tapearchivelaw02_small.f k (([(⟨a0_0, a0_1, a0_2, a0_3, a0_4⟩ : S29)] : List (S29)))).bind fun t410 => (if t410 = true then ((tapearchivelaw02_put.f k ([] : List Int) a0_0 a0_1 a0_2 a0_3 a0_4).bind fun t411 => (if a1 < 0 then (tapearchivelaw02_CodecPrefixes.j0 k a1 t411 true a0_0 a0_1 a0_2 a0_3 a0_4) else (tapearchivelaw02_CodecPrefixes.j0 k a1 t411 (decide (a1 ≥ (t411.length : Int))) a0_0 a0_1 a0_2 a0_3 a0_4))) else (some true))) else (some false))) = some r := h
  clear h
  replace H := Option.bind_eq_some_iff.mp H
  obtain ⟨t406, A30, H⟩ := H
  replace H : (if t406 = true then ((tapearchivelaw02_small.f k (([(⟨a0_0, a0_1, a0_2, a0_3, a0_4⟩ : S29)] : List (S29)))).bind fun t410 => (if t410 = true then ((tapearchivelaw02_put.f k ([] : List Int) a0_0 a0_1 a0_2 a0_3 a0_4).bind fun t411 => (if a1 < 0 then (tapearchivelaw02_CodecPrefixes.j0 k a1 t411 true a0_0 a0_1 a0_2 a0_3 a0_4) else (tapearchivelaw02_CodecPrefixes.j0 k a1 t411 (decide (a1 ≥ (t411.length : Int))) a0_0 a0_1 a0_2 a0_3 a0_4))) else (some true))) else (some false)) = some r := H
  have A3 := Aside0.mk A30
  clear A30
  by_cases c4 : t406 = true
  · subst c4
    have H1 : ((tapearchivelaw02_small.f k (([(⟨a0_0, a0_1, a0_2, a0_3, a0_4⟩ : S29)] : List (S29)))).bind fun t410 => (if t410 = true then ((tapearchivelaw02_put.f k ([] : List Int) a0_0 a0_1 a0_2 a0_3 a0_4).bind fun t411 => (if a1 < 0 then (tapearchivelaw02_CodecPrefixes.j0 k a1 t411 true a0_0 a0_1 a0_2 a0_3 a0_4) else (tapearchivelaw02_CodecPrefixes.j0 k a1 t411 (decide (a1 ≥ (t411.length : Int))) a0_0 a0_1 a0_2 a0_3 a0_4))) else (some true))) = some r := by rw [if_pos rfl] at H; exact H
    clear H
    have H := H1
    clear H1
    obtain ⟨y407, hy407⟩ : ∃ y_ : List (S29), y_ = (([(⟨a0_0, a0_1, a0_2, a0_3, a0_4⟩ : S29)] : List (S29))) := ⟨_, rfl⟩
    replace H : ((tapearchivelaw02_small.f k y407).bind fun t410 => (if t410 = true then ((tapearchivelaw02_put.f k ([] : List Int) a0_0 a0_1 a0_2 a0_3 a0_4).bind fun t411 => (if a1 < 0 then (tapearchivelaw02_CodecPrefixes.j0 k a1 t411 true a0_0 a0_1 a0_2 a0_3 a0_4) else (tapearchivelaw02_CodecPrefixes.j0 k a1 t411 (decide (a1 ≥ (t411.length : Int))) a0_0 a0_1 a0_2 a0_3 a0_4))) else (some true))) = some r := by first | (rw [hy407]; with_reducible exact H) | (have H2_ := (Option.bind_some _ _).symm.trans H; rw [hy407]; with_reducible exact H2_) | (have H2_ := (Option.bind_some _ _).symm.trans H; with_reducible exact H2_) | with_reducible exact H | (rw [hy407]; exact H) | exact H
    have Ny407 := Aside0.mk hy407
    clear hy407
    replace H := Option.bind_eq_some_iff.mp H
    obtain ⟨t410, A50, H⟩ := H
    replace H : (if t410 = true then ((tapearchivelaw02_put.f k ([] : List Int) a0_0 a0_1 a0_2 a0_3 a0_4).bind fun t411 => (if a1 < 0 then (tapearchivelaw02_CodecPrefixes.j0 k a1 t411 true a0_0 a0_1 a0_2 a0_3 a0_4) else (tapearchivelaw02_CodecPrefixes.j0 k a1 t411 (decide (a1 ≥ (t411.length : Int))) a0_0 a0_1 a0_2 a0_3 a0_4))) else (some true)) = some r := H
    have A5 := Aside0.mk A50
    clear A50
    by_cases c6 : t410 = true
    · subst c6
      have H1 : ((tapearchivelaw02_put.f k ([] : List Int) a0_0 a0_1 a0_2 a0_3 a0_4).bind fun t411 => (if a1 < 0 then (tapearchivelaw02_CodecPrefixes.j0 k a1 t411 true a0_0 a0_1 a0_2 a0_3 a0_4) else (tapearchivelaw02_CodecPrefixes.j0 k a1 t411 (decide (a1 ≥ (t411.length : Int))) a0_0 a0_1 a0_2 a0_3 a0_4))) = some r := by rw [if_pos rfl] at H; exact H
      clear H
      have H := H1
      clear H1
      replace H := Option.bind_eq_some_iff.mp H
      obtain ⟨t411, A70, H⟩ := H
      replace H : (if a1 < 0 then (tapearchivelaw02_CodecPrefixes.j0 k a1 t411 true a0_0 a0_1 a0_2 a0_3 a0_4) else (tapearchivelaw02_CodecPrefixes.j0 k a1 t411 (decide (a1 ≥ (t411.length : Int))) a0_0 a0_1 a0_2 a0_3 a0_4)) = some r := H
      have A7 := Aside0.mk A70
      clear A70
      have HC8 := Aside0.mk H
      clear H
      go_enter Try.func8, Try.ntmps8
      go_upto_region 6 with (first | ((with_reducible refine gate_dst (N := 2) rfl ?_); (try (refine gate_guard (by rfl) ?_; dsimp only)); refine box_event ?hg (N := 2) ?hd (cs := #[.int .i64 a0_0, .int .u64 a0_1, .int .i64 a0_2, .string a0_3, .bool a0_4]) (t := 29) ?hr ?_; (case hd => rfl); (case hg => rfl); (case hr => first | (go_simp; done) | (go_simp; rfl)); intro gb405 hg w9 hbox hb; have n0_ := Aside0.mk (below_step bB_ hb); have n1_ := Aside0.mk (hbox); have n2_ := Aside0.mk (gB_ hg (below_size bB_)); have n3_ := Aside0.mk (gB_ hg (below_size bB_)); clear HB; have HB := n0_; have BK405 := n1_; have GW405 := n2_; have GE405 := n3_; clear n0_ n1_ n2_ n3_; clear hb hbox hg) | ((with_reducible refine gate_callee (f := 9) rfl ?_); refine goesL_ (some 7) rfl rfl Try.func9 (by kernel_rfl) rfl #[] rfl mB_ ?_; (with_reducible refine (tapearchivelaw02_lives.calls k  true _ A3.out).mono ?_); rintro e w10 ⟨rfl, hb⟩; refine ⟨_, rfl, ?_⟩; have n0_ := Aside0.mk (blk_below (kB_ BK405.out) hb); have n1_ := Aside0.mk (below_step bB_ hb); clear BK405; clear HB; have BK405 := n0_; have HB := n1_; clear n0_ n1_; (try clear hb); (try clear hb2); (try clear hk); (try clear hi); obtain ⟨hcz11_0, hcz11_1, hcz11_2, hcz11_3, hcz11_4, hfz11_0, hfz11_1, hfz11_2, hfz11_3, hfz11_4⟩ := cz5 BK405.out) | ((with_reducible refine gate_dst (N := 10) rfl ?_); (try (refine gate_guard (by rfl) ?_; dsimp only)); refine Kd.R_lit k29 _ 29 ?hg (N := 10) ?hd (xs := ([(⟨a0_0, a0_1, a0_2, a0_3, a0_4⟩ : S29)] : List (S29))) (inner := [.int .i64 a0_0, .int .u64 a0_1, .int .i64 a0_2, .string a0_3, .bool a0_4]) (ok := fun _ => True) (okp := fun _ => True) ?hr ?hp (fun _ hk => hk) trivial (Below.refl _ _) (Nat.le_refl _) (by simp) ?_; (case hd => rfl); (case hg => rfl); (case hr => first | (go_simp; done) | (go_simp; rfl)); (case hp => exact (Reps.c5 (show Kd.M k29 _ _ _ (⟨a0_0, a0_1, a0_2, a0_3, a0_4⟩ : S29) [.int .i64 a0_0, .int .u64 a0_1, .int .i64 a0_2, .string a0_3, .bool a0_4] from (k29_mkM _ _ _ (⟨a0_0, a0_1, a0_2, a0_3, a0_4⟩ : S29) )) (Reps.none _ _))); intro v408 w12 ho13 hb hg_ hnew_; clear hg_ hnew_; (first | rw [← Ny407.out] at ho13 | (simp only [Int.reduceToNat] at ho13; rw [← Ny407.out] at ho13)); have n0_ := Aside0.mk (Kd.R_lower (Kd.R_newB ho13 (g := gb405) (o := .cells #[.int .i64 a0_0, .int .u64 a0_1, .int .i64 a0_2, .string a0_3, .bool a0_4] 29 (0, 0)) (kB_ BK405.out)) (below_size bB_)); have n1_ := Aside0.mk (blk_below (kB_ BK405.out) hb); have n2_ := Aside0.mk (below_step bB_ hb); clear BK405; clear HB; have HO409 := n0_; have BK405 := n1_; have HB := n2_; clear n0_ n1_ n2_; clear hb ho13; obtain ⟨Ao14, co14, eo14⟩ := Kd.R_slice HO409.out; subst eo14) | ((with_reducible refine gate_callee (f := 10) rfl ?_); refine goesL_ (some 11) rfl rfl Try.func10 (by kernel_rfl) rfl #[.slice Ao14 y407.length co14] rfl mB_ ?_; (with_reducible refine (tapearchivelaw02_small.calls k _ _ y407 true _ ?side1 ?side2 A5.out).mono ?_); (case side1 => repeat (first | exact (Kd.R_reads' HO409.out).2.2 | (with_reducible refine Kd.C_alloc ?_ _) | (with_reducible refine Kd.C_drewN ?_ _) | (with_reducible refine Kd.C_drew ?_))); (case side2 => exact (Kd.R_reads' HO409.out).2.1); rintro e w15 ⟨rfl, hb⟩; refine ⟨_, rfl, ?_⟩; have n0_ := Aside0.mk (Kd.R_below (by (with_reducible repeat (first | apply Kd.R_alloc | apply Kd.R_drewN | apply Kd.R_drew)); exact HO409.out) hb); have n1_ := Aside0.mk (blk_below (kB_ BK405.out) hb); have n2_ := Aside0.mk (below_step bB_ hb); clear HO409; clear BK405; clear HB; have HO409 := n0_; have BK405 := n1_; have HB := n2_; clear n0_ n1_ n2_; (try clear hb); (try clear hb2); (try clear hk); (try clear hi); obtain ⟨hcz16_0, hcz16_1, hcz16_2, hcz16_3, hcz16_4, hfz16_0, hfz16_1, hfz16_2, hfz16_3, hfz16_4⟩ := cz5 BK405.out) | ((with_reducible refine gate_callee (f := 11) rfl ?_); refine goesL_ (some 14) rfl rfl Try.func11 (by kernel_rfl) rfl #[.slice none 0 0, .agg #[.int .i64 a0_0, .int .u64 a0_1, .int .i64 a0_2, .string a0_3, .bool a0_4]] rfl mB_ ?_; (refine (tapearchivelaw02_put.calls k _ _ ([] : List Int) a0_0 a0_1 a0_2 a0_3 a0_4 t411 _ ?side1 ?side2 A7.out).mono ?_); (case side1 => exact Kd.C_nil _ _); (case side2 => exact Nat.le_refl _); rintro e w17 ⟨v412, rfl, ho0, hb⟩; refine ⟨_, rfl, ?_⟩; have n0_ := Aside0.mk (Kd.R_below (by (with_reducible repeat (first | apply Kd.R_alloc | apply Kd.R_drewN | apply Kd.R_drew)); exact HO409.out) hb); have n1_ := Aside0.mk (Kd.R_lower ho0 (below_size bB_)); have n2_ := Aside0.mk (blk_below (kB_ BK405.out) hb); have n3_ := Aside0.mk (below_step bB_ hb); clear HO409; clear BK405; clear HB; have HO409 := n0_; have HO413 := n1_; have BK405 := n2_; have HB := n3_; clear n0_ n1_ n2_ n3_; (try clear hb); (try clear hb2); (try clear hk); (try clear hi); (try clear ho0)))
      (try simp only [Act.put, List.setIfInBounds_toArray, List.set_cons_zero, List.set_cons_succ])
      go_cut [22] (fun v22 wc => ∃ (kq : Nat) (x22_7 : Bool), v22 = .bool x22_7 ∧ Aside0 (tapearchivelaw02_CodecPrefixes.j0 kq a1 t411 x22_7 a0_0 a0_1 a0_2 a0_3 a0_4 = some r) ∧ Aside0 (kq ≤ k) ∧ Aside0 (Kd.R (Kd.int .u8) 5 wc w.heap.size (fun _ => True) v412 t411) ∧ Aside0 (wc.heap[gb405]? = some (.cells #[.int .i64 a0_0, .int .u64 a0_1, .int .i64 a0_2, .string a0_3, .bool a0_4] 29 (0, 0))) ∧ Aside0 (Below w.heap.size w wc))
      case first =>
        have H := HC8.out
        clear HC8
        by_cases c18 : a1 < 0
        · rw [if_pos c18] at H
          have c18b0 : decide (a1 < 0) = true := decide_eq_true c18
          clear c18
          (first | rw [c18b0] | (simp only [i64_w, i32_w]; rw [c18b0]) | skip)
          have H' := Aside0.mk H
          clear H
          go_wp2
          go_meet
          case rel => exact ⟨_, (true), (by first | rfl | (simp; done) | (simp [*]; done)), H', ⟨by first | omega | exact Nat.le_refl _⟩, ⟨by (with_reducible repeat (first | apply Kd.R_alloc | apply Kd.R_drewN | apply Kd.R_drew)); exact HO413.out⟩, ⟨by (with_reducible repeat (first | refine blk_drewN ?_ _ | refine blk_drew ?_ | refine blk_alloc ?_ _)); exact BK405.out⟩, ⟨bB_⟩⟩
        · rw [if_neg c18] at H
          have c18b0 : decide (a1 < 0) = false := decide_eq_false c18
          clear c18
          (first | rw [c18b0] | (simp only [i64_w, i32_w]; rw [c18b0]) | skip)
          have H' := Aside0.mk H
          clear H
          obtain ⟨Ao19, co19, eo19⟩ := Kd.R_slice HO413.out
          subst eo19
          go_wp2
          go_meet
          case rel => exact ⟨_, (decide (a1 ≥ (t411.length : Int))), (by first | rfl | (simp; done) | (simp [*]; done)), H', ⟨by first | omega | exact Nat.le_refl _⟩, ⟨by (with_reducible repeat (first | apply Kd.R_alloc | apply Kd.R_drewN | apply Kd.R_drew)); exact HO413.out⟩, ⟨by (with_reducible repeat (first | refine blk_drewN ?_ _ | refine blk_drew ?_ | refine blk_alloc ?_ _)); exact BK405.out⟩, ⟨bB_⟩⟩
      case rest =>
        clear HC8
        try clear c1
        try clear p2
        try clear c4
        try clear c5
        try clear c6
        try clear c8
        try clear c9
        try clear c10
        try clear c11
        try clear c18
        try clear c18b0
        try clear hcz11_0
        try clear hcz11_1
        try clear hcz11_2
        try clear hcz11_3
        try clear hcz11_4
        try clear hcz16_0
        try clear hcz16_1
        try clear hcz16_2
        try clear hcz16_3
        try clear hcz16_4
        try clear hfz11_0
        try clear hfz11_1
        try clear hfz11_2
        try clear hfz11_3
        try clear hfz11_4
        try clear hfz16_0
        try clear hfz16_1
        try clear hfz16_2
        try clear hfz16_3
        try clear hfz16_4
        obtain ⟨kq, x22_7, rfl, HA, HJ7, HO_5, BK405, HB⟩ := hcut
        cases kq with
        | zero => exact absurd HA.out (by simp [tapearchivelaw02_CodecPrefixes.j0])
        | succ kj7 =>
          have H := HA.out
          clear HA
          simp only [tapearchivelaw02_CodecPrefixes.j0] at H
          by_cases c20 : x22_7 = true
          · subst c20
            have H1 : (some true) = some r := by rw [if_pos rfl] at H; exact H
            clear H
            have H := H1
            clear H1
            obtain rfl := Option.some.inj H
            go_wp2
            go_ret
            exact ⟨by first | rfl | (simp [errW_none, errW_some] <;> rfl) | (simp [*, errW_none, errW_some] <;> rfl), bB_⟩
          · replace c20 := Bool.eq_false_iff.mpr c20
            subst c20
            have H1 : (if 0 ≤ a1 then (if a1 ≤ (t411.length : Int) then ((some (t411.take (a1 : Int).toNat : List Int)).bind fun y414 => (if a0_0 = 0 then ((codec_Uint.f kj7 y414 0).bind fun bt417 => (some (bt417.2.2 == 2))) else (if a0_0 = 1 then ((codec_Int.f kj7 y414 0).bind fun bt420 => (some (bt420.2.2 == 2))) else (if a0_0 = 2 then ((codec_Text.f kj7 y414 0 (a0_3.size : Int)).bind fun bt423 => (some (bt423.2.2 == 2))) else ((codec_Bool.f kj7 y414 0).bind fun bt426 => (some (bt426.2.2 == 2))))))) else (none)) else (none)) = some r := by rw [if_neg (show ¬ (false = true) by decide)] at H; exact H
            clear H
            have H := H1
            clear H1
            by_cases c21 : 0 ≤ a1
            · rw [if_pos c21] at H
              have c21b0 := eq_true c21
              have c21b1 : decide (0 ≤ a1) = true := decide_eq_true c21
              clear c21
              by_cases c22 : a1 ≤ (t411.length : Int)
              · rw [if_pos c22] at H
                have c22b0 := eq_true c22
                have c22b1 : decide (a1 ≤ (t411.length : Int)) = true := decide_eq_true c22
                clear c22
                obtain ⟨y414, hy414⟩ : ∃ y_ : List Int, y_ = (t411.take (a1 : Int).toNat) := ⟨_, rfl⟩
                replace H : (if a0_0 = 0 then ((codec_Uint.f kj7 y414 0).bind fun bt417 => (some (bt417.2.2 == 2))) else (if a0_0 = 1 then ((codec_Int.f kj7 y414 0).bind fun bt420 => (some (bt420.2.2 == 2))) else (if a0_0 = 2 then ((codec_Text.f kj7 y414 0 (a0_3.size : Int)).bind fun bt423 => (some (bt423.2.2 == 2))) else ((codec_Bool.f kj7 y414 0).bind fun bt426 => (some (bt426.2.2 == 2)))))) = some r := by first | (rw [hy414]; with_reducible exact H) | (have H2_ := (Option.bind_some _ _).symm.trans H; rw [hy414]; with_reducible exact H2_) | (have H2_ := (Option.bind_some _ _).symm.trans H; with_reducible exact H2_) | with_reducible exact H | (rw [hy414]; exact H) | exact H
                have Ny414 := Aside0.mk hy414
                clear hy414
                by_cases c23 : a0_0 = 0
                · rw [if_pos c23] at H
                  have c23b0 : (a0_0 == 0) = true := beq_iff_eq.mpr c23
                  have c23b1 : (a0_0 != 0) = false := bne_eq_false_iff_eq.mpr c23
                  clear c23
                  replace H := Option.bind_eq_some_iff.mp H
                  obtain ⟨⟨t417, t418, t419⟩, A240, H⟩ := H
                  replace H : (some (t419 == 2)) = some r := H
                  have A24 := Aside0.mk A240
                  clear A240
                  obtain rfl := Option.some.inj H
                  obtain ⟨Ao25, co25, eo25⟩ := Kd.R_slice HO_5.out
                  subst eo25
                  have q26 : (a1 : Int) ≤ ((t411.length : Int) : Int) := of_decide_eq_true (by first | (with_reducible assumption) | assumption)
                  obtain ⟨i026, hi026, _, hsz26, _⟩ := info_parts info5
                  have hcut26 := cut_to (P := Try.prog) 22 5 .i64 Try.underlying22 hi026 Ao25 t411.length co25 a1 (of_decide_eq_true (by first | (with_reducible assumption) | assumption)) q26 (Kd.R_reads' HO_5.out).2.1
                  have hr26 := Kd.R_take (m := (a1 : Int).toNat) HO_5.out (by omega)
                  have hy26 : y414.length = (a1 : Int).toNat := (by rw [Ny414.out, List.length_take]; omega)
                  rw [← Ny414.out] at hr26
                  rw [← hy26] at hr26 hcut26
                  clear hy26 hi026 hsz26 HO_5
                  have HO416 := Aside0.mk hr26
                  clear hr26
                  replace q26 := eq_true q26
                  obtain ⟨hcz27_0, hcz27_1, hcz27_2, hcz27_3, hcz27_4, hfz27_0, hfz27_1, hfz27_2, hfz27_3, hfz27_4⟩ := cz5 BK405.out
                  go_wp2_with (first | ((with_reducible refine gate_callee (f := 13) rfl ?_); refine goesL_ (some 38) rfl rfl Try.func13 (by kernel_rfl) rfl #[.slice Ao25 y414.length co25, .int .i64 0] rfl mB_ ?_; (with_reducible refine (codec_Uint.calls kj7 _ _ y414 0 t417 t418 t419 _ ?side1 ?side2 A24.out).mono ?_); (case side1 => repeat (first | exact (Kd.R_reads' HO416.out).2.2 | (with_reducible refine Kd.C_alloc ?_ _) | (with_reducible refine Kd.C_drewN ?_ _) | (with_reducible refine Kd.C_drew ?_))); (case side2 => exact (Kd.R_reads' HO416.out).2.1); rintro e w28 ⟨rfl, hb⟩; refine ⟨_, rfl, ?_⟩; have n0_ := Aside0.mk (Kd.R_below (by (with_reducible repeat (first | apply Kd.R_alloc | apply Kd.R_drewN | apply Kd.R_drew)); exact HO416.out) hb); have n1_ := Aside0.mk (blk_below (kB_ BK405.out) hb); have n2_ := Aside0.mk (below_step bB_ hb); clear HO416; clear BK405; clear HB; have HO416 := n0_; have BK405 := n1_; have HB := n2_; clear n0_ n1_ n2_; (try clear hb); (try clear hb2); (try clear hk); (try clear hi)))
                  go_ret
                  exact ⟨by first | rfl | (simp [errW_none, errW_some] <;> rfl) | (simp [*, errW_none, errW_some] <;> rfl), bB_⟩
                · rw [if_neg c23] at H
                  have c23b0 : (a0_0 == 0) = false := beq_eq_false_iff_ne.mpr c23
                  have c23b1 : (a0_0 != 0) = true := bne_iff_ne.mpr c23
                  by_cases c29 : a0_0 = 1
                  · rw [if_pos c29] at H
                    have c29b0 : (a0_0 == 1) = true := beq_iff_eq.mpr c29
                    have c29b1 : (a0_0 != 1) = false := bne_eq_false_iff_eq.mpr c29
                    clear c29
                    replace H := Option.bind_eq_some_iff.mp H
                    obtain ⟨⟨t420, t421, t422⟩, A300, H⟩ := H
                    replace H : (some (t422 == 2)) = some r := H
                    have A30 := Aside0.mk A300
                    clear A300
                    obtain rfl := Option.some.inj H
                    obtain ⟨Ao31, co31, eo31⟩ := Kd.R_slice HO_5.out
                    subst eo31
                    have q32 : (a1 : Int) ≤ ((t411.length : Int) : Int) := of_decide_eq_true (by first | (with_reducible assumption) | assumption)
                    obtain ⟨i032, hi032, _, hsz32, _⟩ := info_parts info5
                    have hcut32 := cut_to (P := Try.prog) 22 5 .i64 Try.underlying22 hi032 Ao31 t411.length co31 a1 (of_decide_eq_true (by first | (with_reducible assumption) | assumption)) q32 (Kd.R_reads' HO_5.out).2.1
                    have hr32 := Kd.R_take (m := (a1 : Int).toNat) HO_5.out (by omega)
                    have hy32 : y414.length = (a1 : Int).toNat := (by rw [Ny414.out, List.length_take]; omega)
                    rw [← Ny414.out] at hr32
                    rw [← hy32] at hr32 hcut32
                    clear hy32 hi032 hsz32 HO_5
                    have HO416 := Aside0.mk hr32
                    clear hr32
                    replace q32 := eq_true q32
                    obtain ⟨hcz33_0, hcz33_1, hcz33_2, hcz33_3, hcz33_4, hfz33_0, hfz33_1, hfz33_2, hfz33_3, hfz33_4⟩ := cz5 BK405.out
                    go_wp2_with (first | ((with_reducible refine gate_callee (f := 15) rfl ?_); refine goesL_ (some 46) rfl rfl Try.func15 (by kernel_rfl) rfl #[.slice Ao31 y414.length co31, .int .i64 0] rfl mB_ ?_; (with_reducible refine (codec_Int.calls kj7 _ _ y414 0 t420 t421 t422 _ ?side1 ?side2 A30.out).mono ?_); (case side1 => repeat (first | exact (Kd.R_reads' HO416.out).2.2 | (with_reducible refine Kd.C_alloc ?_ _) | (with_reducible refine Kd.C_drewN ?_ _) | (with_reducible refine Kd.C_drew ?_))); (case side2 => exact (Kd.R_reads' HO416.out).2.1); rintro e w34 ⟨rfl, hb⟩; refine ⟨_, rfl, ?_⟩; have n0_ := Aside0.mk (Kd.R_below (by (with_reducible repeat (first | apply Kd.R_alloc | apply Kd.R_drewN | apply Kd.R_drew)); exact HO416.out) hb); have n1_ := Aside0.mk (blk_below (kB_ BK405.out) hb); have n2_ := Aside0.mk (below_step bB_ hb); clear HO416; clear BK405; clear HB; have HO416 := n0_; have BK405 := n1_; have HB := n2_; clear n0_ n1_ n2_; (try clear hb); (try clear hb2); (try clear hk); (try clear hi)))
                    go_ret
                    exact ⟨by first | rfl | (simp [errW_none, errW_some] <;> rfl) | (simp [*, errW_none, errW_some] <;> rfl), bB_⟩
                  · rw [if_neg c29] at H
                    have c29b0 : (a0_0 == 1) = false := beq_eq_false_iff_ne.mpr c29
                    have c29b1 : (a0_0 != 1) = true := bne_iff_ne.mpr c29
                    by_cases c35 : a0_0 = 2
                    · rw [if_pos c35] at H
                      have c35b0 : (a0_0 == 2) = true := beq_iff_eq.mpr c35
                      have c35b1 : (a0_0 != 2) = false := bne_eq_false_iff_eq.mpr c35
                      clear c35
                      replace H := Option.bind_eq_some_iff.mp H
                      obtain ⟨⟨t423, t424, t425⟩, A360, H⟩ := H
                      replace H : (some (t425 == 2)) = some r := H
                      have A36 := Aside0.mk A360
                      clear A360
                      obtain rfl := Option.some.inj H
                      obtain ⟨Ao37, co37, eo37⟩ := Kd.R_slice HO_5.out
                      subst eo37
                      have q38 : (a1 : Int) ≤ ((t411.length : Int) : Int) := of_decide_eq_true (by first | (with_reducible assumption) | assumption)
                      obtain ⟨i038, hi038, _, hsz38, _⟩ := info_parts info5
                      have hcut38 := cut_to (P := Try.prog) 22 5 .i64 Try.underlying22 hi038 Ao37 t411.length co37 a1 (of_decide_eq_true (by first | (with_reducible assumption) | assumption)) q38 (Kd.R_reads' HO_5.out).2.1
                      have hr38 := Kd.R_take (m := (a1 : Int).toNat) HO_5.out (by omega)
                      have hy38 : y414.length = (a1 : Int).toNat := (by rw [Ny414.out, List.length_take]; omega)
                      rw [← Ny414.out] at hr38
                      rw [← hy38] at hr38 hcut38
                      clear hy38 hi038 hsz38 HO_5
                      have HO416 := Aside0.mk hr38
                      clear hr38
                      replace q38 := eq_true q38
                      obtain ⟨hcz39_0, hcz39_1, hcz39_2, hcz39_3, hcz39_4, hfz39_0, hfz39_1, hfz39_2, hfz39_3, hfz39_4⟩ := cz5 BK405.out
                      go_wp2_with (first | ((with_reducible refine gate_callee (f := 17) rfl ?_); refine goesL_ (some 57) rfl rfl Try.func17 (by kernel_rfl) rfl #[.slice Ao37 y414.length co37, .int .i64 0, .int .i64 (a0_3.size : Int)] rfl mB_ ?_; (with_reducible refine (codec_Text.calls kj7 _ _ y414 0 (a0_3.size : Int) t423 t424 t425 _ ?side1 ?side2 A36.out).mono ?_); (case side1 => repeat (first | exact (Kd.R_reads' HO416.out).2.2 | (with_reducible refine Kd.C_alloc ?_ _) | (with_reducible refine Kd.C_drewN ?_ _) | (with_reducible refine Kd.C_drew ?_))); (case side2 => exact (Kd.R_reads' HO416.out).2.1); rintro e w40 ⟨rfl, hb⟩; refine ⟨_, rfl, ?_⟩; have n0_ := Aside0.mk (Kd.R_below (by (with_reducible repeat (first | apply Kd.R_alloc | apply Kd.R_drewN | apply Kd.R_drew)); exact HO416.out) hb); have n1_ := Aside0.mk (blk_below (kB_ BK405.out) hb); have n2_ := Aside0.mk (below_step bB_ hb); clear HO416; clear BK405; clear HB; have HO416 := n0_; have BK405 := n1_; have HB := n2_; clear n0_ n1_ n2_; (try clear hb); (try clear hb2); (try clear hk); (try clear hi)))
                      go_ret
                      exact ⟨by first | rfl | (simp [errW_none, errW_some] <;> rfl) | (simp [*, errW_none, errW_some] <;> rfl), bB_⟩
                    · rw [if_neg c35] at H
                      have c35b0 : (a0_0 == 2) = false := beq_eq_false_iff_ne.mpr c35
                      have c35b1 : (a0_0 != 2) = true := bne_iff_ne.mpr c35
                      replace H := Option.bind_eq_some_iff.mp H
                      obtain ⟨⟨t426, t427, t428⟩, A410, H⟩ := H
                      replace H : (some (t428 == 2)) = some r := H
                      have A41 := Aside0.mk A410
                      clear A410
                      obtain rfl := Option.some.inj H
                      obtain ⟨Ao42, co42, eo42⟩ := Kd.R_slice HO_5.out
                      subst eo42
                      have q43 : (a1 : Int) ≤ ((t411.length : Int) : Int) := of_decide_eq_true (by first | (with_reducible assumption) | assumption)
                      obtain ⟨i043, hi043, _, hsz43, _⟩ := info_parts info5
                      have hcut43 := cut_to (P := Try.prog) 22 5 .i64 Try.underlying22 hi043 Ao42 t411.length co42 a1 (of_decide_eq_true (by first | (with_reducible assumption) | assumption)) q43 (Kd.R_reads' HO_5.out).2.1
                      have hr43 := Kd.R_take (m := (a1 : Int).toNat) HO_5.out (by omega)
                      have hy43 : y414.length = (a1 : Int).toNat := (by rw [Ny414.out, List.length_take]; omega)
                      rw [← Ny414.out] at hr43
                      rw [← hy43] at hr43 hcut43
                      clear hy43 hi043 hsz43 HO_5
                      have HO416 := Aside0.mk hr43
                      clear hr43
                      replace q43 := eq_true q43
                      obtain ⟨hcz44_0, hcz44_1, hcz44_2, hcz44_3, hcz44_4, hfz44_0, hfz44_1, hfz44_2, hfz44_3, hfz44_4⟩ := cz5 BK405.out
                      go_wp2_with (first | ((with_reducible refine gate_callee (f := 19) rfl ?_); refine goesL_ (some 30) rfl rfl Try.func19 (by kernel_rfl) rfl #[.slice Ao42 y414.length co42, .int .i64 0] rfl mB_ ?_; (with_reducible refine (codec_Bool.calls kj7 _ _ y414 0 t426 t427 t428 _ ?side1 ?side2 A41.out).mono ?_); (case side1 => repeat (first | exact (Kd.R_reads' HO416.out).2.2 | (with_reducible refine Kd.C_alloc ?_ _) | (with_reducible refine Kd.C_drewN ?_ _) | (with_reducible refine Kd.C_drew ?_))); (case side2 => exact (Kd.R_reads' HO416.out).2.1); rintro e w45 ⟨rfl, hb⟩; refine ⟨_, rfl, ?_⟩; have n0_ := Aside0.mk (Kd.R_below (by (with_reducible repeat (first | apply Kd.R_alloc | apply Kd.R_drewN | apply Kd.R_drew)); exact HO416.out) hb); have n1_ := Aside0.mk (blk_below (kB_ BK405.out) hb); have n2_ := Aside0.mk (below_step bB_ hb); clear HO416; clear BK405; clear HB; have HO416 := n0_; have BK405 := n1_; have HB := n2_; clear n0_ n1_ n2_; (try clear hb); (try clear hb2); (try clear hk); (try clear hi)))
                      go_ret
                      exact ⟨by first | rfl | (simp [errW_none, errW_some] <;> rfl) | (simp [*, errW_none, errW_some] <;> rfl), bB_⟩
              · rw [if_neg c22] at H
                exact absurd H (by simp)
            · rw [if_neg c21] at H
              exact absurd H (by simp)
    · replace c6 := Bool.eq_false_iff.mpr c6
      subst c6
      have H1 : (some true) = some r := by rw [if_neg (show ¬ (false = true) by decide)] at H; exact H
      clear H
      have H := H1
      clear H1
      obtain rfl := Option.some.inj H
      go_enter Try.func8, Try.ntmps8
      go_wp2_with (first | ((with_reducible refine gate_dst (N := 2) rfl ?_); (try (refine gate_guard (by rfl) ?_; dsimp only)); refine box_event ?hg (N := 2) ?hd (cs := #[.int .i64 a0_0, .int .u64 a0_1, .int .i64 a0_2, .string a0_3, .bool a0_4]) (t := 29) ?hr ?_; (case hd => rfl); (case hg => rfl); (case hr => first | (go_simp; done) | (go_simp; rfl)); intro gb405 hg w46 hbox hb; have n0_ := Aside0.mk (below_step bB_ hb); have n1_ := Aside0.mk (hbox); have n2_ := Aside0.mk (gB_ hg (below_size bB_)); have n3_ := Aside0.mk (gB_ hg (below_size bB_)); clear HB; have HB := n0_; have BK405 := n1_; have GW405 := n2_; have GE405 := n3_; clear n0_ n1_ n2_ n3_; clear hb hbox hg) | ((with_reducible refine gate_callee (f := 9) rfl ?_); refine goesL_ (some 7) rfl rfl Try.func9 (by kernel_rfl) rfl #[] rfl mB_ ?_; (with_reducible refine (tapearchivelaw02_lives.calls k  true _ A3.out).mono ?_); rintro e w47 ⟨rfl, hb⟩; refine ⟨_, rfl, ?_⟩; have n0_ := Aside0.mk (blk_below (kB_ BK405.out) hb); have n1_ := Aside0.mk (below_step bB_ hb); clear BK405; clear HB; have BK405 := n0_; have HB := n1_; clear n0_ n1_; (try clear hb); (try clear hb2); (try clear hk); (try clear hi); obtain ⟨hcz48_0, hcz48_1, hcz48_2, hcz48_3, hcz48_4, hfz48_0, hfz48_1, hfz48_2, hfz48_3, hfz48_4⟩ := cz5 BK405.out) | ((with_reducible refine gate_dst (N := 10) rfl ?_); (try (refine gate_guard (by rfl) ?_; dsimp only)); refine Kd.R_lit k29 _ 29 ?hg (N := 10) ?hd (xs := ([(⟨a0_0, a0_1, a0_2, a0_3, a0_4⟩ : S29)] : List (S29))) (inner := [.int .i64 a0_0, .int .u64 a0_1, .int .i64 a0_2, .string a0_3, .bool a0_4]) (ok := fun _ => True) (okp := fun _ => True) ?hr ?hp (fun _ hk => hk) trivial (Below.refl _ _) (Nat.le_refl _) (by simp) ?_; (case hd => rfl); (case hg => rfl); (case hr => first | (go_simp; done) | (go_simp; rfl)); (case hp => exact (Reps.c5 (show Kd.M k29 _ _ _ (⟨a0_0, a0_1, a0_2, a0_3, a0_4⟩ : S29) [.int .i64 a0_0, .int .u64 a0_1, .int .i64 a0_2, .string a0_3, .bool a0_4] from (k29_mkM _ _ _ (⟨a0_0, a0_1, a0_2, a0_3, a0_4⟩ : S29) )) (Reps.none _ _))); intro v408 w49 ho50 hb hg_ hnew_; clear hg_ hnew_; (first | rw [← Ny407.out] at ho50 | (simp only [Int.reduceToNat] at ho50; rw [← Ny407.out] at ho50)); have n0_ := Aside0.mk (Kd.R_lower (Kd.R_newB ho50 (g := gb405) (o := .cells #[.int .i64 a0_0, .int .u64 a0_1, .int .i64 a0_2, .string a0_3, .bool a0_4] 29 (0, 0)) (kB_ BK405.out)) (below_size bB_)); have n1_ := Aside0.mk (blk_below (kB_ BK405.out) hb); have n2_ := Aside0.mk (below_step bB_ hb); clear BK405; clear HB; have HO409 := n0_; have BK405 := n1_; have HB := n2_; clear n0_ n1_ n2_; clear hb ho50; obtain ⟨Ao51, co51, eo51⟩ := Kd.R_slice HO409.out; subst eo51) | ((with_reducible refine gate_callee (f := 10) rfl ?_); refine goesL_ (some 11) rfl rfl Try.func10 (by kernel_rfl) rfl #[.slice Ao51 y407.length co51] rfl mB_ ?_; (with_reducible refine (tapearchivelaw02_small.calls k _ _ y407 false _ ?side1 ?side2 A5.out).mono ?_); (case side1 => repeat (first | exact (Kd.R_reads' HO409.out).2.2 | (with_reducible refine Kd.C_alloc ?_ _) | (with_reducible refine Kd.C_drewN ?_ _) | (with_reducible refine Kd.C_drew ?_))); (case side2 => exact (Kd.R_reads' HO409.out).2.1); rintro e w52 ⟨rfl, hb⟩; refine ⟨_, rfl, ?_⟩; have n0_ := Aside0.mk (Kd.R_below (by (with_reducible repeat (first | apply Kd.R_alloc | apply Kd.R_drewN | apply Kd.R_drew)); exact HO409.out) hb); have n1_ := Aside0.mk (blk_below (kB_ BK405.out) hb); have n2_ := Aside0.mk (below_step bB_ hb); clear HO409; clear BK405; clear HB; have HO409 := n0_; have BK405 := n1_; have HB := n2_; clear n0_ n1_ n2_; (try clear hb); (try clear hb2); (try clear hk); (try clear hi)))
      go_ret
      exact ⟨by first | rfl | (simp [errW_none, errW_some] <;> rfl) | (simp [*, errW_none, errW_some] <;> rfl), bB_⟩
  · replace c4 := Bool.eq_false_iff.mpr c4
    subst c4
    have H1 : (some false) = some r := by rw [if_neg (show ¬ (false = true) by decide)] at H; exact H
    clear H
    have H := H1
    clear H1
    obtain rfl := Option.some.inj H
    go_enter Try.func8, Try.ntmps8
    go_wp2_with (first | ((with_reducible refine gate_dst (N := 2) rfl ?_); (try (refine gate_guard (by rfl) ?_; dsimp only)); refine box_event ?hg (N := 2) ?hd (cs := #[.int .i64 a0_0, .int .u64 a0_1, .int .i64 a0_2, .string a0_3, .bool a0_4]) (t := 29) ?hr ?_; (case hd => rfl); (case hg => rfl); (case hr => first | (go_simp; done) | (go_simp; rfl)); intro gb405 hg w53 hbox hb; have n0_ := Aside0.mk (below_step bB_ hb); have n1_ := Aside0.mk (hbox); have n2_ := Aside0.mk (gB_ hg (below_size bB_)); have n3_ := Aside0.mk (gB_ hg (below_size bB_)); clear HB; have HB := n0_; have BK405 := n1_; have GW405 := n2_; have GE405 := n3_; clear n0_ n1_ n2_ n3_; clear hb hbox hg) | ((with_reducible refine gate_callee (f := 9) rfl ?_); refine goesL_ (some 7) rfl rfl Try.func9 (by kernel_rfl) rfl #[] rfl mB_ ?_; (with_reducible refine (tapearchivelaw02_lives.calls k  false _ A3.out).mono ?_); rintro e w54 ⟨rfl, hb⟩; refine ⟨_, rfl, ?_⟩; have n0_ := Aside0.mk (blk_below (kB_ BK405.out) hb); have n1_ := Aside0.mk (below_step bB_ hb); clear BK405; clear HB; have BK405 := n0_; have HB := n1_; clear n0_ n1_; (try clear hb); (try clear hb2); (try clear hk); (try clear hi)))
    go_ret
    exact ⟨by first | rfl | (simp [errW_none, errW_some] <;> rfl) | (simp [*, errW_none, errW_some] <;> rfl), bB_⟩

end Go.Proofs.Ytdgolbknbohoeaa.P
