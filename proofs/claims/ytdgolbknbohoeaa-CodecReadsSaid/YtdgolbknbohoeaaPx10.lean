-- Written by a program of this session (wip/gen/myprint.py): plain functions of the Go code, and the proofs of the walks.
import Derived.Test.YtdgolbknbohoeaaPx0
import Derived.Test.YtdgolbknbohoeaaPx1
import Derived.Test.YtdgolbknbohoeaaPx3
import Derived.Test.YtdgolbknbohoeaaPx8
import Derived.Test.YtdgolbknbohoeaaPx9
namespace Go.Proofs.Ytdgolbknbohoeaa.P
open Go.RowKit Go.Proofs.YtdgolbknbohoeaaW.PrintWords Go.Proofs.YtdgolbknbohoeaaW.PrintLast Go.Proofs.YtdgolbknbohoeaaW.PrintMore
open Go.Proofs.YtdgolbknbohoeaaW.Mine
attribute [local go_sem] isSome_setCell Go.Instr.field Go.asAgg
attribute [local go_sem] max2_int min2_int max_two min_two max_three min_three max_four min_four   -- for this text's walks alone
set_option linter.unusedVariables false
set_option linter.unusedSimpArgs false

/-! ### tapearchivelaw02_CodecReads: function 4 -/
mutual
def tapearchivelaw02_CodecReads.j0 : Nat → List Int → Int → Int → Bool → Option (Bool)
  | 0, _, _, _, _ => none
  | k + 1, x0, x1, x2, x50 => if x50 = true then (some false) else ((codec_Int.f k x0 x1).bind fun bt300 => ((tapearchiveref02_Int.f k x0 x1).bind fun bt303 => (if bt300.1 = bt303.1 then (if bt300.2.1 = bt303.2.1 then (tapearchivelaw02_CodecReads.j1 k x0 x1 x2 (bt300.2.2 != bt303.2.2)) else (tapearchivelaw02_CodecReads.j1 k x0 x1 x2 true)) else (tapearchivelaw02_CodecReads.j1 k x0 x1 x2 true))))
def tapearchivelaw02_CodecReads.j1 : Nat → List Int → Int → Int → Bool → Option (Bool)
  | 0, _, _, _, _ => none
  | k + 1, x0, x1, x2, x77 => if x77 = true then (some false) else ((codec_Text.f k x0 x1 x2).bind fun bt306 => ((tapearchiveref02_Text.f k x0 x1 x2).bind fun bt309 => (if bt306.1.toList = bt309.1.toList then (if bt306.2.1 = bt309.2.1 then (tapearchivelaw02_CodecReads.j2 k x0 x1 (bt306.2.2 != bt309.2.2)) else (tapearchivelaw02_CodecReads.j2 k x0 x1 true)) else (tapearchivelaw02_CodecReads.j2 k x0 x1 true))))
def tapearchivelaw02_CodecReads.j2 : Nat → List Int → Int → Bool → Option (Bool)
  | 0, _, _, _ => none
  | k + 1, x0, x1, x106 => if x106 = true then (some false) else ((codec_Bool.f k x0 x1).bind fun bt312 => ((tapearchiveref02_Bool.f k x0 x1).bind fun bt315 => (if (bt312.1 == bt315.1) = true then (if bt312.2.1 = bt315.2.1 then (some (bt312.2.2 == bt315.2.2)) else (some false)) else (some false))))
end
def tapearchivelaw02_CodecReads.f (k : Nat) (l0 : List Int) (a1 : Int) (a2 : Int) : Option (Bool) := (tapearchivelaw02_lives.f k).bind fun t293 => (if t293 = true then (if (l0.length : Int) > 4096 then (some true) else ((codec_Uint.f k l0 a1).bind fun bt294 => ((tapearchiveref02_Uint.f k l0 a1).bind fun bt297 => (if bt294.1 = bt297.1 then (if bt294.2.1 = bt297.2.1 then (tapearchivelaw02_CodecReads.j0 k l0 a1 a2 (bt294.2.2 != bt297.2.2)) else (tapearchivelaw02_CodecReads.j0 k l0 a1 a2 true)) else (tapearchivelaw02_CodecReads.j0 k l0 a1 a2 true))))) else (some false))
theorem tapearchivelaw02_CodecReads.mono_l : ∀ k, (∀ y0 y1 y2 y3, LeO (tapearchivelaw02_CodecReads.j0 k y0 y1 y2 y3) (tapearchivelaw02_CodecReads.j0 (k + 1) y0 y1 y2 y3)) ∧ (∀ y0 y1 y2 y3, LeO (tapearchivelaw02_CodecReads.j1 k y0 y1 y2 y3) (tapearchivelaw02_CodecReads.j1 (k + 1) y0 y1 y2 y3)) ∧ (∀ y0 y1 y2, LeO (tapearchivelaw02_CodecReads.j2 k y0 y1 y2) (tapearchivelaw02_CodecReads.j2 (k + 1) y0 y1 y2))
  | 0 => ⟨fun _ _ _ _ r h => by simp [tapearchivelaw02_CodecReads.j0] at h, fun _ _ _ _ r h => by simp [tapearchivelaw02_CodecReads.j1] at h, fun _ _ _ r h => by simp [tapearchivelaw02_CodecReads.j2] at h⟩
  | k + 1 => by
    obtain ⟨ih0, ih1, ih2⟩ := tapearchivelaw02_CodecReads.mono_l k
    refine ⟨?_, ?_, ?_⟩
    · intro y0 y1 y2 y3
      unfold tapearchivelaw02_CodecReads.j0
      repeat' first
      | (with_reducible exact ih0 _ _ _ _)
      | (with_reducible exact ih1 _ _ _ _)
      | (with_reducible exact ih2 _ _ _)
      | (with_reducible exact codec_Bool.mono _ _ _)
      | (with_reducible exact codec_Int.mono _ _ _)
      | (with_reducible exact codec_Text.mono _ _ _ _)
      | (with_reducible exact codec_Uint.mono _ _ _)
      | (with_reducible exact tapearchivelaw02_lives.mono _)
      | (with_reducible exact tapearchiveref02_Bool.mono _ _ _)
      | (with_reducible exact tapearchiveref02_Int.mono _ _ _)
      | (with_reducible exact tapearchiveref02_Text.mono _ _ _ _)
      | (with_reducible exact tapearchiveref02_Uint.mono _ _ _)
      | (with_reducible exact LeO.refl _)
      | (with_reducible exact LeO.none _)
      | (with_reducible refine LeO.ite ?_ ?_)
      | (with_reducible refine LeO.bind ?_ (fun _ => ?_))
      | exact ih0 _ _ _ _
      | exact ih1 _ _ _ _
      | exact ih2 _ _ _
      | exact codec_Bool.mono _ _ _
      | exact codec_Int.mono _ _ _
      | exact codec_Text.mono _ _ _ _
      | exact codec_Uint.mono _ _ _
      | exact tapearchivelaw02_lives.mono _
      | exact tapearchiveref02_Bool.mono _ _ _
      | exact tapearchiveref02_Int.mono _ _ _
      | exact tapearchiveref02_Text.mono _ _ _ _
      | exact tapearchiveref02_Uint.mono _ _ _
      | exact LeO.none _
      | refine LeO.ite ?_ ?_
      | refine LeO.bind ?_ (fun _ => ?_)
    · intro y0 y1 y2 y3
      unfold tapearchivelaw02_CodecReads.j1
      repeat' first
      | (with_reducible exact ih0 _ _ _ _)
      | (with_reducible exact ih1 _ _ _ _)
      | (with_reducible exact ih2 _ _ _)
      | (with_reducible exact codec_Bool.mono _ _ _)
      | (with_reducible exact codec_Int.mono _ _ _)
      | (with_reducible exact codec_Text.mono _ _ _ _)
      | (with_reducible exact codec_Uint.mono _ _ _)
      | (with_reducible exact tapearchivelaw02_lives.mono _)
      | (with_reducible exact tapearchiveref02_Bool.mono _ _ _)
      | (with_reducible exact tapearchiveref02_Int.mono _ _ _)
      | (with_reducible exact tapearchiveref02_Text.mono _ _ _ _)
      | (with_reducible exact tapearchiveref02_Uint.mono _ _ _)
      | (with_reducible exact LeO.refl _)
      | (with_reducible exact LeO.none _)
      | (with_reducible refine LeO.ite ?_ ?_)
      | (with_reducible refine LeO.bind ?_ (fun _ => ?_))
      | exact ih0 _ _ _ _
      | exact ih1 _ _ _ _
      | exact ih2 _ _ _
      | exact codec_Bool.mono _ _ _
      | exact codec_Int.mono _ _ _
      | exact codec_Text.mono _ _ _ _
      | exact codec_Uint.mono _ _ _
      | exact tapearchivelaw02_lives.mono _
      | exact tapearchiveref02_Bool.mono _ _ _
      | exact tapearchiveref02_Int.mono _ _ _
      | exact tapearchiveref02_Text.mono _ _ _ _
      | exact tapearchiveref02_Uint.mono _ _ _
      | exact LeO.none _
      | refine LeO.ite ?_ ?_
      | refine LeO.bind ?_ (fun _ => ?_)
    · intro y0 y1 y2
      unfold tapearchivelaw02_CodecReads.j2
      repeat' first
      | (with_reducible exact ih0 _ _ _ _)
      | (with_reducible exact ih1 _ _ _ _)
      | (with_reducible exact ih2 _ _ _)
      | (with_reducible exact codec_Bool.mono _ _ _)
      | (with_reducible exact codec_Int.mono _ _ _)
      | (with_reducible exact codec_Text.mono _ _ _ _)
      | (with_reducible exact codec_Uint.mono _ _ _)
      | (with_reducible exact tapearchivelaw02_lives.mono _)
      | (with_reducible exact tapearchiveref02_Bool.mono _ _ _)
      | (with_reducible exact tapearchiveref02_Int.mono _ _ _)
      | (with_reducible exact tapearchiveref02_Text.mono _ _ _ _)
      | (with_reducible exact tapearchiveref02_Uint.mono _ _ _)
      | (with_reducible exact LeO.refl _)
      | (with_reducible exact LeO.none _)
      | (with_reducible refine LeO.ite ?_ ?_)
      | (with_reducible refine LeO.bind ?_ (fun _ => ?_))
      | exact ih0 _ _ _ _
      | exact ih1 _ _ _ _
      | exact ih2 _ _ _
      | exact codec_Bool.mono _ _ _
      | exact codec_Int.mono _ _ _
      | exact codec_Text.mono _ _ _ _
      | exact codec_Uint.mono _ _ _
      | exact tapearchivelaw02_lives.mono _
      | exact tapearchiveref02_Bool.mono _ _ _
      | exact tapearchiveref02_Int.mono _ _ _
      | exact tapearchiveref02_Text.mono _ _ _ _
      | exact tapearchiveref02_Uint.mono _ _ _
      | exact LeO.none _
      | refine LeO.ite ?_ ?_
      | refine LeO.bind ?_ (fun _ => ?_)
theorem tapearchivelaw02_CodecReads.mono : ∀ a0 a1 a2 k, LeO (tapearchivelaw02_CodecReads.f k a0 a1 a2) (tapearchivelaw02_CodecReads.f (k + 1) a0 a1 a2) := by
  intro a0 a1 a2 k
  obtain ⟨ih0, ih1, ih2⟩ := tapearchivelaw02_CodecReads.mono_l k
  unfold tapearchivelaw02_CodecReads.f
  repeat' first
      | (with_reducible exact ih0 _ _ _ _)
      | (with_reducible exact ih1 _ _ _ _)
      | (with_reducible exact ih2 _ _ _)
      | (with_reducible exact codec_Bool.mono _ _ _)
      | (with_reducible exact codec_Int.mono _ _ _)
      | (with_reducible exact codec_Text.mono _ _ _ _)
      | (with_reducible exact codec_Uint.mono _ _ _)
      | (with_reducible exact tapearchivelaw02_lives.mono _)
      | (with_reducible exact tapearchiveref02_Bool.mono _ _ _)
      | (with_reducible exact tapearchiveref02_Int.mono _ _ _)
      | (with_reducible exact tapearchiveref02_Text.mono _ _ _ _)
      | (with_reducible exact tapearchiveref02_Uint.mono _ _ _)
      | (with_reducible exact LeO.refl _)
      | (with_reducible exact LeO.none _)
      | (with_reducible refine LeO.ite ?_ ?_)
      | (with_reducible refine LeO.bind ?_ (fun _ => ?_))
      | exact ih0 _ _ _ _
      | exact ih1 _ _ _ _
      | exact ih2 _ _ _
      | exact codec_Bool.mono _ _ _
      | exact codec_Int.mono _ _ _
      | exact codec_Text.mono _ _ _ _
      | exact codec_Uint.mono _ _ _
      | exact tapearchivelaw02_lives.mono _
      | exact tapearchiveref02_Bool.mono _ _ _
      | exact tapearchiveref02_Int.mono _ _ _
      | exact tapearchiveref02_Text.mono _ _ _ _
      | exact tapearchiveref02_Uint.mono _ _ _
      | exact LeO.none _
      | refine LeO.ite ?_ ?_
      | refine LeO.bind ?_ (fun _ => ?_)
set_option maxHeartbeats 8000000 in
set_option maxRecDepth 100000 in
theorem tapearchivelaw02_CodecReads.calls (k : Nat) (A0 : Option Addr) (c0 : Nat) (l0 : List Int) (a1 : Int) (a2 : Int) (r : Bool) (w : World) (hr0 : Kd.C (Kd.int .u8) w A0 l0.length l0) (hc0 : l0.length ≤ c0) (h : tapearchivelaw02_CodecReads.f k l0 a1 a2 = some r) :
    Calls Try.prog 4 #[.slice A0 l0.length c0, .int .i64 a1, .int .i64 a2] w fun e w' => e = .returned (.bool r) ∧ Below w.heap.size w w' := by
  have HR0 := Aside0.mk hr0
  have HC0 := Aside0.mk hc0
  clear hr0 hc0
  have HB := Aside0.mk (Below.refl w.heap.size w)
  have H : ((tapearchivelaw02_lives.f k).bind fun t293 => (if t293 = true then (if (l0.length : Int) > 4096 then (some true) else ((codec_Uint.f k l0 a1).bind fun bt294 => ((tapearchiveref02_Uint.f k l0 a1).bind fun bt297 => (if bt294.1 = bt297.1 then (if bt294.2.1 = bt297.2.1 then (tapearchivelaw02_CodecReads.j0 k l0 a1 a2 (bt294.2.2 != bt297.2.2)) else (tapearchivelaw02_CodecReads.j0 k l0 a1 a2 true)) else (tapearchivelaw02_CodecReads.j0 k l0 a1 a2 true))))) else (some false))) = some r := h
  clear h
  replace H := Option.bind_eq_some_iff.mp H
  obtain ⟨t293, A40, H⟩ := H
  replace H : (if t293 = true then (if (l0.length : Int) > 4096 then (some true) else ((codec_Uint.f k l0 a1).bind fun bt294 => ((tapearchiveref02_Uint.f k l0 a1).bind fun bt297 => (if bt294.1 = bt297.1 then (if bt294.2.1 = bt297.2.1 then (tapearchivelaw02_CodecReads.j0 k l0 a1 a2 (bt294.2.2 != bt297.2.2)) else (tapearchivelaw02_CodecReads.j0 k l0 a1 a2 true)) else (tapearchivelaw02_CodecReads.j0 k l0 a1 a2 true))))) else (some false)) = some r := H
  have A4 := Aside0.mk A40
  clear A40
  by_cases c5 : t293 = true
  · subst c5
    have H1 : (if (l0.length : Int) > 4096 then (some true) else ((codec_Uint.f k l0 a1).bind fun bt294 => ((tapearchiveref02_Uint.f k l0 a1).bind fun bt297 => (if bt294.1 = bt297.1 then (if bt294.2.1 = bt297.2.1 then (tapearchivelaw02_CodecReads.j0 k l0 a1 a2 (bt294.2.2 != bt297.2.2)) else (tapearchivelaw02_CodecReads.j0 k l0 a1 a2 true)) else (tapearchivelaw02_CodecReads.j0 k l0 a1 a2 true))))) = some r := by rw [if_pos rfl] at H; exact H
    clear H
    have H := H1
    clear H1
    by_cases c6 : (l0.length : Int) > 4096
    · rw [if_pos c6] at H
      have c6b0 : decide (4096 < (l0.length : Int)) = true := decide_eq_true c6
      have c6b1 : decide (4096 < l0.length) = true := decide_eq_true (by omega)
      clear c6
      obtain rfl := Option.some.inj H
      go_enter Try.func4, Try.ntmps4
      go_wp2_with (first | ((with_reducible refine gate_callee (f := 9) rfl ?_); refine goesL_ (some 19) rfl rfl Try.func9 (by kernel_rfl) rfl #[] rfl mB_ ?_; (with_reducible refine (tapearchivelaw02_lives.calls k  true _ A4.out).mono ?_); rintro e w7 ⟨rfl, hb⟩; refine ⟨_, rfl, ?_⟩; have n0_ := Aside0.mk (below_step bB_ hb); clear HB; have HB := n0_; clear n0_; (try clear hb); (try clear hb2); (try clear hk); (try clear hi)))
      go_ret
      exact ⟨by first | rfl | (simp [errW_none, errW_some] <;> rfl) | (simp [*, errW_none, errW_some] <;> rfl), bB_⟩
    · rw [if_neg c6] at H
      have c6b0 : decide (4096 < (l0.length : Int)) = false := decide_eq_false c6
      have c6b1 : decide (4096 < l0.length) = false := decide_eq_false (by omega)
      clear c6
      replace H := Option.bind_eq_some_iff.mp H
      obtain ⟨⟨t294, t295, t296⟩, A80, H⟩ := H
      replace H : ((tapearchiveref02_Uint.f k l0 a1).bind fun bt297 => (if t294 = bt297.1 then (if t295 = bt297.2.1 then (tapearchivelaw02_CodecReads.j0 k l0 a1 a2 (t296 != bt297.2.2)) else (tapearchivelaw02_CodecReads.j0 k l0 a1 a2 true)) else (tapearchivelaw02_CodecReads.j0 k l0 a1 a2 true))) = some r := H
      have A8 := Aside0.mk A80
      clear A80
      replace H := Option.bind_eq_some_iff.mp H
      obtain ⟨⟨t297, t298, t299⟩, A90, H⟩ := H
      replace H : (if t294 = t297 then (if t295 = t298 then (tapearchivelaw02_CodecReads.j0 k l0 a1 a2 (t296 != t299)) else (tapearchivelaw02_CodecReads.j0 k l0 a1 a2 true)) else (tapearchivelaw02_CodecReads.j0 k l0 a1 a2 true)) = some r := H
      have A9 := Aside0.mk A90
      clear A90
      have HC10 := Aside0.mk H
      clear H
      go_enter Try.func4, Try.ntmps4
      go_upto_region 7 with (first | ((with_reducible refine gate_callee (f := 9) rfl ?_); refine goesL_ (some 19) rfl rfl Try.func9 (by kernel_rfl) rfl #[] rfl mB_ ?_; (with_reducible refine (tapearchivelaw02_lives.calls k  true _ A4.out).mono ?_); rintro e w11 ⟨rfl, hb⟩; refine ⟨_, rfl, ?_⟩; have n0_ := Aside0.mk (below_step bB_ hb); clear HB; have HB := n0_; clear n0_; (try clear hb); (try clear hb2); (try clear hk); (try clear hi)) | ((with_reducible refine gate_callee (f := 13) rfl ?_); refine goesL_ (some 27) rfl rfl Try.func13 (by kernel_rfl) rfl #[.slice A0 l0.length c0, .int .i64 a1] rfl mB_ ?_; (with_reducible refine (codec_Uint.calls k _ _ l0 a1 t294 t295 t296 _ ?side1 ?side2 A8.out).mono ?_); (case side1 => repeat (first | exact (Kd.C_below HR0.out HB.out) | (with_reducible refine Kd.C_alloc ?_ _) | (with_reducible refine Kd.C_drewN ?_ _) | (with_reducible refine Kd.C_drew ?_))); (case side2 => exact HC0.out); rintro e w12 ⟨rfl, hb⟩; refine ⟨_, rfl, ?_⟩; have n0_ := Aside0.mk (below_step bB_ hb); clear HB; have HB := n0_; clear n0_; (try clear hb); (try clear hb2); (try clear hk); (try clear hi)) | ((with_reducible refine gate_callee (f := 14) rfl ?_); refine goesL_ (some 34) rfl rfl Try.func14 (by kernel_rfl) rfl #[.slice A0 l0.length c0, .int .i64 a1] rfl mB_ ?_; (with_reducible refine (tapearchiveref02_Uint.calls k _ _ l0 a1 t297 t298 t299 _ ?side1 ?side2 A9.out).mono ?_); (case side1 => repeat (first | exact (Kd.C_below HR0.out HB.out) | (with_reducible refine Kd.C_alloc ?_ _) | (with_reducible refine Kd.C_drewN ?_ _) | (with_reducible refine Kd.C_drew ?_))); (case side2 => exact HC0.out); rintro e w13 ⟨rfl, hb⟩; refine ⟨_, rfl, ?_⟩; have n0_ := Aside0.mk (below_step bB_ hb); clear HB; have HB := n0_; clear n0_; (try clear hb); (try clear hb2); (try clear hk); (try clear hi)))
      (try simp only [Act.put, List.setIfInBounds_toArray, List.set_cons_zero, List.set_cons_succ])
      go_cut [50] (fun v50 wc => ∃ (kq : Nat) (x50_9 : Bool), v50 = .bool x50_9 ∧ Aside0 (tapearchivelaw02_CodecReads.j0 kq l0 a1 a2 x50_9 = some r) ∧ Aside0 (kq ≤ k) ∧ Aside0 (Below w.heap.size w wc))
      case first =>
        have H := HC10.out
        clear HC10
        by_cases c14 : t294 = t297
        · rw [if_pos c14] at H
          have c14b0 : (t294 == t297) = true := beq_iff_eq.mpr c14
          have c14b1 : (t294 != t297) = false := bne_eq_false_iff_eq.mpr c14
          clear c14
          (first | rw [c14b0] | (simp only [i64_w, i32_w]; rw [c14b0]) | skip)
          by_cases c15 : t295 = t298
          · rw [if_pos c15] at H
            have c15b0 : (t295 == t298) = true := beq_iff_eq.mpr c15
            have c15b1 : (t295 != t298) = false := bne_eq_false_iff_eq.mpr c15
            clear c15
            have H' := Aside0.mk H
            clear H
            go_wp2
            go_meet
            case rel => exact ⟨_, ((t296 != t299)), (by first | rfl | (simp; done) | (simp [*]; done)), H', ⟨by first | omega | exact Nat.le_refl _⟩, ⟨bB_⟩⟩
          · rw [if_neg c15] at H
            have c15b0 : (t295 == t298) = false := beq_eq_false_iff_ne.mpr c15
            have c15b1 : (t295 != t298) = true := bne_iff_ne.mpr c15
            have H' := Aside0.mk H
            clear H
            go_wp2
            go_meet
            case rel => exact ⟨_, (true), (by first | rfl | (simp; done) | (simp [*]; done)), H', ⟨by first | omega | exact Nat.le_refl _⟩, ⟨bB_⟩⟩
        · rw [if_neg c14] at H
          have c14b0 : (t294 == t297) = false := beq_eq_false_iff_ne.mpr c14
          have c14b1 : (t294 != t297) = true := bne_iff_ne.mpr c14
          (first | rw [c14b0] | (simp only [i64_w, i32_w]; rw [c14b0]) | skip)
          have H' := Aside0.mk H
          clear H
          go_wp2
          go_meet
          case rel => exact ⟨_, (true), (by first | rfl | (simp; done) | (simp [*]; done)), H', ⟨by first | omega | exact Nat.le_refl _⟩, ⟨bB_⟩⟩
      case rest =>
        clear HC10
        try clear c1
        try clear p2
        try clear c4
        try clear c5
        try clear c6
        try clear c6b0
        try clear c6b1
        try clear c9
        try clear c13
        try clear c14
        try clear c14b0
        try clear c14b1
        try clear c15
        try clear c15b0
        try clear c15b1
        obtain ⟨kq, x50_9, rfl, HA, HJ9, HB⟩ := hcut
        cases kq with
        | zero => exact absurd HA.out (by simp [tapearchivelaw02_CodecReads.j0])
        | succ kj9 =>
          have H := HA.out
          clear HA
          simp only [tapearchivelaw02_CodecReads.j0] at H
          by_cases c16 : x50_9 = true
          · subst c16
            have H1 : (some false) = some r := by rw [if_pos rfl] at H; exact H
            clear H
            have H := H1
            clear H1
            obtain rfl := Option.some.inj H
            go_wp2
            go_ret
            exact ⟨by first | rfl | (simp [errW_none, errW_some] <;> rfl) | (simp [*, errW_none, errW_some] <;> rfl), bB_⟩
          · replace c16 := Bool.eq_false_iff.mpr c16
            subst c16
            have H1 : ((codec_Int.f kj9 l0 a1).bind fun bt300 => ((tapearchiveref02_Int.f kj9 l0 a1).bind fun bt303 => (if bt300.1 = bt303.1 then (if bt300.2.1 = bt303.2.1 then (tapearchivelaw02_CodecReads.j1 kj9 l0 a1 a2 (bt300.2.2 != bt303.2.2)) else (tapearchivelaw02_CodecReads.j1 kj9 l0 a1 a2 true)) else (tapearchivelaw02_CodecReads.j1 kj9 l0 a1 a2 true)))) = some r := by rw [if_neg (show ¬ (false = true) by decide)] at H; exact H
            clear H
            have H := H1
            clear H1
            replace H := Option.bind_eq_some_iff.mp H
            obtain ⟨⟨t300, t301, t302⟩, A170, H⟩ := H
            replace H : ((tapearchiveref02_Int.f kj9 l0 a1).bind fun bt303 => (if t300 = bt303.1 then (if t301 = bt303.2.1 then (tapearchivelaw02_CodecReads.j1 kj9 l0 a1 a2 (t302 != bt303.2.2)) else (tapearchivelaw02_CodecReads.j1 kj9 l0 a1 a2 true)) else (tapearchivelaw02_CodecReads.j1 kj9 l0 a1 a2 true))) = some r := H
            have A17 := Aside0.mk A170
            clear A170
            replace H := Option.bind_eq_some_iff.mp H
            obtain ⟨⟨t303, t304, t305⟩, A180, H⟩ := H
            replace H : (if t300 = t303 then (if t301 = t304 then (tapearchivelaw02_CodecReads.j1 kj9 l0 a1 a2 (t302 != t305)) else (tapearchivelaw02_CodecReads.j1 kj9 l0 a1 a2 true)) else (tapearchivelaw02_CodecReads.j1 kj9 l0 a1 a2 true)) = some r := H
            have A18 := Aside0.mk A180
            clear A180
            have HC19 := Aside0.mk H
            clear H
            go_upto_region 11 with (first | ((with_reducible refine gate_callee (f := 15) rfl ?_); refine goesL_ (some 54) rfl rfl Try.func15 (by kernel_rfl) rfl #[.slice A0 l0.length c0, .int .i64 a1] rfl mB_ ?_; (with_reducible refine (codec_Int.calls kj9 _ _ l0 a1 t300 t301 t302 _ ?side1 ?side2 A17.out).mono ?_); (case side1 => repeat (first | exact (Kd.C_below HR0.out HB.out) | (with_reducible refine Kd.C_alloc ?_ _) | (with_reducible refine Kd.C_drewN ?_ _) | (with_reducible refine Kd.C_drew ?_))); (case side2 => exact HC0.out); rintro e w20 ⟨rfl, hb⟩; refine ⟨_, rfl, ?_⟩; have n0_ := Aside0.mk (below_step bB_ hb); clear HB; have HB := n0_; clear n0_; (try clear hb); (try clear hb2); (try clear hk); (try clear hi)) | ((with_reducible refine gate_callee (f := 16) rfl ?_); refine goesL_ (some 61) rfl rfl Try.func16 (by kernel_rfl) rfl #[.slice A0 l0.length c0, .int .i64 a1] rfl mB_ ?_; (with_reducible refine (tapearchiveref02_Int.calls kj9 _ _ l0 a1 t303 t304 t305 _ ?side1 ?side2 A18.out).mono ?_); (case side1 => repeat (first | exact (Kd.C_below HR0.out HB.out) | (with_reducible refine Kd.C_alloc ?_ _) | (with_reducible refine Kd.C_drewN ?_ _) | (with_reducible refine Kd.C_drew ?_))); (case side2 => exact HC0.out); rintro e w21 ⟨rfl, hb⟩; refine ⟨_, rfl, ?_⟩; have n0_ := Aside0.mk (below_step bB_ hb); clear HB; have HB := n0_; clear n0_; (try clear hb); (try clear hb2); (try clear hk); (try clear hi)))
            (try simp only [Act.put, List.setIfInBounds_toArray, List.set_cons_zero, List.set_cons_succ])
            go_cut [77] (fun v77 wc => ∃ (kq : Nat) (x77_18 : Bool), v77 = .bool x77_18 ∧ Aside0 (tapearchivelaw02_CodecReads.j1 kq l0 a1 a2 x77_18 = some r) ∧ Aside0 (kq ≤ kj9) ∧ Aside0 (Below w.heap.size w wc))
            case first =>
              have H := HC19.out
              clear HC19
              by_cases c22 : t300 = t303
              · rw [if_pos c22] at H
                have c22b0 : (t300 == t303) = true := beq_iff_eq.mpr c22
                have c22b1 : (t300 != t303) = false := bne_eq_false_iff_eq.mpr c22
                clear c22
                (first | rw [c22b0] | (simp only [i64_w, i32_w]; rw [c22b0]) | skip)
                by_cases c23 : t301 = t304
                · rw [if_pos c23] at H
                  have c23b0 : (t301 == t304) = true := beq_iff_eq.mpr c23
                  have c23b1 : (t301 != t304) = false := bne_eq_false_iff_eq.mpr c23
                  clear c23
                  have H' := Aside0.mk H
                  clear H
                  go_wp2
                  go_meet
                  case rel => exact ⟨_, ((t302 != t305)), (by first | rfl | (simp; done) | (simp [*]; done)), H', ⟨by have := HJ9.out; first | omega | exact Nat.le_refl _⟩, ⟨bB_⟩⟩
                · rw [if_neg c23] at H
                  have c23b0 : (t301 == t304) = false := beq_eq_false_iff_ne.mpr c23
                  have c23b1 : (t301 != t304) = true := bne_iff_ne.mpr c23
                  have H' := Aside0.mk H
                  clear H
                  go_wp2
                  go_meet
                  case rel => exact ⟨_, (true), (by first | rfl | (simp; done) | (simp [*]; done)), H', ⟨by have := HJ9.out; first | omega | exact Nat.le_refl _⟩, ⟨bB_⟩⟩
              · rw [if_neg c22] at H
                have c22b0 : (t300 == t303) = false := beq_eq_false_iff_ne.mpr c22
                have c22b1 : (t300 != t303) = true := bne_iff_ne.mpr c22
                (first | rw [c22b0] | (simp only [i64_w, i32_w]; rw [c22b0]) | skip)
                have H' := Aside0.mk H
                clear H
                go_wp2
                go_meet
                case rel => exact ⟨_, (true), (by first | rfl | (simp; done) | (simp [*]; done)), H', ⟨by have := HJ9.out; first | omega | exact Nat.le_refl _⟩, ⟨bB_⟩⟩
            case rest =>
              clear HC19
              try clear c1
              try clear c2
              try clear p2
              try clear c4
              try clear c5
              try clear c6
              try clear c6b0
              try clear c6b1
              try clear c9
              try clear c13
              try clear c14
              try clear c14b0
              try clear c14b1
              try clear c15
              try clear c15b0
              try clear c15b1
              try clear c16
              try clear c22
              try clear c22b0
              try clear c22b1
              try clear c23
              try clear c23b0
              try clear c23b1
              try clear p2
              obtain ⟨kq, x77_18, rfl, HA, HJ18, HB⟩ := hcut
              cases kq with
              | zero => exact absurd HA.out (by simp [tapearchivelaw02_CodecReads.j1])
              | succ kj18 =>
                have H := HA.out
                clear HA
                simp only [tapearchivelaw02_CodecReads.j1] at H
                by_cases c24 : x77_18 = true
                · subst c24
                  have H1 : (some false) = some r := by rw [if_pos rfl] at H; exact H
                  clear H
                  have H := H1
                  clear H1
                  obtain rfl := Option.some.inj H
                  go_wp2
                  go_ret
                  exact ⟨by first | rfl | (simp [errW_none, errW_some] <;> rfl) | (simp [*, errW_none, errW_some] <;> rfl), bB_⟩
                · replace c24 := Bool.eq_false_iff.mpr c24
                  subst c24
                  have H1 : ((codec_Text.f kj18 l0 a1 a2).bind fun bt306 => ((tapearchiveref02_Text.f kj18 l0 a1 a2).bind fun bt309 => (if bt306.1.toList = bt309.1.toList then (if bt306.2.1 = bt309.2.1 then (tapearchivelaw02_CodecReads.j2 kj18 l0 a1 (bt306.2.2 != bt309.2.2)) else (tapearchivelaw02_CodecReads.j2 kj18 l0 a1 true)) else (tapearchivelaw02_CodecReads.j2 kj18 l0 a1 true)))) = some r := by rw [if_neg (show ¬ (false = true) by decide)] at H; exact H
                  clear H
                  have H := H1
                  clear H1
                  replace H := Option.bind_eq_some_iff.mp H
                  obtain ⟨⟨t306, t307, t308⟩, A250, H⟩ := H
                  replace H : ((tapearchiveref02_Text.f kj18 l0 a1 a2).bind fun bt309 => (if t306.toList = bt309.1.toList then (if t307 = bt309.2.1 then (tapearchivelaw02_CodecReads.j2 kj18 l0 a1 (t308 != bt309.2.2)) else (tapearchivelaw02_CodecReads.j2 kj18 l0 a1 true)) else (tapearchivelaw02_CodecReads.j2 kj18 l0 a1 true))) = some r := H
                  have A25 := Aside0.mk A250
                  clear A250
                  replace H := Option.bind_eq_some_iff.mp H
                  obtain ⟨⟨t309, t310, t311⟩, A260, H⟩ := H
                  replace H : (if t306.toList = t309.toList then (if t307 = t310 then (tapearchivelaw02_CodecReads.j2 kj18 l0 a1 (t308 != t311)) else (tapearchivelaw02_CodecReads.j2 kj18 l0 a1 true)) else (tapearchivelaw02_CodecReads.j2 kj18 l0 a1 true)) = some r := H
                  have A26 := Aside0.mk A260
                  clear A260
                  have HC27 := Aside0.mk H
                  clear H
                  go_upto_region 15 with (first | ((with_reducible refine gate_callee (f := 17) rfl ?_); refine goesL_ (some 82) rfl rfl Try.func17 (by kernel_rfl) rfl #[.slice A0 l0.length c0, .int .i64 a1, .int .i64 a2] rfl mB_ ?_; (with_reducible refine (codec_Text.calls kj18 _ _ l0 a1 a2 t306 t307 t308 _ ?side1 ?side2 A25.out).mono ?_); (case side1 => repeat (first | exact (Kd.C_below HR0.out HB.out) | (with_reducible refine Kd.C_alloc ?_ _) | (with_reducible refine Kd.C_drewN ?_ _) | (with_reducible refine Kd.C_drew ?_))); (case side2 => exact HC0.out); rintro e w28 ⟨rfl, hb⟩; refine ⟨_, rfl, ?_⟩; have n0_ := Aside0.mk (below_step bB_ hb); clear HB; have HB := n0_; clear n0_; (try clear hb); (try clear hb2); (try clear hk); (try clear hi)) | ((with_reducible refine gate_callee (f := 18) rfl ?_); refine goesL_ (some 90) rfl rfl Try.func18 (by kernel_rfl) rfl #[.slice A0 l0.length c0, .int .i64 a1, .int .i64 a2] rfl mB_ ?_; (with_reducible refine (tapearchiveref02_Text.calls kj18 _ _ l0 a1 a2 t309 t310 t311 _ ?side1 ?side2 A26.out).mono ?_); (case side1 => repeat (first | exact (Kd.C_below HR0.out HB.out) | (with_reducible refine Kd.C_alloc ?_ _) | (with_reducible refine Kd.C_drewN ?_ _) | (with_reducible refine Kd.C_drew ?_))); (case side2 => exact HC0.out); rintro e w29 ⟨rfl, hb⟩; refine ⟨_, rfl, ?_⟩; have n0_ := Aside0.mk (below_step bB_ hb); clear HB; have HB := n0_; clear n0_; (try clear hb); (try clear hb2); (try clear hk); (try clear hi)))
                  (try simp only [Act.put, List.setIfInBounds_toArray, List.set_cons_zero, List.set_cons_succ])
                  go_cut [106] (fun v106 wc => ∃ (kq : Nat) (x106_26 : Bool), v106 = .bool x106_26 ∧ Aside0 (tapearchivelaw02_CodecReads.j2 kq l0 a1 x106_26 = some r) ∧ Aside0 (kq ≤ kj18) ∧ Aside0 (Below w.heap.size w wc))
                  case first =>
                    have H := HC27.out
                    clear HC27
                    by_cases c30 : t306.toList = t309.toList
                    · rw [if_pos c30] at H
                      have c30b0 : (t306.toList == t309.toList) = true := beq_iff_eq.mpr c30
                      have c30b1 : (t306.toList != t309.toList) = false := bne_eq_false_iff_eq.mpr c30
                      clear c30
                      (first | rw [c30b0] | (simp only [i64_w, i32_w]; rw [c30b0]) | skip)
                      by_cases c31 : t307 = t310
                      · rw [if_pos c31] at H
                        have c31b0 : (t307 == t310) = true := beq_iff_eq.mpr c31
                        have c31b1 : (t307 != t310) = false := bne_eq_false_iff_eq.mpr c31
                        clear c31
                        have H' := Aside0.mk H
                        clear H
                        go_wp2
                        go_meet
                        case rel => exact ⟨_, ((t308 != t311)), (by first | rfl | (simp; done) | (simp [*]; done)), H', ⟨by have := HJ9.out; have := HJ18.out; first | omega | exact Nat.le_refl _⟩, ⟨bB_⟩⟩
                      · rw [if_neg c31] at H
                        have c31b0 : (t307 == t310) = false := beq_eq_false_iff_ne.mpr c31
                        have c31b1 : (t307 != t310) = true := bne_iff_ne.mpr c31
                        have H' := Aside0.mk H
                        clear H
                        go_wp2
                        go_meet
                        case rel => exact ⟨_, (true), (by first | rfl | (simp; done) | (simp [*]; done)), H', ⟨by have := HJ9.out; have := HJ18.out; first | omega | exact Nat.le_refl _⟩, ⟨bB_⟩⟩
                    · rw [if_neg c30] at H
                      have c30b0 : (t306.toList == t309.toList) = false := beq_eq_false_iff_ne.mpr c30
                      have c30b1 : (t306.toList != t309.toList) = true := bne_iff_ne.mpr c30
                      (first | rw [c30b0] | (simp only [i64_w, i32_w]; rw [c30b0]) | skip)
                      have H' := Aside0.mk H
                      clear H
                      go_wp2
                      go_meet
                      case rel => exact ⟨_, (true), (by first | rfl | (simp; done) | (simp [*]; done)), H', ⟨by have := HJ9.out; have := HJ18.out; first | omega | exact Nat.le_refl _⟩, ⟨bB_⟩⟩
                  case rest =>
                    clear HC27
                    try clear c1
                    try clear c2
                    try clear p2
                    try clear c3
                    try clear c4
                    try clear c5
                    try clear c6
                    try clear c6b0
                    try clear c6b1
                    try clear c9
                    try clear c13
                    try clear c14
                    try clear c14b0
                    try clear c14b1
                    try clear c15
                    try clear c15b0
                    try clear c15b1
                    try clear c16
                    try clear c17
                    try clear c18
                    try clear c22
                    try clear c22b0
                    try clear c22b1
                    try clear c23
                    try clear c23b0
                    try clear c23b1
                    try clear c24
                    try clear c30
                    try clear c30b0
                    try clear c30b1
                    try clear c31
                    try clear c31b0
                    try clear c31b1
                    try clear p2
                    obtain ⟨kq, x106_26, rfl, HA, HJ26, HB⟩ := hcut
                    cases kq with
                    | zero => exact absurd HA.out (by simp [tapearchivelaw02_CodecReads.j2])
                    | succ kj26 =>
                      have H := HA.out
                      clear HA
                      simp only [tapearchivelaw02_CodecReads.j2] at H
                      by_cases c32 : x106_26 = true
                      · subst c32
                        have H1 : (some false) = some r := by rw [if_pos rfl] at H; exact H
                        clear H
                        have H := H1
                        clear H1
                        obtain rfl := Option.some.inj H
                        go_wp2
                        go_ret
                        exact ⟨by first | rfl | (simp [errW_none, errW_some] <;> rfl) | (simp [*, errW_none, errW_some] <;> rfl), bB_⟩
                      · replace c32 := Bool.eq_false_iff.mpr c32
                        subst c32
                        have H1 : ((codec_Bool.f kj26 l0 a1).bind fun bt312 => ((tapearchiveref02_Bool.f kj26 l0 a1).bind fun bt315 => (if (bt312.1 == bt315.1) = true then (if bt312.2.1 = bt315.2.1 then (some (bt312.2.2 == bt315.2.2)) else (some false)) else (some false)))) = some r := by rw [if_neg (show ¬ (false = true) by decide)] at H; exact H
                        clear H
                        have H := H1
                        clear H1
                        replace H := Option.bind_eq_some_iff.mp H
                        obtain ⟨⟨t312, t313, t314⟩, A330, H⟩ := H
                        replace H : ((tapearchiveref02_Bool.f kj26 l0 a1).bind fun bt315 => (if (t312 == bt315.1) = true then (if t313 = bt315.2.1 then (some (t314 == bt315.2.2)) else (some false)) else (some false))) = some r := H
                        have A33 := Aside0.mk A330
                        clear A330
                        replace H := Option.bind_eq_some_iff.mp H
                        obtain ⟨⟨t315, t316, t317⟩, A340, H⟩ := H
                        replace H : (if (t312 == t315) = true then (if t313 = t316 then (some (t314 == t317)) else (some false)) else (some false)) = some r := H
                        have A34 := Aside0.mk A340
                        clear A340
                        by_cases c35 : (t312 == t315) = true
                        · rw [if_pos c35] at H
                          have c35b0 : (t312 == t315) = true := c35
                          (try (have c35b1 : decide (t312 = t315) = true := by simpa using c35))
                          (try (have c35b2 : (t312 == t315) = true := by simpa using c35))
                          clear c35
                          by_cases c36 : t313 = t316
                          · rw [if_pos c36] at H
                            have c36b0 : (t313 == t316) = true := beq_iff_eq.mpr c36
                            have c36b1 : (t313 != t316) = false := bne_eq_false_iff_eq.mpr c36
                            clear c36
                            obtain rfl := Option.some.inj H
                            go_wp2_with (first | ((with_reducible refine gate_callee (f := 19) rfl ?_); refine goesL_ (some 110) rfl rfl Try.func19 (by kernel_rfl) rfl #[.slice A0 l0.length c0, .int .i64 a1] rfl mB_ ?_; (with_reducible refine (codec_Bool.calls kj26 _ _ l0 a1 t312 t313 t314 _ ?side1 ?side2 A33.out).mono ?_); (case side1 => repeat (first | exact (Kd.C_below HR0.out HB.out) | (with_reducible refine Kd.C_alloc ?_ _) | (with_reducible refine Kd.C_drewN ?_ _) | (with_reducible refine Kd.C_drew ?_))); (case side2 => exact HC0.out); rintro e w37 ⟨rfl, hb⟩; refine ⟨_, rfl, ?_⟩; have n0_ := Aside0.mk (below_step bB_ hb); clear HB; have HB := n0_; clear n0_; (try clear hb); (try clear hb2); (try clear hk); (try clear hi)) | ((with_reducible refine gate_callee (f := 20) rfl ?_); refine goesL_ (some 117) rfl rfl Try.func20 (by kernel_rfl) rfl #[.slice A0 l0.length c0, .int .i64 a1] rfl mB_ ?_; (with_reducible refine (tapearchiveref02_Bool.calls kj26 _ _ l0 a1 t315 t316 t317 _ ?side1 ?side2 A34.out).mono ?_); (case side1 => repeat (first | exact (Kd.C_below HR0.out HB.out) | (with_reducible refine Kd.C_alloc ?_ _) | (with_reducible refine Kd.C_drewN ?_ _) | (with_reducible refine Kd.C_drew ?_))); (case side2 => exact HC0.out); rintro e w38 ⟨rfl, hb⟩; refine ⟨_, rfl, ?_⟩; have n0_ := Aside0.mk (below_step bB_ hb); clear HB; have HB := n0_; clear n0_; (try clear hb); (try clear hb2); (try clear hk); (try clear hi)))
                            go_ret
                            exact ⟨by first | rfl | (simp [errW_none, errW_some] <;> rfl) | (simp [*, errW_none, errW_some] <;> rfl), bB_⟩
                          · rw [if_neg c36] at H
                            have c36b0 : (t313 == t316) = false := beq_eq_false_iff_ne.mpr c36
                            have c36b1 : (t313 != t316) = true := bne_iff_ne.mpr c36
                            obtain rfl := Option.some.inj H
                            go_wp2_with (first | ((with_reducible refine gate_callee (f := 19) rfl ?_); refine goesL_ (some 110) rfl rfl Try.func19 (by kernel_rfl) rfl #[.slice A0 l0.length c0, .int .i64 a1] rfl mB_ ?_; (with_reducible refine (codec_Bool.calls kj26 _ _ l0 a1 t312 t313 t314 _ ?side1 ?side2 A33.out).mono ?_); (case side1 => repeat (first | exact (Kd.C_below HR0.out HB.out) | (with_reducible refine Kd.C_alloc ?_ _) | (with_reducible refine Kd.C_drewN ?_ _) | (with_reducible refine Kd.C_drew ?_))); (case side2 => exact HC0.out); rintro e w39 ⟨rfl, hb⟩; refine ⟨_, rfl, ?_⟩; have n0_ := Aside0.mk (below_step bB_ hb); clear HB; have HB := n0_; clear n0_; (try clear hb); (try clear hb2); (try clear hk); (try clear hi)) | ((with_reducible refine gate_callee (f := 20) rfl ?_); refine goesL_ (some 117) rfl rfl Try.func20 (by kernel_rfl) rfl #[.slice A0 l0.length c0, .int .i64 a1] rfl mB_ ?_; (with_reducible refine (tapearchiveref02_Bool.calls kj26 _ _ l0 a1 t315 t316 t317 _ ?side1 ?side2 A34.out).mono ?_); (case side1 => repeat (first | exact (Kd.C_below HR0.out HB.out) | (with_reducible refine Kd.C_alloc ?_ _) | (with_reducible refine Kd.C_drewN ?_ _) | (with_reducible refine Kd.C_drew ?_))); (case side2 => exact HC0.out); rintro e w40 ⟨rfl, hb⟩; refine ⟨_, rfl, ?_⟩; have n0_ := Aside0.mk (below_step bB_ hb); clear HB; have HB := n0_; clear n0_; (try clear hb); (try clear hb2); (try clear hk); (try clear hi)))
                            go_ret
                            exact ⟨by first | rfl | (simp [errW_none, errW_some] <;> rfl) | (simp [*, errW_none, errW_some] <;> rfl), bB_⟩
                        · rw [if_neg c35] at H
                          have c35b0 : (t312 == t315) = false := by simpa using c35
                          (try (have c35b1 : decide (t312 = t315) = false := by simpa using c35))
                          (try (have c35b2 : (t312 == t315) = false := by simpa using c35))
                          (try (have c35b3 : ¬ (t312 = t315) := by simpa using c35))
                          clear c35
                          obtain rfl := Option.some.inj H
                          go_wp2_with (first | ((with_reducible refine gate_callee (f := 19) rfl ?_); refine goesL_ (some 110) rfl rfl Try.func19 (by kernel_rfl) rfl #[.slice A0 l0.length c0, .int .i64 a1] rfl mB_ ?_; (with_reducible refine (codec_Bool.calls kj26 _ _ l0 a1 t312 t313 t314 _ ?side1 ?side2 A33.out).mono ?_); (case side1 => repeat (first | exact (Kd.C_below HR0.out HB.out) | (with_reducible refine Kd.C_alloc ?_ _) | (with_reducible refine Kd.C_drewN ?_ _) | (with_reducible refine Kd.C_drew ?_))); (case side2 => exact HC0.out); rintro e w41 ⟨rfl, hb⟩; refine ⟨_, rfl, ?_⟩; have n0_ := Aside0.mk (below_step bB_ hb); clear HB; have HB := n0_; clear n0_; (try clear hb); (try clear hb2); (try clear hk); (try clear hi)) | ((with_reducible refine gate_callee (f := 20) rfl ?_); refine goesL_ (some 117) rfl rfl Try.func20 (by kernel_rfl) rfl #[.slice A0 l0.length c0, .int .i64 a1] rfl mB_ ?_; (with_reducible refine (tapearchiveref02_Bool.calls kj26 _ _ l0 a1 t315 t316 t317 _ ?side1 ?side2 A34.out).mono ?_); (case side1 => repeat (first | exact (Kd.C_below HR0.out HB.out) | (with_reducible refine Kd.C_alloc ?_ _) | (with_reducible refine Kd.C_drewN ?_ _) | (with_reducible refine Kd.C_drew ?_))); (case side2 => exact HC0.out); rintro e w42 ⟨rfl, hb⟩; refine ⟨_, rfl, ?_⟩; have n0_ := Aside0.mk (below_step bB_ hb); clear HB; have HB := n0_; clear n0_; (try clear hb); (try clear hb2); (try clear hk); (try clear hi)))
                          go_ret
                          exact ⟨by first | rfl | (simp [errW_none, errW_some] <;> rfl) | (simp [*, errW_none, errW_some] <;> rfl), bB_⟩
  · replace c5 := Bool.eq_false_iff.mpr c5
    subst c5
    have H1 : (some false) = some r := by rw [if_neg (show ¬ (false = true) by decide)] at H; exact H
    clear H
    have H := H1
    clear H1
    obtain rfl := Option.some.inj H
    go_enter Try.func4, Try.ntmps4
    go_wp2_with (first | ((with_reducible refine gate_callee (f := 9) rfl ?_); refine goesL_ (some 19) rfl rfl Try.func9 (by kernel_rfl) rfl #[] rfl mB_ ?_; (with_reducible refine (tapearchivelaw02_lives.calls k  false _ A4.out).mono ?_); rintro e w43 ⟨rfl, hb⟩; refine ⟨_, rfl, ?_⟩; have n0_ := Aside0.mk (below_step bB_ hb); clear HB; have HB := n0_; clear n0_; (try clear hb); (try clear hb2); (try clear hk); (try clear hi)))
    go_ret
    exact ⟨by first | rfl | (simp [errW_none, errW_some] <;> rfl) | (simp [*, errW_none, errW_some] <;> rfl), bB_⟩

-- NOT PRINTED: function 5 (tapearchivelaw02_CodecKeeps)

end Go.Proofs.Ytdgolbknbohoeaa.P
