-- Written by a program of this session (wip/gen/myprint.py): plain functions of the Go code, and the proofs of the walks.
import Derived.Test.YtdgolbknbohoeaaPx0
namespace Go.Proofs.Ytdgolbknbohoeaa.P
open Go.RowKit Go.Proofs.YtdgolbknbohoeaaW.PrintWords Go.Proofs.YtdgolbknbohoeaaW.PrintLast Go.Proofs.YtdgolbknbohoeaaW.PrintMore
open Go.Proofs.YtdgolbknbohoeaaW.Mine
attribute [local go_sem] isSome_setCell Go.Instr.field Go.asAgg
attribute [local go_sem] max2_int min2_int max_two min_two max_three min_three max_four min_four   -- for this text's walks alone
set_option linter.unusedVariables false
set_option linter.unusedSimpArgs false

/-! ### codec_Uint: function 13 -/
mutual
def codec_Uint.j0 : Nat → List Int → Int → Bool → Option (Int × Int × Int)
  | 0, _, _, _ => none
  | k + 1, x0, x1, x18 => if x18 = true then (some (0, 0, 7)) else (if 0 ≤ x1 then (if x1 ≤ (mn (wrap64 (x1 + 10)) (x0.length : Int)) then (if (mn (wrap64 (x1 + 10)) (x0.length : Int)) ≤ (x0.length : Int) then ((some ((x0.take ((mn (wrap64 (x1 + 10)) (x0.length : Int)) : Int).toNat).drop (x1 : Int).toNat : List Int)).bind fun y101 => (codec_Uint.l0 k x1 y101 0 y101 (y101.length : Int) 0)) else (none)) else (none)) else (none))
def codec_Uint.l0 : Nat → Int → List Int → Int → List Int → Int → Int → Option (Int × Int × Int)
  | 0, _, _, _, _, _, _ => none
  | k + 1, x1, x7, x8, x27, x28, x29 => if x29 < x28 then (if 0 ≤ x29 then (if x29 < (x27.length : Int) then (if (rd x27 x29) ≥ 128 then (if 0 ≤ (wrap64 (7 * x29)) then (codec_Uint.l0 k x1 x7 (IntKind.u64.wrap (x8 + (shl .u64 (((rd x27 x29) - 128) % 256) (wrap64 (7 * x29))))) x27 x28 (wrap64 (x29 + 1))) else (none)) else (if x29 = 9 then (codec_Uint.j2 k x1 x8 x29 (rd x27 x29) (decide ((rd x27 x29) > 1))) else (codec_Uint.j2 k x1 x8 x29 (rd x27 x29) false))) else (none)) else (none)) else (if (x7.length : Int) = 10 then (some (0, 0, 6)) else (some (0, 0, 2)))
def codec_Uint.j2 : Nat → Int → Int → Int → Int → Bool → Option (Int × Int × Int)
  | 0, _, _, _, _, _ => none
  | k + 1, x1, x8, x9, x10, x44 => if x44 = true then (some (0, 0, 6)) else (if x9 > 0 then (if x10 = 0 then (some (0, 0, 1)) else (if 0 ≤ (wrap64 (7 * x9)) then (some (IntKind.u64.wrap (x8 + (shl .u64 (IntKind.u64.wrap (x10)) (wrap64 (7 * x9)))), wrap64 ((wrap64 (x1 + x9)) + 1), 0)) else (none))) else (if 0 ≤ (wrap64 (7 * x9)) then (some (IntKind.u64.wrap (x8 + (shl .u64 (IntKind.u64.wrap (x10)) (wrap64 (7 * x9)))), wrap64 ((wrap64 (x1 + x9)) + 1), 0)) else (none)))
end
def codec_Uint.f (k : Nat) (l0 : List Int) (a1 : Int) : Option (Int × Int × Int) := if a1 < 0 then (codec_Uint.j0 k l0 a1 true) else (codec_Uint.j0 k l0 a1 (decide (a1 > (l0.length : Int))))
theorem codec_Uint.mono_l : ∀ k, (∀ y0 y1 y2, LeO (codec_Uint.j0 k y0 y1 y2) (codec_Uint.j0 (k + 1) y0 y1 y2)) ∧ (∀ y0 y1 y2 y3 y4 y5, LeO (codec_Uint.l0 k y0 y1 y2 y3 y4 y5) (codec_Uint.l0 (k + 1) y0 y1 y2 y3 y4 y5)) ∧ (∀ y0 y1 y2 y3 y4, LeO (codec_Uint.j2 k y0 y1 y2 y3 y4) (codec_Uint.j2 (k + 1) y0 y1 y2 y3 y4))
  | 0 => ⟨fun _ _ _ r h => by simp [codec_Uint.j0] at h, fun _ _ _ _ _ _ r h => by simp [codec_Uint.l0] at h, fun _ _ _ _ _ r h => by simp [codec_Uint.j2] at h⟩
  | k + 1 => by
    obtain ⟨ih0, ih1, ih2⟩ := codec_Uint.mono_l k
    refine ⟨?_, ?_, ?_⟩
    · intro y0 y1 y2
      unfold codec_Uint.j0
      repeat' first
      | (with_reducible exact ih0 _ _ _)
      | (with_reducible exact ih1 _ _ _ _ _ _)
      | (with_reducible exact ih2 _ _ _ _ _)
      | (with_reducible exact LeO.refl _)
      | (with_reducible exact LeO.none _)
      | (with_reducible refine LeO.ite ?_ ?_)
      | (with_reducible refine LeO.bind ?_ (fun _ => ?_))
      | exact ih0 _ _ _
      | exact ih1 _ _ _ _ _ _
      | exact ih2 _ _ _ _ _
      | exact LeO.none _
      | refine LeO.ite ?_ ?_
      | refine LeO.bind ?_ (fun _ => ?_)
    · intro y0 y1 y2 y3 y4 y5
      unfold codec_Uint.l0
      repeat' first
      | (with_reducible exact ih0 _ _ _)
      | (with_reducible exact ih1 _ _ _ _ _ _)
      | (with_reducible exact ih2 _ _ _ _ _)
      | (with_reducible exact LeO.refl _)
      | (with_reducible exact LeO.none _)
      | (with_reducible refine LeO.ite ?_ ?_)
      | (with_reducible refine LeO.bind ?_ (fun _ => ?_))
      | exact ih0 _ _ _
      | exact ih1 _ _ _ _ _ _
      | exact ih2 _ _ _ _ _
      | exact LeO.none _
      | refine LeO.ite ?_ ?_
      | refine LeO.bind ?_ (fun _ => ?_)
    · intro y0 y1 y2 y3 y4
      unfold codec_Uint.j2
      repeat' first
      | (with_reducible exact ih0 _ _ _)
      | (with_reducible exact ih1 _ _ _ _ _ _)
      | (with_reducible exact ih2 _ _ _ _ _)
      | (with_reducible exact LeO.refl _)
      | (with_reducible exact LeO.none _)
      | (with_reducible refine LeO.ite ?_ ?_)
      | (with_reducible refine LeO.bind ?_ (fun _ => ?_))
      | exact ih0 _ _ _
      | exact ih1 _ _ _ _ _ _
      | exact ih2 _ _ _ _ _
      | exact LeO.none _
      | refine LeO.ite ?_ ?_
      | refine LeO.bind ?_ (fun _ => ?_)
theorem codec_Uint.mono : ∀ a0 a1 k, LeO (codec_Uint.f k a0 a1) (codec_Uint.f (k + 1) a0 a1) := by
  intro a0 a1 k
  obtain ⟨ih0, ih1, ih2⟩ := codec_Uint.mono_l k
  unfold codec_Uint.f
  repeat' first
      | (with_reducible exact ih0 _ _ _)
      | (with_reducible exact ih1 _ _ _ _ _ _)
      | (with_reducible exact ih2 _ _ _ _ _)
      | (with_reducible exact LeO.refl _)
      | (with_reducible exact LeO.none _)
      | (with_reducible refine LeO.ite ?_ ?_)
      | (with_reducible refine LeO.bind ?_ (fun _ => ?_))
      | exact ih0 _ _ _
      | exact ih1 _ _ _ _ _ _
      | exact ih2 _ _ _ _ _
      | exact LeO.none _
      | refine LeO.ite ?_ ?_
      | refine LeO.bind ?_ (fun _ => ?_)
set_option maxHeartbeats 8000000 in
set_option maxRecDepth 100000 in
theorem codec_Uint.calls (k : Nat) (A0 : Option Addr) (c0 : Nat) (l0 : List Int) (a1 : Int) (r1 : Int) (r2 : Int) (r3 : Int) (w : World) (hr0 : Kd.C (Kd.int .u8) w A0 l0.length l0) (hc0 : l0.length ≤ c0) (h : codec_Uint.f k l0 a1 = some (r1, r2, r3)) :
    Calls Try.prog 13 #[.slice A0 l0.length c0, .int .i64 a1] w fun e w' => e = .returned (.tuple #[.int .u64 r1, .int .i64 r2, .int .i64 r3]) ∧ Below w.heap.size w w' := by
  have HR0 := Aside0.mk hr0
  have HC0 := Aside0.mk hc0
  clear hr0 hc0
  have HB := Aside0.mk (Below.refl w.heap.size w)
  have H : (if a1 < 0 then (codec_Uint.j0 k l0 a1 true) else (codec_Uint.j0 k l0 a1 (decide (a1 > (l0.length : Int))))) = some (r1, r2, r3) := h
  clear h
  have HC3 := Aside0.mk H
  clear H
  go_enter Try.func13, Try.ntmps13
  go_upto_region 1 with (fail)
  go_cut [18] (fun v18 wc => ∃ (kq : Nat) (x18_2 : Bool), v18 = .bool x18_2 ∧ Aside0 (codec_Uint.j0 kq l0 a1 x18_2 = some (r1, r2, r3)) ∧ Aside0 (kq ≤ k) ∧ Aside0 (Below w.heap.size w wc))
  case first =>
    have H := HC3.out
    clear HC3
    by_cases c4 : a1 < 0
    · rw [if_pos c4] at H
      have c4b0 : decide (a1 < 0) = true := decide_eq_true c4
      clear c4
      (first | rw [c4b0] | (simp only [i64_w, i32_w]; rw [c4b0]) | skip)
      have H' := Aside0.mk H
      clear H
      go_wp2
      go_meet
      case rel => exact ⟨_, (true), (by first | rfl | (simp; done) | (simp [*]; done)), H', ⟨by first | omega | exact Nat.le_refl _⟩, ⟨bB_⟩⟩
    · rw [if_neg c4] at H
      have c4b0 : decide (a1 < 0) = false := decide_eq_false c4
      clear c4
      (first | rw [c4b0] | (simp only [i64_w, i32_w]; rw [c4b0]) | skip)
      have H' := Aside0.mk H
      clear H
      go_wp2
      go_meet
      case rel => exact ⟨_, (decide (a1 > (l0.length : Int))), (by first | rfl | (simp; done) | (simp [*]; done)), H', ⟨by first | omega | exact Nat.le_refl _⟩, ⟨bB_⟩⟩
  case rest =>
    clear HC3
    try clear c1
    try clear p2
    try clear c4
    try clear c4b0
    obtain ⟨kq, x18_2, rfl, HA, HJ2, HB⟩ := hcut
    cases kq with
    | zero => exact absurd HA.out (by simp [codec_Uint.j0])
    | succ kj2 =>
      have H := HA.out
      clear HA
      simp only [codec_Uint.j0] at H
      by_cases c5 : x18_2 = true
      · subst c5
        have H1 : (some (0, 0, 7)) = some (r1, r2, r3) := by rw [if_pos rfl] at H; exact H
        clear H
        have H := H1
        clear H1
        simp only [Option.some.injEq, Prod.mk.injEq] at H
        obtain ⟨rfl, rfl, rfl⟩ := H
        go_wp2
        go_ret3
        exact ⟨by first | rfl | (simp [errW_none, errW_some] <;> rfl) | (simp [*, errW_none, errW_some] <;> rfl), bB_⟩
      · replace c5 := Bool.eq_false_iff.mpr c5
        subst c5
        have H1 : (if 0 ≤ a1 then (if a1 ≤ (mn (wrap64 (a1 + 10)) (l0.length : Int)) then (if (mn (wrap64 (a1 + 10)) (l0.length : Int)) ≤ (l0.length : Int) then ((some ((l0.take ((mn (wrap64 (a1 + 10)) (l0.length : Int)) : Int).toNat).drop (a1 : Int).toNat : List Int)).bind fun y101 => (codec_Uint.l0 kj2 a1 y101 0 y101 (y101.length : Int) 0)) else (none)) else (none)) else (none)) = some (r1, r2, r3) := by rw [if_neg (show ¬ (false = true) by decide)] at H; exact H
        clear H
        have H := H1
        clear H1
        obtain ⟨ji6, hji6⟩ : ∃ j_ : Int, (mn (wrap64 (a1 + 10)) (l0.length : Int)) = j_ := ⟨_, rfl⟩
        replace H : (if 0 ≤ a1 then (if a1 ≤ (ji6) then (if (ji6) ≤ (l0.length : Int) then ((some ((l0.take ((ji6) : Int).toNat).drop (a1 : Int).toNat : List Int)).bind fun y101 => (codec_Uint.l0 kj2 a1 y101 0 y101 (y101.length : Int) 0)) else (none)) else (none)) else (none)) = some (r1, r2, r3) := by first | (rw [hji6] at H; exact H) | (simp only [hji6] at H ⊢; exact H)
        have hji6_ : (if (l0.length : Int) < (wrap64 (a1 + 10)) then (l0.length : Int) else (wrap64 (a1 + 10))) = ji6 := hji6
        by_cases c7 : 0 ≤ a1
        · rw [if_pos c7] at H
          have c7b0 := eq_true c7
          have c7b1 : decide (0 ≤ a1) = true := decide_eq_true c7
          clear c7
          by_cases c8 : a1 ≤ (ji6)
          · rw [if_pos c8] at H
            have c8b0 := eq_true c8
            have c8b1 : decide (a1 ≤ (ji6)) = true := decide_eq_true c8
            clear c8
            by_cases c9 : (ji6) ≤ (l0.length : Int)
            · rw [if_pos c9] at H
              have c9b0 := eq_true c9
              have c9b1 : decide ((ji6) ≤ (l0.length : Int)) = true := decide_eq_true c9
              clear c9
              obtain ⟨y101, hy101⟩ : ∃ y_ : List Int, y_ = ((l0.take ((ji6) : Int).toNat).drop (a1 : Int).toNat) := ⟨_, rfl⟩
              replace H : (codec_Uint.l0 kj2 a1 y101 0 y101 (y101.length : Int) 0) = some (r1, r2, r3) := by first | (rw [hy101]; with_reducible exact H) | (have H2_ := (Option.bind_some _ _).symm.trans H; rw [hy101]; with_reducible exact H2_) | (have H2_ := (Option.bind_some _ _).symm.trans H; with_reducible exact H2_) | with_reducible exact H | (rw [hy101]; exact H) | exact H
              have Ny101 := Aside0.mk hy101
              clear hy101
              have H' := Aside0.mk H
              clear H
              obtain ⟨i010, hi010, _, hsz10, _⟩ := info_parts info5
              obtain ⟨A10, hcut10, hA10, hC10⟩ := print_mid_of (P := Try.prog) (Value.int .u8) 0 22 5 .i64 .i64 Try.underlying22 hi010 hsz10 A0 c0 l0 a1 (ji6) (of_decide_eq_true (by first | (with_reducible assumption) | assumption)) (by first | omega | exact of_decide_eq_true (by first | (with_reducible assumption) | assumption)) (of_decide_eq_true (by first | (with_reducible assumption) | assumption)) HC0.out
              (first | rw [← Ny101.out] at hcut10 | (simp only [Int.reduceToNat] at hcut10; rw [← Ny101.out] at hcut10))
              (first | rw [← Ny101.out] at hA10 | (simp only [Int.reduceToNat] at hA10; rw [← Ny101.out] at hA10))
              (first | rw [← Ny101.out] at hC10 | (simp only [Int.reduceToNat] at hC10; rw [← Ny101.out] at hC10))
              have HR104 := Aside0.mk (Kd.C_of_reads (h1 := fun _ => rfl) (hA10 _ (Kd.reads_of_C HR0.out)))
              have HC104 := Aside0.mk hC10
              clear hA10 hC10 hi010 hsz10
              go_wp2
              go_loopg [8, 29] kj2 (fun kq v8 v29 w' => ∃ (x8_2 : Int) (x29_2 : Int), v8 = .int .u64 x8_2 ∧ v29 = .int .i64 x29_2 ∧ Aside0 (codec_Uint.l0 kq a1 y101 x8_2 y101 (y101.length : Int) x29_2 = some (r1, r2, r3)) ∧ Aside0 (kq ≤ kj2) ∧ Aside0 (Below w.heap.size w w'))
              case atStart => exact ⟨(0), (0), (by first | rfl | (simp; done) | (simp [*]; done)), (by first | rfl | (simp; done) | (simp [*]; done)), H', ⟨Nat.le_refl _⟩, ⟨bB_⟩⟩
              case round =>
                clear H'
                try clear c1
                try clear p2
                try clear c4
                try clear c4b0
                try clear c5
                try clear p6
                try clear c7
                try clear c7b0
                try clear c7b1
                try clear c8
                try clear c8b0
                try clear c8b1
                try clear c9
                try clear c9b0
                try clear c9b1
                try clear p2
                obtain ⟨x8_2, x29_2, rfl, rfl, HA, HK2, HB⟩ := hrel
                cases gk with
                | zero => exact absurd HA.out (by simp [codec_Uint.l0])
                | succ k2 =>
                  have H := HA.out
                  clear HA
                  simp only [codec_Uint.l0] at H
                  by_cases c11 : x29_2 < (y101.length : Int)
                  · rw [if_pos c11] at H
                    have c11b0 : decide (x29_2 < (y101.length : Int)) = true := decide_eq_true c11
                    clear c11
                    by_cases c12 : 0 ≤ x29_2
                    · rw [if_pos c12] at H
                      have c12b0 : decide (0 ≤ x29_2) = true := decide_eq_true c12
                      clear c12
                      by_cases c13 : x29_2 < (y101.length : Int)
                      · rw [if_pos c13] at H
                        have c13b0 : decide (x29_2 < (y101.length : Int)) = true := decide_eq_true c13
                        clear c13
                        by_cases c14 : (rd y101 x29_2) ≥ 128
                        · rw [if_pos c14] at H
                          have c14b0 : decide (128 ≤ (rd y101 x29_2)) = true := decide_eq_true c14
                          clear c14
                          obtain ⟨ji15, hji15⟩ : ∃ j_ : Int, (wrap64 (7 * x29_2)) = j_ := ⟨_, rfl⟩
                          replace H : (if 0 ≤ (ji15) then (codec_Uint.l0 k2 a1 y101 (IntKind.u64.wrap (x8_2 + (shl .u64 (((rd y101 x29_2) - 128) % 256) (ji15)))) y101 (y101.length : Int) (wrap64 (x29_2 + 1))) else (none)) = some (r1, r2, r3) := by first | (rw [hji15] at H; exact H) | (simp only [hji15] at H ⊢; exact H)
                          have hji15w : (IntKind.i64.wrap (7 * x29_2)) = ji15 := (i64_w _).trans hji15
                          by_cases c16 : 0 ≤ (ji15)
                          · rw [if_pos c16] at H
                            have c16b0 := eq_true c16
                            have c16b1 : decide (0 ≤ (ji15)) = true := decide_eq_true c16
                            clear c16
                            obtain ⟨ji17, hji17⟩ : ∃ j_ : Int, (shl .u64 (((rd y101 x29_2) - 128) % 256) (ji15)) = j_ := ⟨_, rfl⟩
                            replace H : (codec_Uint.l0 k2 a1 y101 (IntKind.u64.wrap (x8_2 + (ji17))) y101 (y101.length : Int) (wrap64 (x29_2 + 1))) = some (r1, r2, r3) := by first | (rw [hji17] at H; exact H) | (simp only [hji17] at H ⊢; exact H)
                            have hji17_ : (IntKind.u64.wrap ((((rd y101 x29_2) - 128) % 256) * 2 ^ min (ji15).toNat 64)) = ji17 := hji17
                            have hji17z : (ji15) ≤ 64 → (IntKind.u64.wrap ((((rd y101 x29_2) - 128) % 256) * 2 ^ (ji15).toNat)) = ji17 := shl_small hji17
                            have H' := Aside0.mk H
                            clear H
                            have p105 : 0 ≤ (x29_2 : Int) := of_decide_eq_true (by first | (with_reducible assumption) | assumption)
                            have q105 : x29_2 < (y101.length : Int) := of_decide_eq_true (by first | (with_reducible assumption) | assumption)
                            obtain ⟨ad105, e105, hx105_0⟩ := Kd.at_int HR104.out x29_2 p105 q105
                            cases e105
                            replace hx105_0 := (HB.out.cell (World.block_lt_of_cell? w _ hx105_0)).trans hx105_0
                            replace p105 := eq_true p105
                            replace q105 := eq_true q105
                            go_wp2
                            go_roundg k2
                            case measure => have := HJ2.out; have := HK2.out; omega
                            case rel => exact ⟨(IntKind.u64.wrap (x8_2 + (ji17))), (wrap64 (x29_2 + 1)), (by first | rfl | (simp; done) | (simp only [← hji17] <;> (first | rfl | simp)) | (simp [*]; done)), (by first | rfl | (simp; done) | (simp [*]; done)), H', ⟨by have := HJ2.out; have := HK2.out; omega⟩, ⟨bB_⟩⟩
                          · rw [if_neg c16] at H
                            exact absurd H (by simp)
                        · rw [if_neg c14] at H
                          have c14b0 : decide (128 ≤ (rd y101 x29_2)) = false := decide_eq_false c14
                          clear c14
                          have HC18 := Aside0.mk H
                          clear H
                          have p105 : 0 ≤ (x29_2 : Int) := of_decide_eq_true (by first | (with_reducible assumption) | assumption)
                          have q105 : x29_2 < (y101.length : Int) := of_decide_eq_true (by first | (with_reducible assumption) | assumption)
                          obtain ⟨ad105, e105, hx105_0⟩ := Kd.at_int HR104.out x29_2 p105 q105
                          cases e105
                          replace hx105_0 := (HB.out.cell (World.block_lt_of_cell? w _ hx105_0)).trans hx105_0
                          replace p105 := eq_true p105
                          replace q105 := eq_true q105
                          go_upto_region 10 with (fail)
                          go_cut [44] (fun v44 wc => ∃ (kq : Nat) (x44_17 : Bool), v44 = .bool x44_17 ∧ Aside0 (codec_Uint.j2 kq a1 x8_2 x29_2 (rd y101 x29_2) x44_17 = some (r1, r2, r3)) ∧ Aside0 (kq ≤ k2) ∧ Aside0 (Below w.heap.size w wc))
                          case first =>
                            have H := HC18.out
                            clear HC18
                            by_cases c19 : x29_2 = 9
                            · rw [if_pos c19] at H
                              have c19b0 : (x29_2 == 9) = true := beq_iff_eq.mpr c19
                              have c19b1 : (x29_2 != 9) = false := bne_eq_false_iff_eq.mpr c19
                              clear c19
                              (first | rw [c19b0] | (simp only [i64_w, i32_w]; rw [c19b0]) | skip)
                              have H' := Aside0.mk H
                              clear H
                              go_wp2
                              go_meet
                              case rel => exact ⟨_, (decide ((rd y101 x29_2) > 1)), (by first | rfl | (simp; done) | (simp [*]; done)), H', ⟨by have := HJ2.out; have := HK2.out; first | omega | exact Nat.le_refl _⟩, ⟨bB_⟩⟩
                            · rw [if_neg c19] at H
                              have c19b0 : (x29_2 == 9) = false := beq_eq_false_iff_ne.mpr c19
                              have c19b1 : (x29_2 != 9) = true := bne_iff_ne.mpr c19
                              (first | rw [c19b0] | (simp only [i64_w, i32_w]; rw [c19b0]) | skip)
                              have H' := Aside0.mk H
                              clear H
                              go_wp2
                              go_meet
                              case rel => exact ⟨_, (false), (by first | rfl | (simp; done) | (simp [*]; done)), H', ⟨by have := HJ2.out; have := HK2.out; first | omega | exact Nat.le_refl _⟩, ⟨bB_⟩⟩
                          case rest =>
                            clear HC18
                            try clear c1
                            try clear p1
                            try clear q1
                            try clear hx1
                            try clear p2
                            try clear c4
                            try clear c4b0
                            try clear c5
                            try clear p6
                            try clear c7
                            try clear c7b0
                            try clear c7b1
                            try clear c8
                            try clear c8b0
                            try clear c8b1
                            try clear c9
                            try clear c9b0
                            try clear c9b1
                            try clear p10
                            try clear q10
                            try clear hx10
                            try clear c11
                            try clear c11b0
                            try clear c12
                            try clear c12b0
                            try clear c13
                            try clear c13b0
                            try clear c14
                            try clear c14b0
                            try clear c16
                            try clear c16b0
                            try clear c16b1
                            try clear c19
                            try clear c19b0
                            try clear c19b1
                            try clear hx105_0
                            try clear p105
                            try clear p2
                            try clear p6
                            try clear q105
                            obtain ⟨kq, x44_17, rfl, HA, HJ17, HB⟩ := hcut
                            cases kq with
                            | zero => exact absurd HA.out (by simp [codec_Uint.j2])
                            | succ kj17 =>
                              have H := HA.out
                              clear HA
                              simp only [codec_Uint.j2] at H
                              by_cases c20 : x44_17 = true
                              · subst c20
                                have H1 : (some (0, 0, 6)) = some (r1, r2, r3) := by rw [if_pos rfl] at H; exact H
                                clear H
                                have H := H1
                                clear H1
                                simp only [Option.some.injEq, Prod.mk.injEq] at H
                                obtain ⟨rfl, rfl, rfl⟩ := H
                                go_wp2
                                go_ret3
                                exact ⟨by first | rfl | (simp [errW_none, errW_some] <;> rfl) | (simp only [← hji6]; first | rfl | (simp [errW_none, errW_some] <;> rfl)) | (simp [*, errW_none, errW_some] <;> rfl), bB_⟩
                              · replace c20 := Bool.eq_false_iff.mpr c20
                                subst c20
                                have H1 : (if x29_2 > 0 then (if (rd y101 x29_2) = 0 then (some (0, 0, 1)) else (if 0 ≤ (wrap64 (7 * x29_2)) then (some (IntKind.u64.wrap (x8_2 + (shl .u64 (IntKind.u64.wrap ((rd y101 x29_2))) (wrap64 (7 * x29_2)))), wrap64 ((wrap64 (a1 + x29_2)) + 1), 0)) else (none))) else (if 0 ≤ (wrap64 (7 * x29_2)) then (some (IntKind.u64.wrap (x8_2 + (shl .u64 (IntKind.u64.wrap ((rd y101 x29_2))) (wrap64 (7 * x29_2)))), wrap64 ((wrap64 (a1 + x29_2)) + 1), 0)) else (none))) = some (r1, r2, r3) := by rw [if_neg (show ¬ (false = true) by decide)] at H; exact H
                                clear H
                                have H := H1
                                clear H1
                                by_cases c21 : x29_2 > 0
                                · rw [if_pos c21] at H
                                  have c21b0 : decide (0 < x29_2) = true := decide_eq_true c21
                                  clear c21
                                  by_cases c22 : (rd y101 x29_2) = 0
                                  · rw [if_pos c22] at H
                                    have c22b0 : ((rd y101 x29_2) == 0) = true := beq_iff_eq.mpr c22
                                    have c22b1 : ((rd y101 x29_2) != 0) = false := bne_eq_false_iff_eq.mpr c22
                                    clear c22
                                    simp only [Option.some.injEq, Prod.mk.injEq] at H
                                    obtain ⟨rfl, rfl, rfl⟩ := H
                                    go_wp2
                                    go_ret3
                                    exact ⟨by first | rfl | (simp [errW_none, errW_some] <;> rfl) | (simp only [← hji6]; first | rfl | (simp [errW_none, errW_some] <;> rfl)) | (simp [*, errW_none, errW_some] <;> rfl), bB_⟩
                                  · rw [if_neg c22] at H
                                    have c22b0 : ((rd y101 x29_2) == 0) = false := beq_eq_false_iff_ne.mpr c22
                                    have c22b1 : ((rd y101 x29_2) != 0) = true := bne_iff_ne.mpr c22
                                    obtain ⟨ji23, hji23⟩ : ∃ j_ : Int, (wrap64 (7 * x29_2)) = j_ := ⟨_, rfl⟩
                                    replace H : (if 0 ≤ (ji23) then (some (IntKind.u64.wrap (x8_2 + (shl .u64 (IntKind.u64.wrap ((rd y101 x29_2))) (ji23))), wrap64 ((wrap64 (a1 + x29_2)) + 1), 0)) else (none)) = some (r1, r2, r3) := by first | (rw [hji23] at H; exact H) | (simp only [hji23] at H ⊢; exact H)
                                    have hji23w : (IntKind.i64.wrap (7 * x29_2)) = ji23 := (i64_w _).trans hji23
                                    by_cases c24 : 0 ≤ (ji23)
                                    · rw [if_pos c24] at H
                                      have c24b0 := eq_true c24
                                      have c24b1 : decide (0 ≤ (ji23)) = true := decide_eq_true c24
                                      clear c24
                                      obtain ⟨ji25, hji25⟩ : ∃ j_ : Int, (shl .u64 (IntKind.u64.wrap ((rd y101 x29_2))) (ji23)) = j_ := ⟨_, rfl⟩
                                      replace H : (some (IntKind.u64.wrap (x8_2 + (ji25)), wrap64 ((wrap64 (a1 + x29_2)) + 1), 0)) = some (r1, r2, r3) := by first | (rw [hji25] at H; exact H) | (simp only [hji25] at H ⊢; exact H)
                                      have hji25_ : (IntKind.u64.wrap ((IntKind.u64.wrap ((rd y101 x29_2))) * 2 ^ min (ji23).toNat 64)) = ji25 := hji25
                                      have hji25z : (ji23) ≤ 64 → (IntKind.u64.wrap ((IntKind.u64.wrap ((rd y101 x29_2))) * 2 ^ (ji23).toNat)) = ji25 := shl_small hji25
                                      simp only [Option.some.injEq, Prod.mk.injEq] at H
                                      obtain ⟨rfl, rfl, rfl⟩ := H
                                      go_wp2
                                      go_ret3
                                      exact ⟨by first | rfl | (simp [errW_none, errW_some] <;> rfl) | (simp only [← hji6, ← hji23, ← hji25]; first | rfl | (simp [errW_none, errW_some] <;> rfl)) | (simp [*, errW_none, errW_some] <;> rfl), bB_⟩
                                    · rw [if_neg c24] at H
                                      exact absurd H (by simp)
                                · rw [if_neg c21] at H
                                  have c21b0 : decide (0 < x29_2) = false := decide_eq_false c21
                                  clear c21
                                  obtain ⟨ji26, hji26⟩ : ∃ j_ : Int, (wrap64 (7 * x29_2)) = j_ := ⟨_, rfl⟩
                                  replace H : (if 0 ≤ (ji26) then (some (IntKind.u64.wrap (x8_2 + (shl .u64 (IntKind.u64.wrap ((rd y101 x29_2))) (ji26))), wrap64 ((wrap64 (a1 + x29_2)) + 1), 0)) else (none)) = some (r1, r2, r3) := by first | (rw [hji26] at H; exact H) | (simp only [hji26] at H ⊢; exact H)
                                  have hji26w : (IntKind.i64.wrap (7 * x29_2)) = ji26 := (i64_w _).trans hji26
                                  by_cases c27 : 0 ≤ (ji26)
                                  · rw [if_pos c27] at H
                                    have c27b0 := eq_true c27
                                    have c27b1 : decide (0 ≤ (ji26)) = true := decide_eq_true c27
                                    clear c27
                                    obtain ⟨ji28, hji28⟩ : ∃ j_ : Int, (shl .u64 (IntKind.u64.wrap ((rd y101 x29_2))) (ji26)) = j_ := ⟨_, rfl⟩
                                    replace H : (some (IntKind.u64.wrap (x8_2 + (ji28)), wrap64 ((wrap64 (a1 + x29_2)) + 1), 0)) = some (r1, r2, r3) := by first | (rw [hji28] at H; exact H) | (simp only [hji28] at H ⊢; exact H)
                                    have hji28_ : (IntKind.u64.wrap ((IntKind.u64.wrap ((rd y101 x29_2))) * 2 ^ min (ji26).toNat 64)) = ji28 := hji28
                                    have hji28z : (ji26) ≤ 64 → (IntKind.u64.wrap ((IntKind.u64.wrap ((rd y101 x29_2))) * 2 ^ (ji26).toNat)) = ji28 := shl_small hji28
                                    simp only [Option.some.injEq, Prod.mk.injEq] at H
                                    obtain ⟨rfl, rfl, rfl⟩ := H
                                    go_wp2
                                    go_ret3
                                    exact ⟨by first | rfl | (simp [errW_none, errW_some] <;> rfl) | (simp only [← hji6, ← hji26, ← hji28]; first | rfl | (simp [errW_none, errW_some] <;> rfl)) | (simp [*, errW_none, errW_some] <;> rfl), bB_⟩
                                  · rw [if_neg c27] at H
                                    exact absurd H (by simp)
                      · rw [if_neg c13] at H
                        exact absurd H (by simp)
                    · rw [if_neg c12] at H
                      exact absurd H (by simp)
                  · rw [if_neg c11] at H
                    have c11b0 : decide (x29_2 < (y101.length : Int)) = false := decide_eq_false c11
                    clear c11
                    by_cases c29 : (y101.length : Int) = 10
                    · rw [if_pos c29] at H
                      have c29b0 : ((y101.length : Int) == 10) = true := beq_iff_eq.mpr c29
                      have c29b1 : ((y101.length : Int) != 10) = false := bne_eq_false_iff_eq.mpr c29
                      clear c29
                      simp only [Option.some.injEq, Prod.mk.injEq] at H
                      obtain ⟨rfl, rfl, rfl⟩ := H
                      go_wp2
                      go_ret3
                      exact ⟨by first | rfl | (simp [errW_none, errW_some] <;> rfl) | (simp only [← hji6]; first | rfl | (simp [errW_none, errW_some] <;> rfl)) | (simp [*, errW_none, errW_some] <;> rfl), bB_⟩
                    · rw [if_neg c29] at H
                      have c29b0 : ((y101.length : Int) == 10) = false := beq_eq_false_iff_ne.mpr c29
                      have c29b1 : ((y101.length : Int) != 10) = true := bne_iff_ne.mpr c29
                      simp only [Option.some.injEq, Prod.mk.injEq] at H
                      obtain ⟨rfl, rfl, rfl⟩ := H
                      go_wp2
                      go_ret3
                      exact ⟨by first | rfl | (simp [errW_none, errW_some] <;> rfl) | (simp only [← hji6]; first | rfl | (simp [errW_none, errW_some] <;> rfl)) | (simp [*, errW_none, errW_some] <;> rfl), bB_⟩
            · rw [if_neg c9] at H
              exact absurd H (by simp)
          · rw [if_neg c8] at H
            exact absurd H (by simp)
        · rw [if_neg c7] at H
          exact absurd H (by simp)

/-! ### codec_Int: function 15 -/
def codec_Int.f (k : Nat) (l0 : List Int) (a1 : Int) : Option (Int × Int × Int) := (codec_Uint.f k l0 a1).bind fun bt106 => (if bt106.2.2 = 0 then (if (Int.tmod bt106.1 2) = 1 then (some (wrap64 ((wrap64 (-(wrap64 (IntKind.u64.wrap (Int.tdiv bt106.1 2))))) - 1), bt106.2.1, 0)) else (some (wrap64 (IntKind.u64.wrap (Int.tdiv bt106.1 2)), bt106.2.1, 0))) else (some (0, 0, bt106.2.2)))
theorem codec_Int.mono : ∀ a0 a1 k, LeO (codec_Int.f k a0 a1) (codec_Int.f (k + 1) a0 a1) := by
  intro a0 a1 k
  unfold codec_Int.f
  repeat' first
      | (with_reducible exact codec_Uint.mono _ _ _)
      | (with_reducible exact LeO.refl _)
      | (with_reducible exact LeO.none _)
      | (with_reducible refine LeO.ite ?_ ?_)
      | (with_reducible refine LeO.bind ?_ (fun _ => ?_))
      | exact codec_Uint.mono _ _ _
      | exact LeO.none _
      | refine LeO.ite ?_ ?_
      | refine LeO.bind ?_ (fun _ => ?_)
set_option maxHeartbeats 8000000 in
set_option maxRecDepth 100000 in
theorem codec_Int.calls (k : Nat) (A0 : Option Addr) (c0 : Nat) (l0 : List Int) (a1 : Int) (r1 : Int) (r2 : Int) (r3 : Int) (w : World) (hr0 : Kd.C (Kd.int .u8) w A0 l0.length l0) (hc0 : l0.length ≤ c0) (h : codec_Int.f k l0 a1 = some (r1, r2, r3)) :
    Calls Try.prog 15 #[.slice A0 l0.length c0, .int .i64 a1] w fun e w' => e = .returned (.tuple #[.int .i64 r1, .int .i64 r2, .int .i64 r3]) ∧ Below w.heap.size w w' := by
  have HR0 := Aside0.mk hr0
  have HC0 := Aside0.mk hc0
  clear hr0 hc0
  have HB := Aside0.mk (Below.refl w.heap.size w)
  have H : ((codec_Uint.f k l0 a1).bind fun bt106 => (if bt106.2.2 = 0 then (if (Int.tmod bt106.1 2) = 1 then (some (wrap64 ((wrap64 (-(wrap64 (IntKind.u64.wrap (Int.tdiv bt106.1 2))))) - 1), bt106.2.1, 0)) else (some (wrap64 (IntKind.u64.wrap (Int.tdiv bt106.1 2)), bt106.2.1, 0))) else (some (0, 0, bt106.2.2)))) = some (r1, r2, r3) := h
  clear h
  replace H := Option.bind_eq_some_iff.mp H
  obtain ⟨⟨t106, t107, t108⟩, A30, H⟩ := H
  replace H : (if t108 = 0 then (if (Int.tmod t106 2) = 1 then (some (wrap64 ((wrap64 (-(wrap64 (IntKind.u64.wrap (Int.tdiv t106 2))))) - 1), t107, 0)) else (some (wrap64 (IntKind.u64.wrap (Int.tdiv t106 2)), t107, 0))) else (some (0, 0, t108))) = some (r1, r2, r3) := H
  have A3 := Aside0.mk A30
  clear A30
  by_cases c4 : t108 = 0
  · rw [if_pos c4] at H
    have c4b0 : (t108 == 0) = true := beq_iff_eq.mpr c4
    have c4b1 : (t108 != 0) = false := bne_eq_false_iff_eq.mpr c4
    clear c4
    by_cases c5 : (Int.tmod t106 2) = 1
    · rw [if_pos c5] at H
      have c5b0 : ((Int.tmod t106 2) == 1) = true := beq_iff_eq.mpr c5
      have c5b1 : ((Int.tmod t106 2) != 1) = false := bne_eq_false_iff_eq.mpr c5
      clear c5
      simp only [Option.some.injEq, Prod.mk.injEq] at H
      obtain ⟨rfl, rfl, rfl⟩ := H
      go_enter Try.func15, Try.ntmps15
      go_wp2_with (first | ((with_reducible refine gate_callee (f := 13) rfl ?_); refine goesL_ (some 13) rfl rfl Try.func13 (by kernel_rfl) rfl #[.slice A0 l0.length c0, .int .i64 a1] rfl mB_ ?_; (with_reducible refine (codec_Uint.calls k _ _ l0 a1 t106 t107 t108 _ ?side1 ?side2 A3.out).mono ?_); (case side1 => repeat (first | exact HR0.out | (with_reducible refine Kd.C_alloc ?_ _) | (with_reducible refine Kd.C_drewN ?_ _) | (with_reducible refine Kd.C_drew ?_))); (case side2 => exact HC0.out); rintro e w6 ⟨rfl, hb⟩; refine ⟨_, rfl, ?_⟩; have n0_ := Aside0.mk (below_step bB_ hb); clear HB; have HB := n0_; clear n0_; (try clear hb); (try clear hb2); (try clear hk); (try clear hi)))
      go_ret3
      exact ⟨by first | rfl | (simp [errW_none, errW_some] <;> rfl) | (simp [*, errW_none, errW_some] <;> rfl), bB_⟩
    · rw [if_neg c5] at H
      have c5b0 : ((Int.tmod t106 2) == 1) = false := beq_eq_false_iff_ne.mpr c5
      have c5b1 : ((Int.tmod t106 2) != 1) = true := bne_iff_ne.mpr c5
      simp only [Option.some.injEq, Prod.mk.injEq] at H
      obtain ⟨rfl, rfl, rfl⟩ := H
      go_enter Try.func15, Try.ntmps15
      go_wp2_with (first | ((with_reducible refine gate_callee (f := 13) rfl ?_); refine goesL_ (some 13) rfl rfl Try.func13 (by kernel_rfl) rfl #[.slice A0 l0.length c0, .int .i64 a1] rfl mB_ ?_; (with_reducible refine (codec_Uint.calls k _ _ l0 a1 t106 t107 t108 _ ?side1 ?side2 A3.out).mono ?_); (case side1 => repeat (first | exact HR0.out | (with_reducible refine Kd.C_alloc ?_ _) | (with_reducible refine Kd.C_drewN ?_ _) | (with_reducible refine Kd.C_drew ?_))); (case side2 => exact HC0.out); rintro e w7 ⟨rfl, hb⟩; refine ⟨_, rfl, ?_⟩; have n0_ := Aside0.mk (below_step bB_ hb); clear HB; have HB := n0_; clear n0_; (try clear hb); (try clear hb2); (try clear hk); (try clear hi)))
      go_ret3
      exact ⟨by first | rfl | (simp [errW_none, errW_some] <;> rfl) | (simp [*, errW_none, errW_some] <;> rfl), bB_⟩
  · rw [if_neg c4] at H
    have c4b0 : (t108 == 0) = false := beq_eq_false_iff_ne.mpr c4
    have c4b1 : (t108 != 0) = true := bne_iff_ne.mpr c4
    simp only [Option.some.injEq, Prod.mk.injEq] at H
    obtain ⟨rfl, rfl, rfl⟩ := H
    go_enter Try.func15, Try.ntmps15
    go_wp2_with (first | ((with_reducible refine gate_callee (f := 13) rfl ?_); refine goesL_ (some 13) rfl rfl Try.func13 (by kernel_rfl) rfl #[.slice A0 l0.length c0, .int .i64 a1] rfl mB_ ?_; (with_reducible refine (codec_Uint.calls k _ _ l0 a1 t106 t107 t108 _ ?side1 ?side2 A3.out).mono ?_); (case side1 => repeat (first | exact HR0.out | (with_reducible refine Kd.C_alloc ?_ _) | (with_reducible refine Kd.C_drewN ?_ _) | (with_reducible refine Kd.C_drew ?_))); (case side2 => exact HC0.out); rintro e w8 ⟨rfl, hb⟩; refine ⟨_, rfl, ?_⟩; have n0_ := Aside0.mk (below_step bB_ hb); clear HB; have HB := n0_; clear n0_; (try clear hb); (try clear hb2); (try clear hk); (try clear hi)))
    go_ret3
    exact ⟨by first | rfl | (simp [errW_none, errW_some] <;> rfl) | (simp [*, errW_none, errW_some] <;> rfl), bB_⟩

/-! ### codec_Bool: function 19 -/
def codec_Bool.j0 : Nat → List Int → Int → Bool → Option (Bool × Int × Int)
  | 0, _, _, _ => none
  | k + 1, x0, x1, x7 => if x7 = true then (some (false, 0, 7)) else (if x1 = (x0.length : Int) then (some (false, 0, 2)) else (if 0 ≤ x1 then (if x1 < (x0.length : Int) then (if (rd x0 x1) > 1 then (some (false, 0, 1)) else (some (((rd x0 x1) == 1), wrap64 (x1 + 1), 0))) else (none)) else (none)))
def codec_Bool.f (k : Nat) (l0 : List Int) (a1 : Int) : Option (Bool × Int × Int) := if a1 < 0 then (codec_Bool.j0 k l0 a1 true) else (codec_Bool.j0 k l0 a1 (decide (a1 > (l0.length : Int))))
theorem codec_Bool.mono_l : ∀ k, (∀ y0 y1 y2, LeO (codec_Bool.j0 k y0 y1 y2) (codec_Bool.j0 (k + 1) y0 y1 y2))
  | 0 => fun _ _ _ r h => by simp [codec_Bool.j0] at h
  | k + 1 => by
    have ih0 := codec_Bool.mono_l k
    · intro y0 y1 y2
      unfold codec_Bool.j0
      repeat' first
      | (with_reducible exact ih0 _ _ _)
      | (with_reducible exact LeO.refl _)
      | (with_reducible exact LeO.none _)
      | (with_reducible refine LeO.ite ?_ ?_)
      | (with_reducible refine LeO.bind ?_ (fun _ => ?_))
      | exact ih0 _ _ _
      | exact LeO.none _
      | refine LeO.ite ?_ ?_
      | refine LeO.bind ?_ (fun _ => ?_)
theorem codec_Bool.mono : ∀ a0 a1 k, LeO (codec_Bool.f k a0 a1) (codec_Bool.f (k + 1) a0 a1) := by
  intro a0 a1 k
  have ih0 := codec_Bool.mono_l k
  unfold codec_Bool.f
  repeat' first
      | (with_reducible exact ih0 _ _ _)
      | (with_reducible exact LeO.refl _)
      | (with_reducible exact LeO.none _)
      | (with_reducible refine LeO.ite ?_ ?_)
      | (with_reducible refine LeO.bind ?_ (fun _ => ?_))
      | exact ih0 _ _ _
      | exact LeO.none _
      | refine LeO.ite ?_ ?_
      | refine LeO.bind ?_ (fun _ => ?_)
set_option maxHeartbeats 8000000 in
set_option maxRecDepth 100000 in
theorem codec_Bool.calls (k : Nat) (A0 : Option Addr) (c0 : Nat) (l0 : List Int) (a1 : Int) (r1 : Bool) (r2 : Int) (r3 : Int) (w : World) (hr0 : Kd.C (Kd.int .u8) w A0 l0.length l0) (hc0 : l0.length ≤ c0) (h : codec_Bool.f k l0 a1 = some (r1, r2, r3)) :
    Calls Try.prog 19 #[.slice A0 l0.length c0, .int .i64 a1] w fun e w' => e = .returned (.tuple #[.bool r1, .int .i64 r2, .int .i64 r3]) ∧ Below w.heap.size w w' := by
  have HR0 := Aside0.mk hr0
  have HC0 := Aside0.mk hc0
  clear hr0 hc0
  have HB := Aside0.mk (Below.refl w.heap.size w)
  have H : (if a1 < 0 then (codec_Bool.j0 k l0 a1 true) else (codec_Bool.j0 k l0 a1 (decide (a1 > (l0.length : Int))))) = some (r1, r2, r3) := h
  clear h
  have HC3 := Aside0.mk H
  clear H
  go_enter Try.func19, Try.ntmps19
  go_upto_region 1 with (fail)
  go_cut [7] (fun v7 wc => ∃ (kq : Nat) (x7_2 : Bool), v7 = .bool x7_2 ∧ Aside0 (codec_Bool.j0 kq l0 a1 x7_2 = some (r1, r2, r3)) ∧ Aside0 (kq ≤ k) ∧ Aside0 (Below w.heap.size w wc))
  case first =>
    have H := HC3.out
    clear HC3
    by_cases c4 : a1 < 0
    · rw [if_pos c4] at H
      have c4b0 : decide (a1 < 0) = true := decide_eq_true c4
      clear c4
      (first | rw [c4b0] | (simp only [i64_w, i32_w]; rw [c4b0]) | skip)
      have H' := Aside0.mk H
      clear H
      go_wp2
      go_meet
      case rel => exact ⟨_, (true), (by first | rfl | (simp; done) | (simp [*]; done)), H', ⟨by first | omega | exact Nat.le_refl _⟩, ⟨bB_⟩⟩
    · rw [if_neg c4] at H
      have c4b0 : decide (a1 < 0) = false := decide_eq_false c4
      clear c4
      (first | rw [c4b0] | (simp only [i64_w, i32_w]; rw [c4b0]) | skip)
      have H' := Aside0.mk H
      clear H
      go_wp2
      go_meet
      case rel => exact ⟨_, (decide (a1 > (l0.length : Int))), (by first | rfl | (simp; done) | (simp [*]; done)), H', ⟨by first | omega | exact Nat.le_refl _⟩, ⟨bB_⟩⟩
  case rest =>
    clear HC3
    try clear c1
    try clear p2
    try clear c4
    try clear c4b0
    obtain ⟨kq, x7_2, rfl, HA, HJ2, HB⟩ := hcut
    cases kq with
    | zero => exact absurd HA.out (by simp [codec_Bool.j0])
    | succ kj2 =>
      have H := HA.out
      clear HA
      simp only [codec_Bool.j0] at H
      by_cases c5 : x7_2 = true
      · subst c5
        have H1 : (some (false, 0, 7)) = some (r1, r2, r3) := by rw [if_pos rfl] at H; exact H
        clear H
        have H := H1
        clear H1
        simp only [Option.some.injEq, Prod.mk.injEq] at H
        obtain ⟨rfl, rfl, rfl⟩ := H
        go_wp2
        go_ret3
        exact ⟨by first | rfl | (simp [errW_none, errW_some] <;> rfl) | (simp [*, errW_none, errW_some] <;> rfl), bB_⟩
      · replace c5 := Bool.eq_false_iff.mpr c5
        subst c5
        have H1 : (if a1 = (l0.length : Int) then (some (false, 0, 2)) else (if 0 ≤ a1 then (if a1 < (l0.length : Int) then (if (rd l0 a1) > 1 then (some (false, 0, 1)) else (some (((rd l0 a1) == 1), wrap64 (a1 + 1), 0))) else (none)) else (none))) = some (r1, r2, r3) := by rw [if_neg (show ¬ (false = true) by decide)] at H; exact H
        clear H
        have H := H1
        clear H1
        by_cases c6 : a1 = (l0.length : Int)
        · rw [if_pos c6] at H
          have c6b0 : (a1 == (l0.length : Int)) = true := beq_iff_eq.mpr c6
          have c6b1 : (a1 != (l0.length : Int)) = false := bne_eq_false_iff_eq.mpr c6
          clear c6
          simp only [Option.some.injEq, Prod.mk.injEq] at H
          obtain ⟨rfl, rfl, rfl⟩ := H
          go_wp2
          go_ret3
          exact ⟨by first | rfl | (simp [errW_none, errW_some] <;> rfl) | (simp [*, errW_none, errW_some] <;> rfl), bB_⟩
        · rw [if_neg c6] at H
          have c6b0 : (a1 == (l0.length : Int)) = false := beq_eq_false_iff_ne.mpr c6
          have c6b1 : (a1 != (l0.length : Int)) = true := bne_iff_ne.mpr c6
          by_cases c7 : 0 ≤ a1
          · rw [if_pos c7] at H
            have c7b0 : decide (0 ≤ a1) = true := decide_eq_true c7
            clear c7
            by_cases c8 : a1 < (l0.length : Int)
            · rw [if_pos c8] at H
              have c8b0 : decide (a1 < (l0.length : Int)) = true := decide_eq_true c8
              clear c8
              by_cases c9 : (rd l0 a1) > 1
              · rw [if_pos c9] at H
                have c9b0 : decide (1 < (rd l0 a1)) = true := decide_eq_true c9
                clear c9
                simp only [Option.some.injEq, Prod.mk.injEq] at H
                obtain ⟨rfl, rfl, rfl⟩ := H
                have p109 : 0 ≤ (a1 : Int) := of_decide_eq_true (by first | (with_reducible assumption) | assumption)
                have q109 : a1 < (l0.length : Int) := of_decide_eq_true (by first | (with_reducible assumption) | assumption)
                obtain ⟨ad109, e109, hx109_0⟩ := Kd.at_int HR0.out a1 p109 q109
                cases e109
                replace hx109_0 := (HB.out.cell (World.block_lt_of_cell? w _ hx109_0)).trans hx109_0
                replace p109 := eq_true p109
                replace q109 := eq_true q109
                go_wp2
                go_ret3
                exact ⟨by first | rfl | (simp [errW_none, errW_some] <;> rfl) | (simp [*, errW_none, errW_some] <;> rfl), bB_⟩
              · rw [if_neg c9] at H
                have c9b0 : decide (1 < (rd l0 a1)) = false := decide_eq_false c9
                clear c9
                simp only [Option.some.injEq, Prod.mk.injEq] at H
                obtain ⟨rfl, rfl, rfl⟩ := H
                have p109 : 0 ≤ (a1 : Int) := of_decide_eq_true (by first | (with_reducible assumption) | assumption)
                have q109 : a1 < (l0.length : Int) := of_decide_eq_true (by first | (with_reducible assumption) | assumption)
                obtain ⟨ad109, e109, hx109_0⟩ := Kd.at_int HR0.out a1 p109 q109
                cases e109
                replace hx109_0 := (HB.out.cell (World.block_lt_of_cell? w _ hx109_0)).trans hx109_0
                replace p109 := eq_true p109
                replace q109 := eq_true q109
                have p110 : 0 ≤ (a1 : Int) := of_decide_eq_true (by first | (with_reducible assumption) | assumption)
                have q110 : a1 < (l0.length : Int) := of_decide_eq_true (by first | (with_reducible assumption) | assumption)
                obtain ⟨ad110, e110, hx110_0⟩ := Kd.at_int HR0.out a1 p110 q110
                obtain rfl : ad109 = ad110 := (by injection e110)
                replace hx110_0 := (HB.out.cell (World.block_lt_of_cell? w _ hx110_0)).trans hx110_0
                replace p110 := eq_true p110
                replace q110 := eq_true q110
                go_wp2
                go_ret3
                exact ⟨by first | rfl | (simp [errW_none, errW_some] <;> rfl) | (simp [*, errW_none, errW_some] <;> rfl), bB_⟩
            · rw [if_neg c8] at H
              exact absurd H (by simp)
          · rw [if_neg c7] at H
            exact absurd H (by simp)

end Go.Proofs.Ytdgolbknbohoeaa.P
