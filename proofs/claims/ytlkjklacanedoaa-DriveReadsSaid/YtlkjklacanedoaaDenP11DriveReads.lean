/- The law DriveReads holds of the plain functions, for any cartridge, place and blocks. -/
import Derived.Test.YtlkjklacanedoaaDenS26
import Derived.Test.YtlkjklacanedoaaDenP11y
set_option linter.unusedVariables false
namespace Go.Proofs.Ytlkjklacanedoaa.Den.G11
open Go.Proofs.Ytlkjklacanedoaa.Den Go
theorem se_0 {m : Mdl} {v : Drv} {c : Cart} {t : Int} (h : se m v c t = 0) : fst1 m v c = 0 ∧ 0 ≤ t ∧ t ≤ (c.2.2.2.2.1.length : Int) := by
  unfold se at h
  by_cases h1 : fst1 m v c = 0
  · rw [if_pos h1] at h
    by_cases h2 : t < 0 ∨ t > (c.2.2.2.2.1.length : Int)
    · rw [if_pos h2] at h; cases h
    · exact ⟨h1, by omega, by omega⟩
  · rw [if_neg h1] at h; exact absurd h h1
theorem se_mk {m : Mdl} {v : Drv} {c : Cart} {t : Int} (h1 : fst1 m v c = 0) (h2 : 0 ≤ t) (h3 : t ≤ (c.2.2.2.2.1.length : Int)) : se m v c t = 0 := by
  unfold se; rw [if_pos h1, if_neg (by omega)]
theorem pure_DriveReads : ∀ (a0 : Int × Int × Int × Int × Int) (a1 : ByteArray × (Int × Int × Int × Int × Int × Int) × Bool × Bool × (List (Bool × Bool × List Int)) × Int × Int × Int) (a2 : Int) (a3 : List (Bool × Bool × List Int)), OkT kDriveModel a0 → OkT kCartridge a1 → OkT (.int .i64) a2 → OkT (.slice kBlock) a3 → ∃ d, tapearchivelaw11_DriveReads d a0 a1 a2 a3 = some true := by
  intro m c t l _ hc _ _
  have hsz : c.1.size ≤ maxLen := hc.1
  simp only [maxLen] at hsz
  haveI hBig : Big (10000 + c.1.size) := ⟨by omega⟩
  refine ⟨10000 + c.1.size, ?_⟩
  unfold tapearchivelaw11_DriveReads
  rw [lives_eq]
  simp only [Option.bind_some, Bool.not_true, Bool.false_eq_true, if_false]
  rcases few_eq (D := 10000 + c.1.size) [c] [(0, 0, 0, l)] 1 (by omega) with h | ⟨h, _, _, h3, h4⟩
  · rw [h]; rfl
  rw [h]
  have hl := h3 c (by simp)
  have hls : Lt l := h4 (0, 0, 0, l) (by simp)
  have hG : GI (10000 + c.1.size) c := GI_lt hl (by omega)
  simp only [Option.bind_some, Bool.not_true, Bool.false_eq_true, if_false]
  rw [copC_eq hl.len hl.data]
  simp only [Option.bind_some]
  rw [show ((0, ByteArray.empty, 0, 0, 0, 0) : Drv) = zD from rfl, load_eq hl.len hG.2.2]
  simp only [Option.bind_some]
  by_cases h0 : le m zD c = 0
  rotate_left
  · have e : (LoadP m zD c).2.2.2 = le m zD c := by unfold LoadP; rw [if_neg h0]
    rw [e, decide_eq_false h0]; rfl
  -- it is loaded
  have hL : LoadP m zD c = ((1, c.1, 0, mo zD.2.2.2.1 1, zD.2.2.2.2), (c.1, c.2.1, c.2.2.1, c.2.2.2.1, c.2.2.2.2.1, c.2.2.2.2.2.1, mo c.2.2.2.2.2.2.1 1, c.2.2.2.2.2.2.2), m.1, 0) := by unfold LoadP; rw [if_pos h0]
  rw [hL]
  generalize hv1 : ((1, c.1, 0, mo zD.2.2.2.1 1, zD.2.2.2.2) : Drv) = v1
  generalize hc1 : ((c.1, c.2.1, c.2.2.1, c.2.2.2.1, c.2.2.2.2.1, c.2.2.2.2.2.1, mo c.2.2.2.2.2.2.1 1, c.2.2.2.2.2.2.2) : Cart) = c1
  have hb1 : c1.2.2.2.2.1 = c.2.2.2.2.1 := by rw [← hc1]
  have hs1 : c1.1 = c.1 := by rw [← hc1]
  have hlen := hl.1
  simp only [decide_true, Bool.not_true, Bool.false_eq_true, if_false]
  rw [seek_eq (by rw [hb1]; omega) (by rw [hs1]; omega) t]
  simp only [Option.bind_some]
  by_cases hse : se m v1 c1 t = 0
  rotate_left
  · have e : (SeekP m v1 c1 t).2.2.2 = se m v1 c1 t := by unfold SeekP; rw [if_neg hse]
    rw [e, decide_eq_false hse]; rfl
  obtain ⟨f1, t0, t1⟩ := se_0 hse
  have hS : SeekP m v1 c1 t = ((mv v1 c1 t).1, (mv v1 c1 t).2, lG c1.2.1 v1.2.2.1 t, 0) := by unfold SeekP; rw [if_pos hse]
  rw [hS]
  have f2 := fst1_mv (t := t) f1 t0 t1
  generalize hv2 : (mv v1 c1 t).1 = v2 at f2 ⊢
  generalize hc2 : (mv v1 c1 t).2 = c2 at f2 ⊢
  have hb2 : c2.2.2.2.2.1 = c.2.2.2.2.1 := by rw [← hc2]; exact hb1
  have hs2 : c2.1 = c.1 := by rw [← hc2]; exact hs1
  have hh2 : v2.2.2.1 = t := by rw [← hv2]; rfl
  simp only [decide_true, Bool.not_true, Bool.false_eq_true, if_false]
  rw [write11_eq (by rw [hb2]; omega) (by rw [hs2]; omega) (by have := hls.1; omega)]
  simp only [Option.bind_some]
  by_cases hwe : we m v2 c2 l = 0
  rotate_left
  · have e : (WriteP m v2 c2 l).2.2.2 = we m v2 c2 l := by unfold WriteP; rw [if_neg hwe]
    rw [e, decide_eq_false hwe]; rfl
  obtain ⟨_, w2, w3, w4⟩ := we_0 hwe
  obtain ⟨q1, q2, q3, q4, q5, q6, q7⟩ := wcode_0 w4
  obtain ⟨hg, hcc1, hcc2, _⟩ := okCart_g q1
  have hW := W_0 w4
  have hWok := W_ok w4
  have hWr : WriteP m v2 c2 l = ((mv v2 (W c2 v2.2.2.1 l).1 (v2.2.2.1 + l.length)).1, (mv v2 (W c2 v2.2.2.1 l).1 (v2.2.2.1 + l.length)).2, rG c2.2.1 v2.2.2.1 l.length, 0) := by unfold WriteP; rw [if_pos hwe]
  have hWb : (W c2 v2.2.2.1 l).1.2.2.2.2.1 = c.2.2.2.2.1.take t.toNat ++ l := by
    rw [hW]
    show (if l = [] then c2.2.2.2.2.1 else c2.2.2.2.2.1.take v2.2.2.1.toNat ++ l) = _
    rw [if_neg w3, hh2, hb2]
  have hWs : (W c2 v2.2.2.1 l).1.1 = c.1 := by rw [hW]; exact hs2
  have hWl : ((W c2 v2.2.2.1 l).1.2.2.2.2.1.length : Int) = t + l.length := by
    rw [hWb, List.length_append, List.length_take]
    rw [hb1] at t1
    omega
  rw [hWr]
  obtain ⟨k1, k2, k3, k4, k5, k6, k7⟩ := fst1_0 f2
  have hcap : capOfC c2 ≤ 4096 := hcc2
  have f3 : fst1 m (mv v2 (W c2 v2.2.2.1 l).1 (v2.2.2.1 + l.length)).1 (mv v2 (W c2 v2.2.2.1 l).1 (v2.2.2.1 + l.length)).2 = 0 := by
    refine fst1_mk k1 (mv_drv k2 k4 ⟨by omega, by omega⟩) (mv_cart hWok) k4 ?_ ?_
    · show v2.2.1 = (W c2 v2.2.2.1 l).1.1
      rw [k5, hWs, hs2]
    · show v2.2.2.1 + (l.length : Int) ≤ ((W c2 v2.2.2.1 l).1.2.2.2.2.1.length : Int)
      rw [hWl, hh2]; omega
  generalize hv3 : (mv v2 (W c2 v2.2.2.1 l).1 (v2.2.2.1 + l.length)).1 = v3 at f3 ⊢
  generalize hc3 : (mv v2 (W c2 v2.2.2.1 l).1 (v2.2.2.1 + l.length)).2 = c3 at f3 ⊢
  have hb3 : c3.2.2.2.2.1 = c.2.2.2.2.1.take t.toNat ++ l := by rw [← hc3]; exact hWb
  have hs3 : c3.1 = c.1 := by rw [← hc3]; exact hWs
  have hh3 : v3.2.2.1 = t + l.length := by rw [← hv3, ← hh2]; rfl
  have hl3 : (c3.2.2.2.2.1.length : Int) = t + l.length := by rw [← hc3]; exact hWl
  rw [hb1] at t1
  have hll := hls.1
  have htl : (c.2.2.2.2.1.take t.toNat).length = t.toNat := by rw [List.length_take]; omega
  simp only [decide_true, Bool.not_true, Bool.false_eq_true, if_false]
  rw [w64 (x := t + (l.length : Int)) (by omega) (by omega), hh3, hl3]
  simp only [decide_true, Bool.not_true, Bool.false_eq_true, if_false, List.drop_zero, decide_eq_true_eq]
  rw [if_pos (by omega), if_pos (by omega), hb3, show (c.2.2.2.2.1.take t.toNat ++ l).take t.toNat = c.2.2.2.2.1.take t.toNat from by rw [List.take_append_of_le_length (by omega), List.take_take, Nat.min_self]]
  rw [sameBlocks_refl (by omega)]
  simp only [Option.bind_some, Bool.not_true, Bool.false_eq_true, if_false]
  rw [seek_eq (by omega) (by rw [hs3]; omega) t]
  have hse3 : se m v3 c3 t = 0 := se_mk f3 t0 (by omega)
  have hS3 : SeekP m v3 c3 t = ((mv v3 c3 t).1, (mv v3 c3 t).2, lG c3.2.1 v3.2.2.1 t, 0) := by unfold SeekP; rw [if_pos hse3]
  rw [hS3]
  have f4 := fst1_mv (t := t) f3 t0 (by omega)
  generalize hv4 : (mv v3 c3 t).1 = v4 at f4 ⊢
  generalize hc4 : (mv v3 c3 t).2 = c4 at f4 ⊢
  have hb4 : c4.2.2.2.2.1 = c.2.2.2.2.1.take t.toNat ++ l := by rw [← hc4]; exact hb3
  have hs4 : c4.1 = c.1 := by rw [← hc4]; exact hs3
  have hh4 : v4.2.2.1 = t := by rw [← hv4]; rfl
  have hl4 : (c4.2.2.2.2.1.length : Int) = t + l.length := by rw [hb4, ← hb3]; exact hl3
  simp only [Option.bind_some, decide_true, Bool.not_true, Bool.false_eq_true, if_false]
  rw [read11_eq (by omega) (by rw [hs4]; omega) (l.length : Int) (by omega)]
  have hne : 1 ≤ l.length := by
    cases l with
    | nil => exact absurd rfl w3
    | cons b l => simp
  have hre : re m v4 c4 (l.length : Int) = 0 := by
    unfold re
    rw [if_pos f4, if_neg (by rw [hl4, hh4]; omega)]
  have hrr : rr v4 c4 (l.length : Int) = (l, 0) := by
    unfold rr
    rw [hb4, hh4, Int.toNat_natCast, List.drop_append_of_le_length (by omega), List.drop_of_length_le (by omega), List.nil_append]
    exact rd_all l q2
  have hRd : ReadP m v4 c4 (l.length : Int) = ((mv v4 c4 (v4.2.2.1 + (rr v4 c4 l.length).1.length)).1, (mv v4 c4 (v4.2.2.1 + (rr v4 c4 l.length).1.length)).2, (rr v4 c4 l.length).1, rG c4.2.1 v4.2.2.1 (rr v4 c4 l.length).1.length, (rr v4 c4 l.length).2) := by unfold ReadP; rw [if_pos hre]
  rw [hRd, hrr]
  simp only [Option.bind_some, if_true]
  rw [sameBlocks_refl (by omega)]
  simp only [Option.bind_some, if_true]
  have : (mv v4 c4 (v4.2.2.1 + (l.length : Int))).1.2.2.1 = t + l.length := by rw [← hh4]; rfl
  rw [this, w64 (by omega) (by omega), decide_eq_true rfl]
end Go.Proofs.Ytlkjklacanedoaa.Den.G11
