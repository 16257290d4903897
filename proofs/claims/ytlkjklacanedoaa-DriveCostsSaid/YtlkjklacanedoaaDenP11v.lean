/- What functions of layer 11 compute: the operations of a drive. -/
import Derived.Test.YtlkjklacanedoaaDenP11u
namespace Go.Proofs.Ytlkjklacanedoaa.Den.G11
open Go.Proofs.Ytlkjklacanedoaa.Den Go
set_option linter.unusedVariables false
set_option linter.unusedSectionVars false
set_option linter.unusedSimpArgs false
variable {D : Nat} [hBig : Big D]
abbrev Ret := Drv × Cart × Int × Int
theorem fst1_0 {m : Mdl} {v : Drv} {c : Cart} (h : fst1 m v c = 0) : okM m = true ∧ okD v = true ∧ okCart c = true ∧ v.1 = 1 ∧ v.2.1 = c.1 ∧ 0 ≤ v.2.2.1 ∧ v.2.2.1 ≤ (c.2.2.2.2.1.length : Int) := by
  unfold fst1 at h
  by_cases a1 : okM m = true
  rotate_left
  · simp [a1] at h
  by_cases a2 : okD v = true
  rotate_left
  · simp [a1, a2] at h
  by_cases a3 : okCart c = true
  rotate_left
  · simp [a1, a2, a3] at h
  rw [if_neg (by simp [a1]), if_neg (by simp [a2]), if_neg (by simp [a3])] at h
  have hd := a2
  simp only [okD, Bool.and_eq_true, decide_eq_true_eq] at hd
  obtain ⟨⟨⟨⟨⟨d1, d2⟩, d3⟩, d4⟩, d5⟩, d6⟩ := hd
  split at h
  · cases h
  rename_i q1
  split at h
  · cases h
  rename_i q2
  split at h
  · cases h
  rename_i q3
  split at h
  · cases h
  rename_i q4
  exact ⟨a1, a2, a3, by omega, by simpa using q3, d5.1, by omega⟩
/-- The error of loading. -/
def le (m : Mdl) (v : Drv) (c : Cart) : Int :=
  if okM m = false then 8 else if okD v = false then 8 else if okCart c = false then 8 else if v.1 = 2 then 16 else if v.1 = 1 then 14 else if due m v = true then 13 else 0
def LoadP (m : Mdl) (v : Drv) (c : Cart) : Ret :=
  if le m v c = 0 then ((1, c.1, 0, mo v.2.2.2.1 1, v.2.2.2.2), (c.1, c.2.1, c.2.2.1, c.2.2.2.1, c.2.2.2.2.1, c.2.2.2.2.2.1, mo c.2.2.2.2.2.2.1 1, c.2.2.2.2.2.2.2), m.1, 0) else (zD, zC, 0, le m v c)
theorem le_ok {m : Mdl} {v : Drv} {c : Cart} (h : le m v c = 0) : okCart c = true := by
  unfold le at h
  by_cases a1 : okM m = true
  rotate_left
  · simp [a1] at h
  by_cases a2 : okD v = true
  rotate_left
  · simp [a1, a2] at h
  by_cases a3 : okCart c = true
  · exact a3
  · simp [a1, a2, a3] at h
theorem load_eq {m : Mdl} {v : Drv} {c : Cart} (h1 : c.2.2.2.2.1.length ≤ 9000) (h2 : c.1.size < D ∧ c.1.size ≤ 9223372036854775807) : drive_Load D m v c = some (LoadP m v c) := by
  have hD := hBig.h
  have key : ∀ e : Int, (e = 0 → okCart c = true) → (some (e, m, v, c, zD, zC) : Option (Int × Mdl × Drv × Cart × Drv × Cart)).bind (fun y6 =>
      if (!decide (y6.1 = 0)) = true then some (zD, zC, 0, y6.1) else
       (drive_own D y6.2.2.2.1).bind fun r7 => (drive_more D y6.2.2.1.2.2.2.1 1).bind fun r8 => (drive_more D r7.2.2.2.2.2.2.1 1).bind fun r9 =>
       some ((1, r7.1, 0, r8, y6.2.2.1.2.2.2.2), (r7.1, r7.2.1, r7.2.2.1, r7.2.2.2.1, r7.2.2.2.2.1, r7.2.2.2.2.2.1, r9, r7.2.2.2.2.2.2.2), y6.2.1.1, 0))
      = some (if e = 0 then ((1, c.1, 0, mo v.2.2.2.1 1, v.2.2.2.2), (c.1, c.2.1, c.2.2.1, c.2.2.2.1, c.2.2.2.2.1, c.2.2.2.2.2.1, mo c.2.2.2.2.2.2.1 1, c.2.2.2.2.2.2.2), m.1, 0) else (zD, zC, 0, e)) := by
    intro e he
    simp only [Option.bind_some]
    by_cases h : e = 0
    · obtain ⟨d1, d2⟩ := okCart_data (he h)
      rw [decide_eq_true h, if_pos h, if_neg (by simp), own_eq h1 d2]
      rfl
    · rw [decide_eq_false h, if_neg h, if_pos (by simp)]
  unfold drive_Load LoadP
  simp only [sound_eq, dvalid_eq, valid_eq h1 h2, due_eq, Option.bind_some, decide_eq_true_eq]
  refine Eq.trans (congrArg (fun z => Option.bind z _) (?inner : _ = some (le m v c, m, v, c, zD, zC))) (key _ le_ok)
  unfold le
  by_cases a1 : okM m = true
  rotate_left
  · simp [a1]
  by_cases a2 : okD v = true
  rotate_left
  · simp [a1, a2]
  by_cases a3 : okCart c = true
  rotate_left
  · simp [a1, a2, a3]
  simp only [a1, a2, a3, Bool.not_true, Bool.false_eq_true, Bool.true_eq_false, if_false]
  by_cases q1 : v.1 = 2
  · rw [if_pos q1, if_pos q1]
  · rw [if_neg q1, if_neg q1]
    by_cases q2 : v.1 = 1
    · rw [if_pos q2, if_pos q2]
    · rw [if_neg q2, if_neg q2]
      cases due m v <;> rfl
theorem rload_eq {m : Mdl} {v : Drv} {c : Cart} (h1 : c.2.2.2.2.1.length ≤ 9000) (h2 : c.1.size < D ∧ c.1.size ≤ 9223372036854775807) : tapearchiveref11_Load D m v c = some (LoadP m v c) := by
  have hD := hBig.h
  have key : ∀ e : Int, (some (e, m, v, c, zD, zC) : Option (Int × Mdl × Drv × Cart × Drv × Cart)).bind (fun y6 =>
      if (!decide (y6.1 = 0)) = true then some (zD, zC, 0, y6.1) else
       (tapearchiveref11_more D y6.2.2.1.2.2.2.1 1).bind fun r7 => (tapearchiveref11_more D y6.2.2.2.1.2.2.2.2.2.2.1 1).bind fun r8 =>
       some ((1, y6.2.2.2.1.1, 0, r7, y6.2.2.1.2.2.2.2), (y6.2.2.2.1.1, y6.2.2.2.1.2.1, y6.2.2.2.1.2.2.1, y6.2.2.2.1.2.2.2.1, y6.2.2.2.1.2.2.2.2.1, y6.2.2.2.1.2.2.2.2.2.1, r8, y6.2.2.2.1.2.2.2.2.2.2.2), y6.2.1.1, 0))
      = some (if e = 0 then ((1, c.1, 0, mo v.2.2.2.1 1, v.2.2.2.2), (c.1, c.2.1, c.2.2.1, c.2.2.2.1, c.2.2.2.2.1, c.2.2.2.2.2.1, mo c.2.2.2.2.2.2.1 1, c.2.2.2.2.2.2.2), m.1, 0) else (zD, zC, 0, e)) := by
    intro e
    simp only [Option.bind_some]
    by_cases h : e = 0
    · rw [decide_eq_true h, if_pos h, if_neg (by simp)]; rfl
    · rw [decide_eq_false h, if_neg h, if_pos (by simp)]
  unfold tapearchiveref11_Load LoadP
  simp only [model_eq, rdrive_eq, rvalid_eq h1 h2, rdue_eq, Option.bind_some, decide_eq_true_eq]
  refine Eq.trans (congrArg (fun z => Option.bind z _) (?inner : _ = some (le m v c, m, v, c, zD, zC))) (key _)
  unfold le
  by_cases a1 : okM m = true
  rotate_left
  · simp [a1]
  by_cases a2 : okD v = true
  rotate_left
  · simp [a1, a2]
  by_cases a3 : okCart c = true
  rotate_left
  · simp [a1, a2, a3]
  simp only [a1, a2, a3, Bool.not_true, Bool.false_eq_true, Bool.true_eq_false, if_false]
  by_cases q1 : v.1 = 2
  · rw [if_pos q1, if_pos q1]
  · rw [if_neg q1, if_neg q1]
    by_cases q2 : v.1 = 1
    · rw [if_pos q2, if_pos q2]
    · rw [if_neg q2, if_neg q2]
      cases due m v <;> rfl
def UnloadP (m : Mdl) (v : Drv) (c : Cart) : Ret :=
  if fst1 m v c = 0 then ((0, ⟨#[]⟩, (mv v c 0).1.2.2), (mv v c 0).2, IntKind.i64.wrap (lG c.2.1 v.2.2.1 0 + m.2.1), 0) else (zD, zC, 0, fst1 m v c)
theorem unload_eq {m : Mdl} {v : Drv} {c : Cart} (h1 : c.2.2.2.2.1.length ≤ 9000) (h2 : c.1.size < D ∧ c.1.size ≤ 9223372036854775807) : drive_Unload D m v c = some (UnloadP m v c) := by
  have hD := hBig.h
  unfold drive_Unload drive_after_drive_Unload_1 UnloadP
  rw [first_eq h1 h2]
  simp only [Option.bind_some]
  by_cases h : fst1 m v c = 0
  · obtain ⟨d1, d2⟩ := okCart_data (fst1_0 h).2.2.1
    rw [decide_eq_true h, if_neg (by simp), if_pos h, own_eq h1 d2]
    simp only [Option.bind_some, drive_Unload_1, locG, moved_eq, decide_true, Bool.not_true, Bool.false_eq_true, if_false]
  · rw [decide_eq_false h, if_pos (by simp), if_neg h]; rfl
theorem runload_eq {m : Mdl} {v : Drv} {c : Cart} (h1 : c.2.2.2.2.1.length ≤ 9000) (h2 : c.1.size < D ∧ c.1.size ≤ 9223372036854775807) : tapearchiveref11_Unload D m v c = some (UnloadP m v c) := by
  have hD := hBig.h
  unfold tapearchiveref11_Unload UnloadP
  rw [rfirst_eq h1 h2]
  simp only [Option.bind_some]
  by_cases h : fst1 m v c = 0
  · rw [decide_eq_true h, if_neg (by simp), if_pos h]
    simp only [Option.bind_some, rlocG, rmoved_eq]
  · rw [decide_eq_false h, if_pos (by simp), if_neg h]
/-- The error of seeking. -/
def se (m : Mdl) (v : Drv) (c : Cart) (t : Int) : Int := if fst1 m v c = 0 then (if t < 0 ∨ t > (c.2.2.2.2.1.length : Int) then 7 else 0) else fst1 m v c
def SeekP (m : Mdl) (v : Drv) (c : Cart) (t : Int) : Ret :=
  if se m v c t = 0 then ((mv v c t).1, (mv v c t).2, lG c.2.1 v.2.2.1 t, 0) else (zD, zC, 0, se m v c t)
theorem seek_eq {m : Mdl} {v : Drv} {c : Cart} (h1 : c.2.2.2.2.1.length ≤ 9000) (h2 : c.1.size < D ∧ c.1.size ≤ 9223372036854775807) (t : Int) : drive_Seek D m v c t = some (SeekP m v c t) := by
  have hD := hBig.h
  unfold drive_Seek drive_after_drive_Seek_1 SeekP
  rw [first_eq h1 h2]
  simp only [Option.bind_some]
  by_cases h : fst1 m v c = 0
  · obtain ⟨d1, d2⟩ := okCart_data (fst1_0 h).2.2.1
    rw [decide_eq_true h, if_neg (by simp), own_eq h1 d2]
    simp only [Option.bind_some, drive_Seek_1, locG, moved_eq, in_eq]
    by_cases q : t < 0 ∨ t > (c.2.2.2.2.1.length : Int)
    · have hse : se m v c t = 7 := by unfold se; rw [if_pos h, if_pos q]
      rw [decide_eq_false (show ¬ (0 ≤ t ∧ t ≤ (c.2.2.2.2.1.length : Int)) by omega), hse]; rfl
    · have hse : se m v c t = 0 := by unfold se; rw [if_pos h, if_neg q]
      rw [decide_eq_true (show 0 ≤ t ∧ t ≤ (c.2.2.2.2.1.length : Int) by omega), hse]; rfl
  · have : se m v c t = fst1 m v c := by unfold se; rw [if_neg h]
    rw [decide_eq_false h, if_pos (by simp), this, if_neg h]; rfl
theorem rseek_eq {m : Mdl} {v : Drv} {c : Cart} (h1 : c.2.2.2.2.1.length ≤ 9000) (h2 : c.1.size < D ∧ c.1.size ≤ 9223372036854775807) (t : Int) : tapearchiveref11_Seek D m v c t = some (SeekP m v c t) := by
  have hD := hBig.h
  unfold tapearchiveref11_Seek SeekP
  rw [rfirst_eq h1 h2]
  simp only [Option.bind_some, decide_eq_true_eq]
  by_cases h : fst1 m v c = 0
  · rw [if_pos h]
    by_cases q1 : t < 0
    · have hse : se m v c t = 7 := by unfold se; rw [if_pos h, if_pos (Or.inl q1)]
      rw [if_pos q1, hse]; rfl
    · rw [if_neg q1]
      by_cases q2 : t > (c.2.2.2.2.1.length : Int)
      · have hse : se m v c t = 7 := by unfold se; rw [if_pos h, if_pos (Or.inr q2)]
        rw [if_pos q2, hse]; rfl
      · have hse : se m v c t = 0 := by unfold se; rw [if_pos h, if_neg (fun e => e.elim q1 q2)]
        rw [if_neg q2, hse]
        simp only [Option.bind_some, h, decide_true, Bool.not_true, Bool.false_eq_true, if_false, rlocG, rmoved_eq, if_true]
  · have : se m v c t = fst1 m v c := by unfold se; rw [if_neg h]
    rw [if_neg h, this, if_neg h]
    simp only [Option.bind_some]
    rw [decide_eq_false h, if_pos (by simp)]
/-- The error of reading, before it begins. -/
def re (m : Mdl) (v : Drv) (c : Cart) (n : Int) : Int := if fst1 m v c = 0 then (if n < 1 ∨ n > (c.2.2.2.2.1.length : Int) - v.2.2.1 then 7 else 0) else fst1 m v c
/-- What is read. -/
def rr (v : Drv) (c : Cart) (n : Int) : List Blk × Int := rd (c.2.2.2.2.1.drop v.2.2.1.toNat) n.toNat
def ReadP (m : Mdl) (v : Drv) (c : Cart) (n : Int) : Drv × Cart × List Blk × Int × Int :=
  if re m v c n = 0 then ((mv v c (v.2.2.1 + (rr v c n).1.length)).1, (mv v c (v.2.2.1 + (rr v c n).1.length)).2, (rr v c n).1, rG c.2.1 v.2.2.1 (rr v c n).1.length, (rr v c n).2) else (zD, zC, [], 0, re m v c n)
theorem rd_code : ∀ (l : List Blk) (n : Nat), n ≤ l.length → (rd l n).2 = (if (rd l n).1.length < n then 15 else 0) ∧ (rd l n).1.length ≤ n
  | _, 0, _ => by simp [rd]
  | [], n + 1, h => by simp at h
  | b :: l, n + 1, h => by
    unfold rd
    by_cases c : b.2.1 = true
    · rw [if_pos c]; simp
    · rw [if_neg c]
      have := rd_code l n (by simpa using h)
      simp only [List.length_cons, Nat.add_lt_add_iff_right]
      exact ⟨this.1, by omega⟩
theorem read11_eq {m : Mdl} {v : Drv} {c : Cart} (h1 : c.2.2.2.2.1.length ≤ 9000) (h2 : c.1.size < D ∧ c.1.size ≤ 9223372036854775807) (n : Int) (hn : n ≤ 9223372036854775807) : drive_Read D m v c n = some (ReadP m v c n) := by
  have hD := hBig.h
  unfold drive_Read drive_after_drive_Read_1 ReadP
  rw [first_eq h1 h2]
  simp only [Option.bind_some]
  by_cases h : fst1 m v c = 0
  · obtain ⟨_, _, k3, _, _, k6, k7⟩ := fst1_0 h
    obtain ⟨d1, d2⟩ := okCart_data k3
    rw [decide_eq_true h, if_neg (by simp), own_eq h1 d2]
    simp only [Option.bind_some, drive_Read_1, decide_eq_true_eq]
    rw [w64 (x := (c.2.2.2.2.1.length : Int) - v.2.2.1) (by omega) (by omega)]
    by_cases q1 : n < 1
    · have hre : re m v c n = 7 := by unfold re; rw [if_pos h, if_pos (Or.inl q1)]
      rw [if_pos q1, hre]; rfl
    · rw [if_neg q1]
      by_cases q2 : n > (c.2.2.2.2.1.length : Int) - v.2.2.1
      · have hre : re m v c n = 7 := by unfold re; rw [if_pos h, if_pos (Or.inr q2)]
        rw [if_pos q2, hre]; rfl
      · have hre : re m v c n = 0 := by unfold re; rw [if_pos h, if_neg (fun e => e.elim q1 q2)]
        have hR : R c (v.2.2.1, n) = rr v c n := by
          unfold R rr
          rw [if_neg (by simp [k3]), if_neg (by simp only; omega)]
        have hc := rd_code (c.2.2.2.2.1.drop v.2.2.1.toNat) n.toNat (by rw [List.length_drop]; omega)
        have hc : (rr v c n).2 = (if (rr v c n).1.length < n.toNat then 15 else 0) ∧ (rr v c n).1.length ≤ n.toNat := hc
        rw [if_neg q2, hre, if_pos rfl]
        simp only [Option.bind_some, read_eq h1 h2, hR, drive_done_passed, rdG, moved_eq]
        rw [w64 (x := v.2.2.1 + ((rr v c n).1.length : Int)) (by omega) (by omega)]
        by_cases q3 : (rr v c n).1.length < n.toNat
        · rw [if_pos q3] at hc
          rw [hc.1]; rfl
        · rw [if_neg q3] at hc
          rw [hc.1]; rfl
  · have : re m v c n = fst1 m v c := by unfold re; rw [if_neg h]
    rw [decide_eq_false h, if_pos (by simp), this, if_neg h]; rfl
theorem rRead11_l0 (v : Drv) (c : Cart) (z1 : Drv) (z2 : Cart) (e : Int) (n : Int) (h0 : 0 ≤ v.2.2.1) (h1 : c.2.2.2.2.1.length ≤ 9000) (hd : ∀ b ∈ c.2.2.2.2.1, b.2.2.length ≤ 1000) (hn : n ≤ (c.2.2.2.2.1.length : Int) - v.2.2.1) : ∀ (m k : Nat) (acc : List Blk), (acc.length : Int) + m = n → m < k →
    tapearchiveref11_Read_l0 D k n e v c z1 z2 acc = some (n, e, v, c, z1, z2, acc ++ (rd (c.2.2.2.2.1.drop (v.2.2.1 + acc.length).toNat) m).1) := by
  have hD := hBig.h
  intro m
  induction m with
  | zero =>
    intro k acc ha hk
    obtain ⟨k, rfl⟩ : ∃ j, k = j + 1 := ⟨k - 1, by omega⟩
    simp only [tapearchiveref11_Read_l0, decide_eq_true_eq]
    rw [if_neg (by omega)]
    simp [rd]
  | succ m ih =>
    intro k acc ha hk
    obtain ⟨k, rfl⟩ : ∃ j, k = j + 1 := ⟨k - 1, by omega⟩
    have hb : (0 : Int) ≤ v.2.2.1 + (acc.length : Int) ∧ v.2.2.1 + (acc.length : Int) < (c.2.2.2.2.1.length : Int) := by omega
    have hm : c.2.2.2.2.1.getD (v.2.2.1 + (acc.length : Int)).toNat zBlock ∈ c.2.2.2.2.1 := mem_getD hb.1 hb.2
    have hdb := hd _ hm
    rw [drop_getD zBlock hb.1 hb.2]
    simp only [tapearchiveref11_Read_l0, decide_eq_true_eq]
    rw [if_pos (by omega), w64 (x := v.2.2.1 + (acc.length : Int)) (by omega) (by omega), if_pos hb]
    unfold rd
    by_cases c1 : (c.2.2.2.2.1.getD (v.2.2.1 + (acc.length : Int)).toNat zBlock).2.1 = true
    · rw [c1, if_neg (by simp), if_pos rfl]
      simp
    · rw [Bool.eq_false_iff.2 c1, if_pos (by simp), if_neg (by simp)]
      simp only [Option.bind_some]
      rw [w64 (x := v.2.2.1 + (acc.length : Int)) (by omega) (by omega), if_pos hb, if_pos (by omega), if_pos (by simp only [List.length_singleton]; omega), List.nil_append]
      have e1 : ((c.2.2.2.2.1.getD (v.2.2.1 + (acc.length : Int)).toNat zBlock).1, (c.2.2.2.2.1.getD (v.2.2.1 + (acc.length : Int)).toNat zBlock).2.1, (c.2.2.2.2.1.getD (v.2.2.1 + (acc.length : Int)).toNat zBlock).2.2) = c.2.2.2.2.1.getD (v.2.2.1 + (acc.length : Int)).toNat zBlock := rfl
      rw [e1, ih k (acc ++ [c.2.2.2.2.1.getD (v.2.2.1 + (acc.length : Int)).toNat zBlock]) (by rw [List.length_append, List.length_singleton]; omega) (by omega)]
      rw [List.length_append, List.length_singleton, show v.2.2.1 + ((acc.length + 1 : Nat) : Int) = v.2.2.1 + (acc.length : Int) + 1 by omega, List.append_assoc, List.singleton_append]
theorem rread11_eq {m : Mdl} {v : Drv} {c : Cart} (h1 : c.2.2.2.2.1.length ≤ 9000) (h2 : c.1.size < D ∧ c.1.size ≤ 9223372036854775807) (n : Int) (hn : n ≤ 9223372036854775807) : tapearchiveref11_Read D m v c n = some (ReadP m v c n) := by
  have hD := hBig.h
  unfold tapearchiveref11_Read ReadP
  rw [rfirst_eq h1 h2]
  simp only [Option.bind_some, decide_eq_true_eq]
  by_cases h : fst1 m v c = 0
  · obtain ⟨_, _, k3, _, _, k6, k7⟩ := fst1_0 h
    obtain ⟨d1, d2⟩ := okCart_data k3
    rw [w64 (x := (c.2.2.2.2.1.length : Int) - v.2.2.1) (by omega) (by omega)]
    rw [if_pos h]
    by_cases q1 : n < 1
    · have hre : re m v c n = 7 := by unfold re; rw [if_pos h, if_pos (Or.inl q1)]
      rw [if_pos q1, hre]; rfl
    · rw [if_neg q1]
      by_cases q2 : n > (c.2.2.2.2.1.length : Int) - v.2.2.1
      · have hre : re m v c n = 7 := by unfold re; rw [if_pos h, if_pos (Or.inr q2)]
        rw [if_pos q2, hre]; rfl
      · have hre : re m v c n = 0 := by unfold re; rw [if_pos h, if_neg (fun e => e.elim q1 q2)]
        have hc := rd_code (c.2.2.2.2.1.drop v.2.2.1.toNat) n.toNat (by rw [List.length_drop]; omega)
        have hc : (rr v c n).2 = (if (rr v c n).1.length < n.toNat then 15 else 0) ∧ (rr v c n).1.length ≤ n.toNat := hc
        have hl := rRead11_l0 (D := D) v c zD zC 0 n k6 h1 d2 (by omega) n.toNat D [] (by simp; omega) (by omega)
        rw [List.nil_append, List.length_nil, show v.2.2.1 + ((0 : Nat) : Int) = v.2.2.1 by omega] at hl
        have hl : tapearchiveref11_Read_l0 D D n 0 v c zD zC [] = some (n, 0, v, c, zD, zC, (rr v c n).1) := hl
        rw [if_neg q2, hre, if_pos rfl, h]
        simp only [Option.bind_some, decide_true, Bool.not_true, Bool.false_eq_true, if_false]
        rw [show ((0, ByteArray.empty, 0, 0, 0, 0) : Drv) = zD from rfl, show ((ByteArray.empty, (0, 0, 0, 0, 0, 0), false, false, [], 0, 0, 0) : Cart) = zC from rfl, hl]
        simp only [Option.bind_some]
        by_cases q3 : (rr v c n).1.length < n.toNat
        · rw [if_pos q3] at hc
          rw [if_pos (by omega), hc.1]
          simp only [Option.bind_some, rrdG, rmoved_eq]
          rw [w64 (x := v.2.2.1 + ((rr v c n).1.length : Int)) (by omega) (by omega)]
        · rw [if_neg q3] at hc
          rw [if_neg (by omega), hc.1]
          simp only [Option.bind_some, rrdG, rmoved_eq]
          rw [w64 (x := v.2.2.1 + ((rr v c n).1.length : Int)) (by omega) (by omega)]
  · have : re m v c n = fst1 m v c := by unfold re; rw [if_neg h]
    rw [if_neg h, this, if_neg h]
    simp only [Option.bind_some]
    rw [decide_eq_false h, if_pos (by simp)]
/-- The error of writing. -/
def we (m : Mdl) (v : Drv) (c : Cart) (l : List Blk) : Int := if fst1 m v c = 0 then (if worn m c = true then 17 else if l = [] then 8 else wcode c v.2.2.1 l) else fst1 m v c
def WriteP (m : Mdl) (v : Drv) (c : Cart) (l : List Blk) : Ret :=
  if we m v c l = 0 then ((mv v (W c v.2.2.1 l).1 (v.2.2.1 + l.length)).1, (mv v (W c v.2.2.1 l).1 (v.2.2.1 + l.length)).2, rG c.2.1 v.2.2.1 l.length, 0) else (zD, zC, 0, we m v c l)
theorem wcode_15 (c : Cart) (a : Int) (l : List Blk) : wcode c a l ≠ 15 := by
  unfold wcode
  repeat' split
  all_goals decide
theorem write11_eq {m : Mdl} {v : Drv} {c : Cart} (h1 : c.2.2.2.2.1.length ≤ 9000) (h2 : c.1.size < D ∧ c.1.size ≤ 9223372036854775807) {l : List Blk} (hl : l.length ≤ 4000) : drive_Write D m v c l = some (WriteP m v c l) := by
  have hD := hBig.h
  unfold drive_Write drive_after_drive_Write_1 WriteP
  rw [first_eq h1 h2]
  simp only [Option.bind_some]
  by_cases h : fst1 m v c = 0
  · obtain ⟨_, _, k3, _, _, k6, k7⟩ := fst1_0 h
    obtain ⟨d1, d2⟩ := okCart_data k3
    rw [decide_eq_true h, if_neg (by simp), own_eq h1 d2]
    simp only [Option.bind_some, drive_Write_1, worn_eq, decide_eq_true_eq]
    simp only [we, if_pos h]
    by_cases q1 : worn m c = true
    · simp [q1]
    · rw [if_neg q1, if_neg q1]
      by_cases q2 : l = []
      · subst q2; simp
      · have hne : ¬ ((l.length : Int) = 0) := by
          intro h; exact q2 (List.eq_nil_of_length_eq_zero (by omega))
        rw [if_neg hne, if_neg q2, write_eq h1 h2 (by omega)]
        simp only [Option.bind_some]
        by_cases q3 : wcode c v.2.2.1 l = 0
        · have hW : W c v.2.2.1 l = (withB c (if l = [] then c.2.2.2.2.1 else c.2.2.2.2.1.take v.2.2.1.toNat ++ l), 0) := by unfold W; rw [if_pos q3]
          have hg : (W c v.2.2.1 l).1.2.1 = c.2.1 := by rw [hW]; rfl
          have h20 : (W c v.2.2.1 l).2 = 0 := by rw [hW]
          rw [if_pos h20, if_pos q3]
          simp only [Option.bind_some, drive_done_passed, rdG, moved_eq, hg, h20]
          rw [w64 (x := v.2.2.1 + (l.length : Int)) (by omega) (by omega)]
          rfl
        · have hW : W c v.2.2.1 l = (zC, wcode c v.2.2.1 l) := by unfold W; rw [if_neg q3]
          rw [hW]
          rw [if_neg q3, if_neg q3]
          simp only [Option.bind_some]
          rw [decide_eq_false q3, decide_eq_false (wcode_15 c v.2.2.1 l)]
          rfl
  · have : we m v c l = fst1 m v c := by unfold we; rw [if_neg h]
    rw [decide_eq_false h, if_pos (by simp), this, if_neg h]; rfl
theorem rwrite11_eq {m : Mdl} {v : Drv} {c : Cart} (h1 : c.2.2.2.2.1.length ≤ 9000) (h2 : c.1.size < D ∧ c.1.size ≤ 9223372036854775807) {l : List Blk} (hl : l.length ≤ 4000) : tapearchiveref11_Write D m v c l = some (WriteP m v c l) := by
  have hD := hBig.h
  unfold tapearchiveref11_Write WriteP
  rw [rfirst_eq h1 h2]
  simp only [Option.bind_some, decide_eq_true_eq, rworn_eq]
  by_cases h : fst1 m v c = 0
  · obtain ⟨_, _, k3, _, _, k6, k7⟩ := fst1_0 h
    simp only [we, if_pos h, h]
    by_cases q1 : worn m c = true
    · simp [q1]
    · rw [if_neg q1, if_neg q1]
      by_cases q2 : l = []
      · subst q2; simp
      · have hne : ¬ ((l.length : Int) = 0) := by
          intro h; exact q2 (List.eq_nil_of_length_eq_zero (by omega))
        simp only [Option.bind_some, if_true]
        rw [if_neg hne, if_neg q2]
        simp only [Option.bind_some, decide_true, Bool.not_true, Bool.false_eq_true, if_false, rwrite_eq h1 h2 (show l.length ≤ 9000 by omega)]
        by_cases q3 : wcode c v.2.2.1 l = 0
        · have h20 : (W c v.2.2.1 l).2 = 0 := by unfold W; rw [if_pos q3]
          rw [decide_eq_true h20, if_neg (by simp), if_pos q3]
          simp only [Option.bind_some, rrdG, rmoved_eq]
          rw [w64 (x := v.2.2.1 + (l.length : Int)) (by omega) (by omega)]
        · have hW : (W c v.2.2.1 l).2 = wcode c v.2.2.1 l := by unfold W; rw [if_neg q3]
          rw [hW, decide_eq_false q3, if_pos (by simp), if_neg q3]
  · have : we m v c l = fst1 m v c := by unfold we; rw [if_neg h]
    rw [if_neg h, this, if_neg h]
    simp only [Option.bind_some]
    rw [if_neg h]
    simp only [Option.bind_some]
    rw [decide_eq_false h, if_pos (by simp)]
/-- The error of cleaning. -/
def ce (m : Mdl) (v : Drv) : Int := if okM m = false then 8 else if okD v = false then 8 else if v.1 = 2 then 16 else if v.1 = 1 then 14 else 0
def CleanP (m : Mdl) (v : Drv) : Drv × Int × Int :=
  if ce m v = 0 then ((v.1, v.2.1, v.2.2.1, v.2.2.2.1, v.2.2.2.2.1, 0), m.2.2.1, 0) else (zD, 0, ce m v)
theorem clean_eq (m : Mdl) (v : Drv) : drive_Clean D m v = some (CleanP m v) := by
  have hD := hBig.h
  unfold drive_Clean CleanP
  simp only [sound_eq, dvalid_eq, Option.bind_some, decide_eq_true_eq, Bool.not_eq_true']
  unfold ce
  repeat' split
  all_goals first | rfl | simp_all
theorem rclean_eq (m : Mdl) (v : Drv) : tapearchiveref11_Clean D m v = some (CleanP m v) := by
  have hD := hBig.h
  unfold tapearchiveref11_Clean CleanP
  simp only [model_eq, rdrive_eq, Option.bind_some, decide_eq_true_eq, Bool.not_eq_true']
  unfold ce
  repeat' split
  all_goals first | rfl | simp_all
end Go.Proofs.Ytlkjklacanedoaa.Den.G11
