/- What functions of layer 11 compute: validity, motions. -/
import Derived.Test.YtlkjklacanedoaaDenP11t
namespace Go.Proofs.Ytlkjklacanedoaa.Den.G11
open Go.Proofs.Ytlkjklacanedoaa.Den Go
set_option linter.unusedVariables false
set_option linter.unusedSectionVars false
set_option linter.unusedSimpArgs false
variable {D : Nat} [hBig : Big D]
abbrev Mdl := Int × Int × Int × Int × Int
abbrev Drv := Int × ByteArray × Int × Int × Int × Int
abbrev zD : Drv := (0, ByteArray.empty, 0, 0, 0, 0)
def okM (m : Mdl) : Bool := okTm m.1 && okTm m.2.1 && okTm m.2.2.1 && okCnt m.2.2.2.1 && okCnt m.2.2.2.2
def okD (v : Drv) : Bool := decide (0 ≤ v.1 ∧ v.1 ≤ 2) && okCnt v.2.2.2.1 && okCnt v.2.2.2.2.1 && okCnt v.2.2.2.2.2 && decide (0 ≤ v.2.2.1 ∧ v.2.2.1 ≤ 4096) && (decide (¬ v.1 = 0) || (decide (v.2.1 = ⟨#[]⟩) && decide (v.2.2.1 = 0)))
def due (m : Mdl) (v : Drv) : Bool := decide (m.2.2.2.1 > 0 ∧ v.2.2.2.2.2 ≥ m.2.2.2.1)
def worn (m : Mdl) (c : Cart) : Bool := decide (m.2.2.2.2 > 0 ∧ c.2.2.2.2.2.2.2 ≥ m.2.2.2.2)
theorem in_eq (d : Nat) (a b c : Int) : drive_in d a b c = some (decide (b ≤ a ∧ a ≤ c)) := by
  unfold drive_in
  simp only [decide_eq_true_eq]
  split
  · congr 1; rw [decide_eq_decide]; omega
  · rw [decide_eq_false (by omega)]
theorem sound_eq (d : Nat) (m : Mdl) : drive_sound d m = some (okM m) := by
  unfold drive_sound okM
  simp only [in_eq, Option.bind_some]
  have e1 : ∀ x : Int, decide (0 ≤ x ∧ x ≤ 1000000) = okTm x := fun _ => rfl
  have e2 : ∀ x : Int, decide (0 ≤ x ∧ x ≤ 1125899906842624) = okCnt x := fun _ => rfl
  simp only [e1, e2]
  cases okTm m.1 <;> cases okTm m.2.1 <;> cases okTm m.2.2.1 <;> cases okCnt m.2.2.2.1 <;> rfl
theorem rcount11_eq (d : Nat) (x : Int) : tapearchiveref11_count d x = some (okCnt x) := counter_eq d x
theorem model_eq (d : Nat) (m : Mdl) : tapearchiveref11_model d m = some (okM m) := by
  unfold tapearchiveref11_model okM
  simp only [rcount11_eq, Option.bind_some, decide_eq_true_eq, okTm]
  by_cases h1 : 0 ≤ m.1 ∧ m.1 ≤ 1000000
  · rw [decide_eq_true h1, if_pos (by omega), if_pos (by omega)]
    by_cases h2 : 0 ≤ m.2.1 ∧ m.2.1 ≤ 1000000
    · rw [decide_eq_true h2, if_pos (by omega), if_pos (by omega)]
      by_cases h3 : 0 ≤ m.2.2.1 ∧ m.2.2.1 ≤ 1000000
      · rw [decide_eq_true h3, if_pos (by omega), if_pos (by omega)]
        cases okCnt m.2.2.2.1 <;> rfl
      · rw [decide_eq_false h3]
        by_cases g : m.2.2.1 ≥ 0
        · rw [if_pos g, if_neg (by omega)]; rfl
        · rw [if_neg g]; rfl
    · rw [decide_eq_false h2]
      by_cases g : m.2.1 ≥ 0
      · rw [if_pos g, if_neg (by omega)]; rfl
      · rw [if_neg g]; rfl
  · rw [decide_eq_false h1]
    by_cases g : m.1 ≥ 0
    · rw [if_pos g, if_neg (by omega)]; rfl
    · rw [if_neg g]; rfl
theorem dvalid_eq (d : Nat) (v : Drv) : drive_valid d v = some (okD v) := by
  unfold drive_valid okD
  simp only [in_eq, Option.bind_some]
  have e2 : ∀ x : Int, decide (0 ≤ x ∧ x ≤ 1125899906842624) = okCnt x := fun _ => rfl
  simp only [e2]
  generalize decide (0 ≤ v.1 ∧ v.1 ≤ 2) = b1
  generalize okCnt v.2.2.2.1 = b2
  generalize okCnt v.2.2.2.2.1 = b3
  generalize okCnt v.2.2.2.2.2 = b4
  generalize decide (0 ≤ v.2.2.1 ∧ v.2.2.1 ≤ 4096) = b5
  cases b1 <;> cases b2 <;> cases b3 <;> cases b4 <;> cases b5 <;> first | rfl | skip
  simp only [Bool.not_true, Bool.false_eq_true, if_false, Option.bind_some, decide_true, Bool.true_and, Bool.and_true]
  by_cases h : v.1 = 0
  · simp [h]
  · simp [h]
theorem rdrive_eq (d : Nat) (v : Drv) : tapearchiveref11_drive d v = some (okD v) := by
  unfold tapearchiveref11_drive okD
  simp only [rcount11_eq, Option.bind_some, decide_eq_true_eq]
  by_cases h1 : 0 ≤ v.1 ∧ v.1 ≤ 2
  · rw [decide_eq_true h1, if_neg (show ¬ v.1 < 0 by omega), if_neg (show ¬ v.1 > 2 by omega)]
    by_cases h2 : 0 ≤ v.2.2.1 ∧ v.2.2.1 ≤ 4096
    · rw [decide_eq_true h2, if_neg (show ¬ v.2.2.1 < 0 by omega), if_neg (show ¬ v.2.2.1 > 4096 by omega)]
      generalize okCnt v.2.2.2.1 = b2
      generalize okCnt v.2.2.2.2.1 = b3
      generalize okCnt v.2.2.2.2.2 = b4
      cases b2 <;> cases b3 <;> cases b4 <;> first | rfl | skip
      by_cases h : v.1 = 0
      · simp [h]
        split <;> simp_all
      · simp [h]
    · rw [decide_eq_false h2]
      generalize okCnt v.2.2.2.1 = b2
      generalize okCnt v.2.2.2.2.1 = b3
      generalize okCnt v.2.2.2.2.2 = b4
      cases b2 <;> cases b3 <;> cases b4 <;> first | rfl | skip
      by_cases g : v.2.2.1 < 0
      · rw [if_pos g]; rfl
      · rw [if_neg g, if_pos (show v.2.2.1 > 4096 by omega)]; rfl
  · rw [decide_eq_false h1]
    by_cases g : v.1 < 0
    · rw [if_pos g]; rfl
    · rw [if_neg g, if_pos (show v.1 > 2 by omega)]; rfl
theorem due_eq (d : Nat) (m : Mdl) (v : Drv) : drive_Due d m v = some (due m v) := by
  unfold drive_Due due
  simp only [decide_eq_true_eq]
  split
  · congr 1; rw [decide_eq_decide]; omega
  · rw [decide_eq_false (by omega)]
theorem rdue_eq (d : Nat) (m : Mdl) (v : Drv) : tapearchiveref11_Due d m v = some (due m v) := due_eq d m v
theorem worn_eq (d : Nat) (m : Mdl) (c : Cart) : drive_Worn d m c = some (worn m c) := by
  unfold drive_Worn worn
  simp only [decide_eq_true_eq]
  split
  · congr 1; rw [decide_eq_decide]; omega
  · rw [decide_eq_false (by omega)]
theorem rworn_eq (d : Nat) (m : Mdl) (c : Cart) : tapearchiveref11_Worn d m c = some (worn m c) := worn_eq d m c
/-- The first checks. -/
def fst1 (m : Mdl) (v : Drv) (c : Cart) : Int :=
  if okM m = false then 8 else if okD v = false then 8 else if okCart c = false then 8 else if v.1 = 2 then 16 else if v.1 = 0 then 13 else if ¬ v.2.1 = c.1 then 11
  else if v.2.2.1 > (c.2.2.2.2.1.length : Int) then 8 else 0
theorem rfirst_eq {m : Mdl} {v : Drv} {c : Cart} (h1 : c.2.2.2.2.1.length ≤ 9000) (h2 : c.1.size < D ∧ c.1.size ≤ 9223372036854775807) : tapearchiveref11_first D m v c = some (fst1 m v c) := by
  have hD := hBig.h
  unfold tapearchiveref11_first fst1
  rw [model_eq, rdrive_eq, rvalid_eq h1 h2]
  simp only [Option.bind_some, decide_eq_true_eq, Bool.not_eq_true', decide_eq_false_iff_not]
  repeat' split
  all_goals rfl
theorem first_l0 {m : Mdl} {v : Drv} {c : Cart} (h1 : c.2.2.2.2.1.length ≤ 9000) (h2 : c.1.size < D ∧ c.1.size ≤ 9223372036854775807) (k : Nat) : drive_first_l0 D (k + 6) 0 m v c = some (if fst1 m v c = 0 then .inl () else .inr (fst1 m v c)) := by
  have hD := hBig.h
  have s5 : ∀ k, drive_first_l0 D (k + 1) 5 m v c = some (.inl ()) := fun k => by simp [drive_first_l0]
  have s4 : ∀ k, drive_first_l0 D (k + 2) 4 m v c = some (if v.2.2.1 > (c.2.2.2.2.1.length : Int) then .inr 8 else .inl ()) := fun k => by
    rw [drive_first_l0]
    simp only [show (4 : Int) + 1 = 5 from rfl, w64 (x := 5) (by omega) (by omega), s5]
    simp
    split <;> simp_all
  have s3 : ∀ k, drive_first_l0 D (k + 3) 3 m v c = some (if ¬ v.2.1 = c.1 then .inr 11 else if v.2.2.1 > (c.2.2.2.2.1.length : Int) then .inr 8 else .inl ()) := fun k => by
    rw [drive_first_l0]
    simp only [show (3 : Int) + 1 = 4 from rfl, w64 (x := 4) (by omega) (by omega), s4]
    simp
    split <;> simp_all
  have s2 : ∀ k, drive_first_l0 D (k + 4) 2 m v c = some (if v.1 = 0 then .inr 13 else if ¬ v.2.1 = c.1 then .inr 11 else if v.2.2.1 > (c.2.2.2.2.1.length : Int) then .inr 8 else .inl ()) := fun k => by
    rw [drive_first_l0]
    simp only [show (2 : Int) + 1 = 3 from rfl, w64 (x := 3) (by omega) (by omega), s3]
    simp
    split <;> simp_all
  have s1 : ∀ k, drive_first_l0 D (k + 5) 1 m v c = some (if v.1 = 2 then .inr 16 else if v.1 = 0 then .inr 13 else if ¬ v.2.1 = c.1 then .inr 11 else if v.2.2.1 > (c.2.2.2.2.1.length : Int) then .inr 8 else .inl ()) := fun k => by
    rw [drive_first_l0]
    simp only [show (1 : Int) + 1 = 2 from rfl, w64 (x := 2) (by omega) (by omega), s2]
    simp
    split <;> simp_all
  rw [drive_first_l0]
  simp only [show (0 : Int) + 1 = 1 from rfl, w64 (x := 1) (by omega) (by omega), s1, sound_eq, dvalid_eq, valid_eq h1 h2, Option.bind_some, fst1]
  by_cases a1 : okM m = true
  rotate_left
  · simp [a1]
  by_cases a2 : okD v = true
  rotate_left
  · simp [a1, a2]
  by_cases a3 : okCart c = true
  rotate_left
  · simp [a1, a2, a3]
  simp [a1, a2, a3]
  by_cases q1 : v.1 = 2
  · simp [q1]
  · by_cases q2 : v.1 = 0
    · simp [q2]
    · by_cases q3 : v.2.1 = c.1
      · by_cases q4 : v.2.2.1 > (c.2.2.2.2.1.length : Int)
        · have : (c.2.2.2.2.1.length : Int) < v.2.2.1 := q4
          simp [q1, q2, q3, this]
        · have : ¬ (c.2.2.2.2.1.length : Int) < v.2.2.1 := q4
          simp [q1, q2, q3, this]
      · simp [q1, q2, q3]
theorem first_eq {m : Mdl} {v : Drv} {c : Cart} (h1 : c.2.2.2.2.1.length ≤ 9000) (h2 : c.1.size < D ∧ c.1.size ≤ 9223372036854775807) : drive_first D m v c = some (fst1 m v c) := by
  have hD := hBig.h
  unfold drive_first
  obtain ⟨k, hk⟩ : ∃ k, D = k + 6 := ⟨D - 6, by omega⟩
  have h0 := first_l0 (m := m) (v := v) h1 h2 k
  rw [← hk] at h0
  rw [h0]
  by_cases h : fst1 m v c = 0
  · rw [if_pos h, h]; rfl
  · rw [if_neg h]; rfl
theorem own_l0 (d : Nat) (c z : Cart) (l : List Blk) (hy : l.length ≤ 100000) (hd : ∀ b ∈ l, b.2.2.length ≤ 1000) : ∀ (m k : Nat) (i : Int) (h : List Blk), 0 ≤ i → i + m = l.length → m < k → h.length = l.length → h.take i.toNat = l.take i.toNat →
    drive_own_l0 d k l l.length i c z h = some (c, z, l) := by
  intro m
  induction m with
  | zero =>
    intro k i h h0 h1 hk hl ht
    obtain ⟨k, rfl⟩ : ∃ j, k = j + 1 := ⟨k - 1, by omega⟩
    simp only [drive_own_l0, decide_eq_true_eq]
    rw [if_neg (by omega)]
    rw [List.take_of_length_le (by omega), List.take_of_length_le (by omega)] at ht
    rw [ht]
  | succ m ih =>
    intro k i h h0 h1 hk hl ht
    obtain ⟨k, rfl⟩ : ∃ j, k = j + 1 := ⟨k - 1, by omega⟩
    have hlt : i.toNat < l.length := by omega
    have hm : l.getD i.toNat zBlock ∈ l := mem_getD h0 (by omega)
    have hdb := hd _ hm
    have hb : (0 : Int) ≤ i ∧ i < (l.length : Int) := by omega
    have hb2 : (0 : Int) ≤ i ∧ i < (h.length : Int) := by omega
    simp only [drive_own_l0, decide_eq_true_eq, if_pos hb, if_pos hb.2, if_pos hb2, List.nil_append]
    rw [if_pos (by omega), w64 (by omega) (by omega)]
    refine ih k (i + 1) _ (by omega) (by omega) (by omega) (by simpa using hl) ?_
    rw [show (i + 1).toNat = i.toNat + 1 by omega, List.take_add_one, List.take_add_one, List.take_set_of_le (Nat.le_refl _), ht, List.getElem?_set_self (by omega), List.getElem?_eq_getElem hlt, getD_get hlt]
theorem own_eq {c : Cart} (h1 : c.2.2.2.2.1.length ≤ 9000) (hd : ∀ b ∈ c.2.2.2.2.1, b.2.2.length ≤ 1000) : drive_own D c = some c := by
  have hD := hBig.h
  unfold drive_own
  rw [if_pos (by simp only [decide_eq_true_eq]; omega), own_l0 D c _ c.2.2.2.2.1 (by omega) hd c.2.2.2.2.1.length D 0 _ (by omega) (by omega) (by omega) (by simp) (by simp)]
  rfl
/-- A counter that has grown. -/
def mo (n b : Int) : Int := min (IntKind.i64.wrap (n + b)) 1125899906842624
def pG (g : Int × Int × Int × Int × Int × Int) (a b : Int) : Int := pss g.1 g.2.1 g.2.2.1 g.2.2.2.1 g.2.2.2.2.1 g.2.2.2.2.2 a b
def lG (g : Int × Int × Int × Int × Int × Int) (a b : Int) : Int := loc g.1 g.2.1 g.2.2.1 g.2.2.2.1 g.2.2.2.2.1 g.2.2.2.2.2 a b
def rG (g : Int × Int × Int × Int × Int × Int) (a b : Int) : Int := rdt g.1 g.2.1 g.2.2.1 g.2.2.2.1 g.2.2.2.2.1 g.2.2.2.2.2 a b
/-- A drive and a cartridge after a motion. -/
def mv (v : Drv) (c : Cart) (t : Int) : Drv × Cart :=
  ((v.1, v.2.1, t, v.2.2.2.1, mo v.2.2.2.2.1 (pG c.2.1 v.2.2.1 t), mo v.2.2.2.2.2 (pG c.2.1 v.2.2.1 t)), (c.1, c.2.1, c.2.2.1, c.2.2.2.1, c.2.2.2.2.1, c.2.2.2.2.2.1, c.2.2.2.2.2.2.1, mo c.2.2.2.2.2.2.2 (pG c.2.1 v.2.2.1 t)))
theorem moved_eq (v : Drv) (c : Cart) (t : Int) : drive_moved D v c t = some (mv v c t) := by
  have hD := hBig.h
  unfold drive_moved
  have := passes_eq (D := D) c.2.1.1 c.2.1.2.1 c.2.1.2.2.1 c.2.1.2.2.2.1 c.2.1.2.2.2.2.1 c.2.1.2.2.2.2.2 v.2.2.1 t
  rw [show (c.2.1.1, c.2.1.2.1, c.2.1.2.2.1, c.2.1.2.2.2.1, c.2.1.2.2.2.2.1, c.2.1.2.2.2.2.2) = c.2.1 from rfl] at this
  rw [this]
  rfl
theorem rmoved_eq (v : Drv) (c : Cart) (t : Int) : tapearchiveref11_move D v c t = some (mv v c t) := by
  have hD := hBig.h
  unfold tapearchiveref11_move
  have := rpasses_eq (D := D) c.2.1.1 c.2.1.2.1 c.2.1.2.2.1 c.2.1.2.2.2.1 c.2.1.2.2.2.2.1 c.2.1.2.2.2.2.2 v.2.2.1 t
  rw [show (c.2.1.1, c.2.1.2.1, c.2.1.2.2.1, c.2.1.2.2.2.1, c.2.1.2.2.2.2.1, c.2.1.2.2.2.2.2) = c.2.1 from rfl] at this
  rw [this]
  rfl
theorem locG (g : Int × Int × Int × Int × Int × Int) (a b : Int) : serpentine_Locate D g a b = some (lG g a b) := locate_eq g.1 g.2.1 g.2.2.1 g.2.2.2.1 g.2.2.2.2.1 g.2.2.2.2.2 a b
theorem rlocG (g : Int × Int × Int × Int × Int × Int) (a b : Int) : tapearchiveref09_Locate D g a b = some (lG g a b) := rlocate_eq g.1 g.2.1 g.2.2.1 g.2.2.2.1 g.2.2.2.2.1 g.2.2.2.2.2 a b
theorem rdG (g : Int × Int × Int × Int × Int × Int) (a b : Int) : serpentine_Read D g (a, b) = some (rG g a b) := sread_eq g.1 g.2.1 g.2.2.1 g.2.2.2.1 g.2.2.2.2.1 g.2.2.2.2.2 a b
theorem rrdG (g : Int × Int × Int × Int × Int × Int) (a b : Int) : tapearchiveref09_Read D g (a, b) = some (rG g a b) := rsread_eq g.1 g.2.1 g.2.2.1 g.2.2.2.1 g.2.2.2.2.1 g.2.2.2.2.2 a b
end Go.Proofs.Ytlkjklacanedoaa.Den.G11
