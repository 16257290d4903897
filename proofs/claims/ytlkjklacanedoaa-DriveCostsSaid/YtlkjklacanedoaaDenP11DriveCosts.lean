/- The law DriveCosts holds of the plain functions, for any cartridges and operations. -/
import Derived.Test.YtlkjklacanedoaaDenS26
import Derived.Test.YtlkjklacanedoaaDenP11DriveRuns
set_option linter.unusedVariables false
namespace Go.Proofs.Ytlkjklacanedoaa.Den.G11
open Go.Proofs.Ytlkjklacanedoaa.Den Go
/-- What an operation costs, from the heads. -/
def cst (m : Mdl) (g : Int × Int × Int × Int × Int × Int) (a b : Int) (s : Stp) : Int :=
  if s.1 = 0 then m.1 else if s.1 = 1 then IntKind.i64.wrap (m.2.1 + lG g a 0) else if s.1 = 2 then lG g a b
  else if s.1 = 3 then rG g a (IntKind.i64.wrap (b - a)) else if s.1 = 4 then rG g a (IntKind.i64.wrap (b - a)) else m.2.2.1
theorem cost_eq {D : Nat} [hBig : Big D] (m : Mdl) (g : Int × Int × Int × Int × Int × Int) (a b : Int) (s : Stp) : tapearchivelaw11_cost D m g a b s = some (cst m g a b s) := by
  unfold tapearchivelaw11_cost cst
  simp only [decide_eq_true_eq, rlocG, rrdG, Option.bind_some]
  repeat' split
  all_goals first | rfl | simp_all
theorem mo_add {n p : Int} (hn : 0 ≤ n ∧ n ≤ 562949953421312) (hp : 0 ≤ p ∧ p ≤ 10000000) : mo n p = n + p := by
  rw [mo_eq (okCnt_iff.2 (by omega)) hp]; omega
/-- An operation that has failed. -/
def Bad (o : Don) : Prop := o.2.2.2.2 ≠ 0 ∧ o.2.2.2.2 ≠ 15 ∧ o.1 = zD ∧ o.2.2.2.1 = 0
/-- An operation that was done. -/
structure Well (m : Mdl) (v : Drv) (c : Cart) (s : Stp) (o : Don) : Prop where
  code : o.2.2.2.2 = 0 ∨ o.2.2.2.2 = 15
  time : o.2.2.2.1 = cst m c.2.1 v.2.2.1 o.1.2.2.1 s
  same : s.1 ≠ 4 → o.2.1.2.2.2.2.1 = c.2.2.2.2.1
  pass : 0 ≤ v.2.2.2.2.1 ∧ v.2.2.2.2.1 ≤ 562949953421312 → 0 ≤ c.2.2.2.2.2.2.2 ∧ c.2.2.2.2.2.2.2 ≤ 562949953421312 → ∃ p, 0 ≤ p ∧ p ≤ 10000000 ∧ o.1.2.2.2.2.1 = v.2.2.2.2.1 + p ∧ o.2.1.2.2.2.2.2.2.2 = c.2.2.2.2.2.2.2 + p
theorem fst1_codes (m : Mdl) (v : Drv) (c : Cart) : fst1 m v c ≠ 15 := by
  unfold fst1
  repeat' split
  all_goals decide
theorem op_cases {m : Mdl} {v : Drv} {c : Cart} {s : Stp} (hc : c.2.2.2.2.1.length ≤ 4096) : Bad (op m v c s) ∨ Well m v c s (op m v c s) := by
  have hf := fst1_codes m v c
  unfold op
  by_cases k0 : s.1 = 0
  · rw [if_pos k0]
    by_cases h0 : le m v c = 0
    · right
      have e : LoadP m v c = ((1, c.1, 0, mo v.2.2.2.1 1, v.2.2.2.2), (c.1, c.2.1, c.2.2.1, c.2.2.2.1, c.2.2.2.2.1, c.2.2.2.2.2.1, mo c.2.2.2.2.2.2.1 1, c.2.2.2.2.2.2.2), m.1, 0) := by unfold LoadP; rw [if_pos h0]
      rw [e]
      refine ⟨.inl rfl, ?_, fun _ => rfl, fun _ _ => ⟨0, by omega, by omega, by simp, by simp⟩⟩
      unfold cst; rw [if_pos k0]
    · left
      have e : LoadP m v c = (zD, zC, 0, le m v c) := by unfold LoadP; rw [if_neg h0]
      rw [e]
      refine ⟨h0, ?_, rfl, rfl⟩
      show le m v c ≠ 15
      unfold le
      repeat' split
      all_goals decide
  rw [if_neg k0]
  by_cases k1 : s.1 = 1
  · rw [if_pos k1]
    by_cases h0 : fst1 m v c = 0
    · right
      have e : UnloadP m v c = ((0, ⟨#[]⟩, (mv v c 0).1.2.2), (mv v c 0).2, IntKind.i64.wrap (lG c.2.1 v.2.2.1 0 + m.2.1), 0) := by unfold UnloadP; rw [if_pos h0]
      rw [e]
      refine ⟨.inl rfl, ?_, fun _ => rfl, fun h1 h2 => ⟨pG c.2.1 v.2.2.1 0, (pG_b _ _ _).1, (pG_b _ _ _).2, mo_add h1 (pG_b _ _ _), mo_add h2 (pG_b _ _ _)⟩⟩
      unfold cst; rw [if_neg k0, if_pos k1, Int.add_comm]
    · left
      have e : UnloadP m v c = (zD, zC, 0, fst1 m v c) := by unfold UnloadP; rw [if_neg h0]
      rw [e]
      exact ⟨h0, hf, rfl, rfl⟩
  rw [if_neg k1]
  by_cases k2 : s.1 = 2
  · rw [if_pos k2]
    by_cases h0 : se m v c s.2.2.1 = 0
    · right
      have e : SeekP m v c s.2.2.1 = ((mv v c s.2.2.1).1, (mv v c s.2.2.1).2, lG c.2.1 v.2.2.1 s.2.2.1, 0) := by unfold SeekP; rw [if_pos h0]
      rw [e]
      refine ⟨.inl rfl, ?_, fun _ => rfl, fun h1 h2 => ⟨pG c.2.1 v.2.2.1 s.2.2.1, (pG_b _ _ _).1, (pG_b _ _ _).2, mo_add h1 (pG_b _ _ _), mo_add h2 (pG_b _ _ _)⟩⟩
      unfold cst; rw [if_neg k0, if_neg k1, if_pos k2]; rfl
    · left
      have e : SeekP m v c s.2.2.1 = (zD, zC, 0, se m v c s.2.2.1) := by unfold SeekP; rw [if_neg h0]
      rw [e]
      refine ⟨h0, ?_, rfl, rfl⟩
      show se m v c s.2.2.1 ≠ 15
      unfold se
      split
      · split <;> decide
      · exact hf
  rw [if_neg k2]
  by_cases k3 : s.1 = 3
  · rw [if_pos k3]
    by_cases h0 : re m v c s.2.2.1 = 0
    · right
      have hfz : fst1 m v c = 0 ∧ 1 ≤ s.2.2.1 ∧ s.2.2.1 ≤ (c.2.2.2.2.1.length : Int) - v.2.2.1 := by
        unfold re at h0
        by_cases q : fst1 m v c = 0
        · rw [if_pos q] at h0
          by_cases q2 : s.2.2.1 < 1 ∨ s.2.2.1 > (c.2.2.2.2.1.length : Int) - v.2.2.1
          · rw [if_pos q2] at h0; cases h0
          · exact ⟨q, by omega, by omega⟩
        · rw [if_neg q] at h0; exact absurd h0 q
      obtain ⟨_, _, _, _, _, k6, k7⟩ := fst1_0 hfz.1
      have hr := rd_code (c.2.2.2.2.1.drop v.2.2.1.toNat) s.2.2.1.toNat (by rw [List.length_drop]; omega)
      have hr : (rr v c s.2.2.1).2 = (if (rr v c s.2.2.1).1.length < s.2.2.1.toNat then 15 else 0) ∧ (rr v c s.2.2.1).1.length ≤ s.2.2.1.toNat := hr
      have e : ReadP m v c s.2.2.1 = ((mv v c (v.2.2.1 + (rr v c s.2.2.1).1.length)).1, (mv v c (v.2.2.1 + (rr v c s.2.2.1).1.length)).2, (rr v c s.2.2.1).1, rG c.2.1 v.2.2.1 (rr v c s.2.2.1).1.length, (rr v c s.2.2.1).2) := by unfold ReadP; rw [if_pos h0]
      rw [e]
      generalize rr v c s.2.2.1 = r at hr
      refine ⟨?_, ?_, fun _ => rfl, fun h1 h2 => ⟨pG c.2.1 v.2.2.1 (v.2.2.1 + r.1.length), (pG_b _ _ _).1, (pG_b _ _ _).2, mo_add h1 (pG_b _ _ _), mo_add h2 (pG_b _ _ _)⟩⟩
      · show r.2 = 0 ∨ r.2 = 15
        rw [hr.1]
        split
        · exact .inr rfl
        · exact .inl rfl
      · unfold cst
        rw [if_neg k0, if_neg k1, if_neg k2, if_pos k3]
        show rG c.2.1 v.2.2.1 r.1.length = rG c.2.1 v.2.2.1 (IntKind.i64.wrap (v.2.2.1 + r.1.length - v.2.2.1))
        rw [w64 (by omega) (by omega), show v.2.2.1 + (r.1.length : Int) - v.2.2.1 = r.1.length by omega]
    · left
      have e : ReadP m v c s.2.2.1 = (zD, zC, [], 0, re m v c s.2.2.1) := by unfold ReadP; rw [if_neg h0]
      rw [e]
      refine ⟨h0, ?_, rfl, rfl⟩
      show re m v c s.2.2.1 ≠ 15
      unfold re
      split
      · split <;> decide
      · exact hf
  rw [if_neg k3]
  by_cases k4 : s.1 = 4
  · rw [if_pos k4]
    by_cases h0 : we m v c s.2.2.2 = 0
    · right
      obtain ⟨w1, w2, w3, w4⟩ := we_0 h0
      obtain ⟨_, _, _, _, _, k6, k7⟩ := fst1_0 w1
      obtain ⟨q1, q2, q3, q4, q5, q6, q7⟩ := wcode_0 w4
      obtain ⟨hg, hc1, hc2, _⟩ := okCart_g q1
      have hW := W_0 w4
      have hg : (W c v.2.2.1 s.2.2.2).1.2.1 = c.2.1 := by rw [hW]; rfl
      have hp : (W c v.2.2.1 s.2.2.2).1.2.2.2.2.2.2.2 = c.2.2.2.2.2.2.2 := by rw [hW]; rfl
      have e : WriteP m v c s.2.2.2 = ((mv v (W c v.2.2.1 s.2.2.2).1 (v.2.2.1 + s.2.2.2.length)).1, (mv v (W c v.2.2.1 s.2.2.2).1 (v.2.2.1 + s.2.2.2.length)).2, rG c.2.1 v.2.2.1 s.2.2.2.length, 0) := by unfold WriteP; rw [if_pos h0]
      rw [e]
      refine ⟨.inl rfl, ?_, fun h => absurd k4 h, fun h1 h2 => ⟨pG (W c v.2.2.1 s.2.2.2).1.2.1 v.2.2.1 (v.2.2.1 + s.2.2.2.length), (pG_b _ _ _).1, (pG_b _ _ _).2, mo_add h1 (pG_b _ _ _), ?_⟩⟩
      · unfold cst
        rw [if_neg k0, if_neg k1, if_neg k2, if_neg k3, if_pos k4]
        show rG c.2.1 v.2.2.1 s.2.2.2.length = rG c.2.1 v.2.2.1 (IntKind.i64.wrap (v.2.2.1 + s.2.2.2.length - v.2.2.1))
        rw [w64 (by omega) (by omega), show v.2.2.1 + (s.2.2.2.length : Int) - v.2.2.1 = s.2.2.2.length by omega]
      · show mo (W c v.2.2.1 s.2.2.2).1.2.2.2.2.2.2.2 _ = _
        rw [hp]
        exact mo_add h2 (pG_b _ _ _)
    · left
      have e : WriteP m v c s.2.2.2 = (zD, zC, 0, we m v c s.2.2.2) := by unfold WriteP; rw [if_neg h0]
      rw [e]
      refine ⟨h0, ?_, rfl, rfl⟩
      show we m v c s.2.2.2 ≠ 15
      unfold we
      split
      · split
        · decide
        · split
          · decide
          · exact wcode_15 _ _ _
      · exact hf
  rw [if_neg k4]
  by_cases h0 : ce m v = 0
  · right
    have e : CleanP m v = ((v.1, v.2.1, v.2.2.1, v.2.2.2.1, v.2.2.2.2.1, 0), m.2.2.1, 0) := by unfold CleanP; rw [if_pos h0]
    rw [e]
    refine ⟨.inl rfl, ?_, fun _ => rfl, fun _ _ => ⟨0, by omega, by omega, by simp, by simp⟩⟩
    unfold cst
    rw [if_neg k0, if_neg k1, if_neg k2, if_neg k3, if_neg k4]
  · left
    have e : CleanP m v = (zD, 0, ce m v) := by unfold CleanP; rw [if_neg h0]
    rw [e]
    refine ⟨h0, ?_, rfl, rfl⟩
    show ce m v ≠ 15
    unfold ce
    repeat' split
    all_goals decide
/-- The passes of cartridges. -/
def ps : List Cart → Int
  | [] => 0
  | c :: l => c.2.2.2.2.2.2.2 + ps l
theorem ps_append : ∀ (a b : List Cart), ps (a ++ b) = ps a + ps b
  | [], b => by simp [ps]
  | c :: a, b => by simp only [List.cons_append, ps, ps_append a b]; omega
theorem ps_set : ∀ (l : List Cart) (j : Nat) (c : Cart), j < l.length → ps (l.set j c) = ps l - (l.getD j zCartridge).2.2.2.2.2.2.2 + c.2.2.2.2.2.2.2
  | [], j, c, h => by simp at h
  | a :: l, 0, c, h => by simp only [List.set_cons_zero, ps, List.getD_cons_zero]; omega
  | a :: l, j + 1, c, h => by
    simp only [List.set_cons_succ, ps, List.getD_cons_succ]
    rw [ps_set l j c (by simpa using h)]
    omega
theorem ps_b {B : Int} (hB : 0 ≤ B) : ∀ (l : List Cart), (∀ c ∈ l, 0 ≤ c.2.2.2.2.2.2.2 ∧ c.2.2.2.2.2.2.2 ≤ B) → 0 ≤ ps l ∧ ps l ≤ B * l.length
  | [], _ => by simp [ps]
  | a :: l, h => by
    have h1 := h a (by simp)
    have h2 := ps_b hB l (fun c hc => h c (List.mem_cons_of_mem _ hc))
    simp only [ps, List.length_cons]
    rw [Int.natCast_add, Int.mul_add]
    omega
theorem costs_l0 {D : Nat} [hBig : Big D] (cs : List Cart) (hcs : ∀ c ∈ cs, GI D c) (hy : cs.length ≤ 4) (l : List Stp) (m : Mdl) : ∀ (n k : Nat) (i : Int), 0 ≤ i → i + n = cs.length → n < k → (∀ c ∈ cs.take i.toNat, 0 ≤ c.2.2.2.2.2.2.2 ∧ c.2.2.2.2.2.2.2 ≤ 140737488355328) →
    tapearchivelaw11_DriveCosts_l0 D k cs l (ps (cs.take i.toNat)) i m (cs.take i.toNat) = some (.inr true) ∨ (tapearchivelaw11_DriveCosts_l0 D k cs l (ps (cs.take i.toNat)) i m (cs.take i.toNat) = some (.inl (l, ps cs, m, cs)) ∧ ∀ c ∈ cs, 0 ≤ c.2.2.2.2.2.2.2 ∧ c.2.2.2.2.2.2.2 ≤ 140737488355328) := by
  intro n
  induction n with
  | zero =>
    intro k i h0 h1 hk hp
    obtain ⟨k, rfl⟩ : ∃ j, k = j + 1 := ⟨k - 1, by omega⟩
    rw [List.take_of_length_le (by omega)] at hp ⊢
    simp only [tapearchivelaw11_DriveCosts_l0, decide_eq_true_eq]
    rw [if_neg (by omega)]
    exact .inr ⟨rfl, hp⟩
  | succ n ih =>
    intro k i h0 h1 hk hp
    obtain ⟨k, rfl⟩ : ∃ j, k = j + 1 := ⟨k - 1, by omega⟩
    have ih := ih k (i + 1) (by omega) (by omega) (by omega)
    have hlt : i.toNat < cs.length := by omega
    have hb : (0 : Int) ≤ i ∧ i < (cs.length : Int) := by omega
    have hm := mem_getD (z := zCartridge) hb.1 hb.2
    have hG := hcs _ hm
    have hps := ps_b (B := 140737488355328) (by omega) _ hp
    rw [List.length_take] at hps
    rw [show (i + 1).toNat = i.toNat + 1 by omega, List.take_add_one, List.getElem?_eq_getElem hlt, ← getD_get (z := zCartridge) hlt] at ih
    simp only [tapearchivelaw11_DriveCosts_l0, decide_eq_true_eq, if_pos hb, if_pos hb.2]
    by_cases p1 : (cs.getD i.toNat zCartridge).2.2.2.2.2.2.2 > 140737488355328
    · rw [if_pos p1]; exact .inl rfl
    rw [if_neg p1]
    by_cases p2 : (cs.getD i.toNat zCartridge).2.2.2.2.2.2.2 < 0
    · rw [if_pos p2]; exact .inl rfl
    rw [if_neg p2]
    simp only [Option.bind_some, if_pos hb]
    rw [copC_eq (by have := hG.1; omega) hG.2.1]
    simp only [Option.bind_some]
    have hmul : 140737488355328 * ((min i.toNat cs.length : Nat) : Int) ≤ 140737488355328 * 4 := Int.mul_le_mul_of_nonneg_left (by omega) (by omega)
    rw [if_pos (by simp only [List.length_take, List.length_singleton]; omega), w64 (x := i + 1) (by omega) (by omega), w64 (x := ps _ + _) (by omega) (by omega)]
    have e : ps (cs.take i.toNat ++ [cs.getD i.toNat zCartridge]) = ps (cs.take i.toNat) + (cs.getD i.toNat zCartridge).2.2.2.2.2.2.2 := by rw [ps_append]; simp [ps]
    simp only [Option.toList] at ih
    rw [e] at ih
    exact ih (fun c hc => by
      rcases List.mem_append.1 hc with h | h
      · exact hp c h
      · rw [List.mem_singleton.1 h]; omega)
theorem costs_l4 {D : Nat} (s0 : Int) (v : Drv) (cs : List Cart) (hcs : ∀ c ∈ cs, 0 ≤ c.2.2.2.2.2.2.2 ∧ c.2.2.2.2.2.2.2 ≤ 562949953421312) (hy : cs.length ≤ 4) : ∀ (n k : Nat) (i : Int), 0 ≤ i → i + n = cs.length → n < k →
    tapearchivelaw11_DriveCosts_l4 D k s0 (ps (cs.take i.toNat)) i v cs = some (s0, ps cs, v) := by
  intro n
  induction n with
  | zero =>
    intro k i h0 h1 hk
    obtain ⟨k, rfl⟩ : ∃ j, k = j + 1 := ⟨k - 1, by omega⟩
    rw [List.take_of_length_le (by omega)]
    simp only [tapearchivelaw11_DriveCosts_l4, decide_eq_true_eq]
    rw [if_neg (by omega)]
  | succ n ih =>
    intro k i h0 h1 hk
    obtain ⟨k, rfl⟩ : ∃ j, k = j + 1 := ⟨k - 1, by omega⟩
    have ih := ih k (i + 1) (by omega) (by omega) (by omega)
    have hlt : i.toNat < cs.length := by omega
    have hb : (0 : Int) ≤ i ∧ i < (cs.length : Int) := by omega
    have hc := hcs _ (mem_getD (z := zCartridge) hb.1 hb.2)
    have hps := ps_b (B := 562949953421312) (by omega) (cs.take i.toNat) (fun c hc => hcs c (List.mem_of_mem_take hc))
    rw [List.length_take] at hps
    have hmul : 562949953421312 * ((min i.toNat cs.length : Nat) : Int) ≤ 562949953421312 * 4 := Int.mul_le_mul_of_nonneg_left (by omega) (by omega)
    rw [show (i + 1).toNat = i.toNat + 1 by omega, List.take_add_one, List.getElem?_eq_getElem hlt, ← getD_get (z := zCartridge) hlt] at ih
    have e : ps (cs.take i.toNat ++ [cs.getD i.toNat zCartridge]) = ps (cs.take i.toNat) + (cs.getD i.toNat zCartridge).2.2.2.2.2.2.2 := by rw [ps_append]; simp [ps]
    simp only [Option.toList] at ih
    rw [e] at ih
    simp only [tapearchivelaw11_DriveCosts_l4, decide_eq_true_eq, if_pos hb, if_pos hb.2]
    rw [w64 (x := i + 1) (by omega) (by omega), w64 (x := ps _ + _) (by omega) (by omega)]
    exact ih
theorem costs_l2 {D : Nat} [hBig : Big D] (l : List Stp) (hl : ∀ s ∈ l, s.2.2.1 ≤ 9223372036854775807 ∧ Lt s.2.2.2) (hy : l.length ≤ 60) (m : Mdl) (s0 : Int) : ∀ (n k : Nat) (i : Int) (v : Drv) (cs : List Cart), 0 ≤ i → i + n = l.length → n < k → (∀ c ∈ cs, GI D c) → cs.length ≤ 4 →
    v.2.2.2.2.1 = ps cs - s0 → 0 ≤ v.2.2.2.2.1 → v.2.2.2.2.1 ≤ i * 10000000 → (∀ c ∈ cs, 0 ≤ c.2.2.2.2.2.2.2 ∧ c.2.2.2.2.2.2.2 ≤ 140737488355328 + i * 10000000) →
    tapearchivelaw11_DriveCosts_l2 D k l s0 i m v cs = some (.inr true) ∨ ∃ v' cs', tapearchivelaw11_DriveCosts_l2 D k l s0 i m v cs = some (.inl (s0, v', cs')) ∧ cs'.length ≤ 4 ∧ v'.2.2.2.2.1 = ps cs' - s0 ∧ (∀ c ∈ cs', 0 ≤ c.2.2.2.2.2.2.2 ∧ c.2.2.2.2.2.2.2 ≤ 562949953421312) := by
  intro n
  induction n with
  | zero =>
    intro k i v cs h0 h1 hk hcs hlen hv hv0 hvb hcb
    obtain ⟨k, rfl⟩ : ∃ j, k = j + 1 := ⟨k - 1, by omega⟩
    simp only [tapearchivelaw11_DriveCosts_l2, decide_eq_true_eq]
    rw [if_neg (by omega)]
    exact .inr ⟨v, cs, rfl, hlen, hv, fun c hc => by have := hcb c hc; omega⟩
  | succ n ih =>
    intro k i v cs h0 h1 hk hcs hlen hv hv0 hvb hcb
    obtain ⟨k, rfl⟩ : ∃ j, k = j + 1 := ⟨k - 1, by omega⟩
    have ih := fun v cs => ih k (i + 1) v cs (by omega) (by omega) (by omega)
    have hb : (0 : Int) ≤ i ∧ i < (l.length : Int) := by omega
    obtain ⟨q1, q2⟩ := hl _ (mem_getD (z := ztapearchivelaw11_Step) hb.1 hb.2)
    simp only [tapearchivelaw11_DriveCosts_l2, decide_eq_true_eq, if_pos hb, if_pos hb.2]
    generalize l.getD i.toNat ztapearchivelaw11_Step = s at q1 q2 ⊢
    by_cases p1 : s.2.1 < 0
    · left; rw [if_pos p1]; rfl
    rw [if_neg p1]
    by_cases p2 : s.2.1 ≥ (cs.length : Int)
    · left; rw [if_pos p2]; rfl
    rw [if_neg p2]
    have hb2 : (0 : Int) ≤ s.2.1 ∧ s.2.1 < (cs.length : Int) := by omega
    have hm := mem_getD (z := zCartridge) hb2.1 hb2.2
    have hG := hcs _ hm
    have hcb2 := hcb _ hm
    simp only [Option.bind_some, if_pos hb2]
    have hset1 := ps_set cs s.2.1.toNat
    generalize hcc : cs.getD s.2.1.toNat zCartridge = c at hG hcb2 hset1 ⊢
    have hG1 : c.2.2.2.2.1.length ≤ 9000 := by have := hG.1; omega
    have hq2 : s.2.2.2.length ≤ 4000 := by have := q2.1; omega
    rw [copC_eq hG1 hG.2.1]
    simp only [Option.bind_some]
    rw [program_eq hG1 hG.2.2 q1 hq2]
    have hop := op_GI (m := m) (v := v) hG q2
    have hca := op_cases (m := m) (v := v) (s := s) hG.1
    generalize op m v c s = o at hop hca ⊢
    rw [w64 (x := i + 1) (by omega) (by omega)]
    simp only [Option.bind_some]
    rcases hca with ⟨b1, b2, b3, b4⟩ | hw
    · rw [decide_eq_false b1, decide_eq_false b2, b3, b4]
      simp only [Bool.not_false, if_true, decide_true, Bool.and_self, Bool.not_true, Bool.false_eq_true, if_false]
      have := ih v cs hcs hlen hv hv0 (by omega) (fun c hc => by have := hcb c hc; omega)
      rcases this with h | ⟨v', cs', h, hh⟩
      · left; rw [h]; rfl
      · right; exact ⟨v', cs', by rw [h]; rfl, hh⟩
    · obtain ⟨p, hp0, hp1, hp2, hp3⟩ := hw.pass (by omega) (by omega)
      have e1 : (if (!decide (o.2.2.2.2 = 0)) = true then (if (!decide (o.2.2.2.2 = 15)) = true then
           (if (!((decide (o.1.1 = 0)) && ((decide (o.1.2.1 = ByteArray.empty)) && ((decide (o.1.2.2.1 = 0)) && ((decide (o.1.2.2.2.1 = 0)) && ((decide (o.1.2.2.2.2.1 = 0)) && (decide (o.1.2.2.2.2.2 = 0)))))))) = true then
            (if (!decide (s.1 = 5)) = true then some (.inr (.inr false)) else if (!decide (o.2.2.2.1 = 0)) = true then some (.inr (.inr false)) else
              Option.map Sum.inr (tapearchivelaw11_DriveCosts_l2 D k l s0 (i + 1) m v cs))
           else if (!decide (o.2.2.2.1 = 0)) = true then some (.inr (.inr false)) else Option.map Sum.inr (tapearchivelaw11_DriveCosts_l2 D k l s0 (i + 1) m v cs))
          else some (.inl (l, s0, i, m, v, s, o, cs))) else some (.inl (l, s0, i, m, v, s, o, cs)) : Option ((List Stp × Int × Int × Mdl × Drv × Stp × Don × List Cart) ⊕ ((Int × Drv × List Cart) ⊕ Bool))) = some (.inl (l, s0, i, m, v, s, o, cs)) := by
        rcases hw.code with e | e
        · rw [e]; rfl
        · rw [e]; rfl
      have hcw : ∀ Z : Option ((Int × Drv × List Cart) ⊕ Bool), (Z = some (.inr true) ∨ ∃ v' cs', Z = some (.inl (s0, v', cs')) ∧ cs'.length ≤ 4 ∧ v'.2.2.2.2.1 = ps cs' - s0 ∧ (∀ c ∈ cs', 0 ≤ c.2.2.2.2.2.2.2 ∧ c.2.2.2.2.2.2.2 ≤ 562949953421312)) → ∀ Y, Y = Z → (Y = some (.inr true) ∨ ∃ v' cs', Y = some (.inl (s0, v', cs')) ∧ cs'.length ≤ 4 ∧ v'.2.2.2.2.1 = ps cs' - s0 ∧ (∀ c ∈ cs', 0 ≤ c.2.2.2.2.2.2.2 ∧ c.2.2.2.2.2.2.2 ≤ 562949953421312)) := fun Z hZ Y e => e ▸ hZ
      have hset : ∀ c' ∈ cs.set s.2.1.toNat o.2.1, GI D c' := by
        intro c' hc
        rcases List.mem_or_eq_of_mem_set hc with hc | rfl
        · exact hcs c' hc
        · exact hop.1
      have hset2 : ∀ c' ∈ cs.set s.2.1.toNat o.2.1, 0 ≤ c'.2.2.2.2.2.2.2 ∧ c'.2.2.2.2.2.2.2 ≤ 140737488355328 + (i + 1) * 10000000 := by
        intro c' hc
        rcases List.mem_or_eq_of_mem_set hc with hc | rfl
        · have := hcb c' hc; omega
        · omega
      have hps := hset1 o.2.1 (by omega)
      refine hcw _ (ih o.1 (cs.set s.2.1.toNat o.2.1) hset (by rw [List.length_set]; exact hlen) (by rw [hps]; omega) (by omega) (by omega) hset2) _ ?_
      refine (congrArg (fun z => Option.bind z _) e1).trans ?_
      simp only [Option.bind_some, if_pos hb2, hcc, cost_eq, hw.time, decide_true, Bool.not_true, Bool.false_eq_true, if_false]
      by_cases k4 : s.1 = 4
      · rw [decide_eq_true k4]
        simp only [Bool.not_true, Bool.false_eq_true, if_false, Option.bind_some]
        rw [if_pos hb2, w64 (x := i + 1) (by omega) (by omega)]
      · rw [decide_eq_false k4, hw.same k4]
        simp only [Bool.not_false, if_true]
        rw [sameBlocks_refl (by have := hG.1; omega)]
        simp only [Option.bind_some, Bool.not_true, Bool.false_eq_true, if_false]
        rw [if_pos hb2, w64 (x := i + 1) (by omega) (by omega)]
theorem pure_DriveCosts : ∀ (a0 : Int × Int × Int × Int × Int) (a1 : List (ByteArray × (Int × Int × Int × Int × Int × Int) × Bool × Bool × (List (Bool × Bool × List Int)) × Int × Int × Int)) (a2 : List (Int × Int × Int × List (Bool × Bool × List Int))), OkT kDriveModel a0 → OkT (.slice kCartridge) a1 → OkT (.slice ktapearchivelaw11_Step) a2 → ∃ d, tapearchivelaw11_DriveCosts d a0 a1 a2 = some true := by
  intro m cs l _ hc hs
  haveI hBig : Big (10000 + szs cs) := ⟨by omega⟩
  refine ⟨10000 + szs cs, ?_⟩
  unfold tapearchivelaw11_DriveCosts
  rw [lives_eq]
  simp only [Option.bind_some, Bool.not_true, Bool.false_eq_true, if_false]
  rcases few_eq (D := 10000 + szs cs) cs l 60 (by omega) with h | ⟨h, h1, h2, h3, h4⟩
  · rw [h]; rfl
  rw [h]
  have hG : ∀ c ∈ cs, GI (10000 + szs cs) c := fun c hm => GI_lt (h3 c hm) ⟨by have := szs_mem hm; omega, by have : c.1.size ≤ maxLen := (hc.2 c hm).1; simp only [maxLen] at this; omega⟩
  have hok : ∀ s ∈ l, s.2.2.1 ≤ 9223372036854775807 ∧ Lt s.2.2.2 := fun s hm => ⟨(ok64 (n := s.2.2.1) (hs.2 s hm).2.2.1).2, h4 s hm⟩
  simp only [Option.bind_some, Bool.not_true, Bool.false_eq_true, if_false]
  have e0 := costs_l0 (D := 10000 + szs cs) cs hG h1 l m cs.length (10000 + szs cs) 0 (by omega) (by omega) (by omega) (fun c hc => by simp at hc)
  rw [Int.toNat_zero, List.take_zero] at e0
  simp only [ps] at e0
  rcases e0 with e0 | ⟨e0, hpb⟩
  · rw [e0]; rfl
  rw [e0]
  simp only [Option.bind_some]
  rw [show ((0, ByteArray.empty, 0, 0, 0, 0) : Drv) = zD from rfl]
  rcases costs_l2 (D := 10000 + szs cs) l hok (by omega) m (ps cs) l.length (10000 + szs cs) 0 zD cs (by omega) (by omega) (by omega) hG h1 (by show (0 : Int) = _; omega) (by show (0 : Int) ≤ 0; omega) (by show (0 : Int) ≤ _; omega) (fun c hc => by have := hpb c hc; omega) with e | ⟨v', cs', e, l4, hv, hb⟩
  · rw [e]; rfl
  · rw [e]
    simp only [Option.bind_some]
    have e4 := costs_l4 (D := 10000 + szs cs) (ps cs) v' cs' hb l4 cs'.length (10000 + szs cs) 0 (by omega) (by omega) (by omega)
    rw [Int.toNat_zero, List.take_zero] at e4
    simp only [ps] at e4
    rw [e4]
    simp only [Option.bind_some]
    have b1 := ps_b (B := 140737488355328) (by omega) cs hpb
    have b2 := ps_b (B := 562949953421312) (by omega) cs' hb
    have m1 : 140737488355328 * (cs.length : Int) ≤ 140737488355328 * 4 := Int.mul_le_mul_of_nonneg_left (by omega) (by omega)
    have m2 : 562949953421312 * (cs'.length : Int) ≤ 562949953421312 * 4 := Int.mul_le_mul_of_nonneg_left (by omega) (by omega)
    rw [w64 (by omega) (by omega), hv, decide_eq_true rfl]
end Go.Proofs.Ytlkjklacanedoaa.Den.G11
