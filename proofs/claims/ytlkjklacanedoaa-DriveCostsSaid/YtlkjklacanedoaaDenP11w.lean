/- What functions of layer 11 compute: the guards of the laws, one operation. -/
import Derived.Test.YtlkjklacanedoaaDenP11v
import Derived.KernelRfl
namespace Go.Proofs.Ytlkjklacanedoaa.Den.G11
open Go.Proofs.Ytlkjklacanedoaa.Den Go
set_option linter.unusedVariables false
set_option linter.unusedSectionVars false
set_option linter.unusedSimpArgs false
set_option maxRecDepth 10000
variable {D : Nat} [hBig : Big D]
def liveBlk (i : Int) : Blk := (false, false, [i])
def liveC : Cart := (⟨#[65]⟩, (2, 10, 1, 5, 3, 2), false, false, [liveBlk 0, liveBlk 1, liveBlk 2, liveBlk 3, liveBlk 4, liveBlk 5, liveBlk 6, liveBlk 7, liveBlk 8, liveBlk 9, liveBlk 10, liveBlk 11], 0, 0, 0)
def liveM : Mdl := (40, 30, 20, 1000, 0)
theorem lives_l0 (d k : Nat) : tapearchivelaw11_lives_l0 d (k + 13) 0 liveM ⟨#[65]⟩ 2 10 1 5 3 2 false false 0 0 0 [] = some (liveM, liveC.1, 2, 10, 1, 5, 3, 2, false, false, 0, 0, 0, liveC.2.2.2.2.1) := by kernel_rfl
theorem LoadP_live : LoadP liveM zD liveC = ((1, ⟨#[65]⟩, 0, 1, 0, 0), (⟨#[65]⟩, (2, 10, 1, 5, 3, 2), false, false, liveC.2.2.2.2.1, 0, 1, 0), 40, 0) := by kernel_rfl
theorem SeekP_live : SeekP liveM (1, ⟨#[65]⟩, 0, 1, 0, 0) (⟨#[65]⟩, (2, 10, 1, 5, 3, 2), false, false, liveC.2.2.2.2.1, 0, 1, 0) 9 = ((1, ⟨#[65]⟩, 9, 1, 900, 900), (⟨#[65]⟩, (2, 10, 1, 5, 3, 2), false, false, liveC.2.2.2.2.1, 0, 1, 900), 9, 0) := by kernel_rfl
theorem ReadP_live : ReadP liveM (1, ⟨#[65]⟩, 9, 1, 900, 900) (⟨#[65]⟩, (2, 10, 1, 5, 3, 2), false, false, liveC.2.2.2.2.1, 0, 1, 900) 2 = ((1, ⟨#[65]⟩, 11, 1, 1000, 1000), (⟨#[65]⟩, (2, 10, 1, 5, 3, 2), false, false, liveC.2.2.2.2.1, 0, 1, 1000), [liveBlk 9, liveBlk 10], 12, 0) := by kernel_rfl
theorem UnloadP_live : (UnloadP liveM (1, ⟨#[65]⟩, 11, 1, 1000, 1000) (⟨#[65]⟩, (2, 10, 1, 5, 3, 2), false, false, liveC.2.2.2.2.1, 0, 1, 1000)).2.2 = (46, 0) ∧ (UnloadP liveM (1, ⟨#[65]⟩, 11, 1, 1000, 1000) (⟨#[65]⟩, (2, 10, 1, 5, 3, 2), false, false, liveC.2.2.2.2.1, 0, 1, 1000)).1.1 = 0 ∧ due liveM (UnloadP liveM (1, ⟨#[65]⟩, 11, 1, 1000, 1000) (⟨#[65]⟩, (2, 10, 1, 5, 3, 2), false, false, liveC.2.2.2.2.1, 0, 1, 1000)).1 = true ∧ worn liveM (UnloadP liveM (1, ⟨#[65]⟩, 11, 1, 1000, 1000) (⟨#[65]⟩, (2, 10, 1, 5, 3, 2), false, false, liveC.2.2.2.2.1, 0, 1, 1000)).2.1 = false := ⟨by kernel_rfl, by kernel_rfl, by kernel_rfl, by kernel_rfl⟩
theorem lives_eq : tapearchivelaw11_lives D = some true := by
  have hD := hBig.h
  obtain ⟨k, hk⟩ : ∃ k, D = k + 13 := ⟨D - 13, by omega⟩
  have h0 := lives_l0 D k
  rw [← hk] at h0
  have h0 : tapearchivelaw11_lives_l0 D D 0 (40, 30, 20, 1000, 0) ⟨#[65]⟩ 2 10 1 5 3 2 false false 0 0 0 [] = some (liveM, liveC.1, 2, 10, 1, 5, 3, 2, false, false, 0, 0, 0, liveC.2.2.2.2.1) := h0
  have hz : liveC.1.size = 1 := by kernel_rfl
  have hz2 : (⟨#[65]⟩ : ByteArray).size = 1 := by kernel_rfl
  have hl : liveC.2.2.2.2.1.length = 12 := by kernel_rfl
  have e1 : drive_Load D liveM zD (liveC.1, (2, 10, 1, 5, 3, 2), false, false, liveC.2.2.2.2.1, 0, 0, 0) = _ := load_eq (c := liveC) (by omega) (by omega)
  rw [LoadP_live] at e1
  have e2 : drive_Seek D liveM _ _ 9 = _ := seek_eq (m := liveM) (v := (1, ⟨#[65]⟩, 0, 1, 0, 0)) (c := (⟨#[65]⟩, (2, 10, 1, 5, 3, 2), false, false, liveC.2.2.2.2.1, 0, 1, 0)) (show liveC.2.2.2.2.1.length ≤ 9000 by omega) (show (⟨#[65]⟩ : ByteArray).size < D ∧ (⟨#[65]⟩ : ByteArray).size ≤ 9223372036854775807 by omega) 9
  rw [SeekP_live] at e2
  have e3 := read11_eq (m := liveM) (v := (1, ⟨#[65]⟩, 9, 1, 900, 900)) (c := (⟨#[65]⟩, (2, 10, 1, 5, 3, 2), false, false, liveC.2.2.2.2.1, 0, 1, 900)) (show liveC.2.2.2.2.1.length ≤ 9000 by omega) (show (⟨#[65]⟩ : ByteArray).size < D ∧ (⟨#[65]⟩ : ByteArray).size ≤ 9223372036854775807 by omega) 2 (by omega)
  rw [ReadP_live] at e3
  have e4 := unload_eq (m := liveM) (v := (1, ⟨#[65]⟩, 11, 1, 1000, 1000)) (c := (⟨#[65]⟩, (2, 10, 1, 5, 3, 2), false, false, liveC.2.2.2.2.1, 0, 1, 1000)) (show liveC.2.2.2.2.1.length ≤ 9000 by omega) (show (⟨#[65]⟩ : ByteArray).size < D ∧ (⟨#[65]⟩ : ByteArray).size ≤ 9223372036854775807 by omega)
  obtain ⟨u1, u2, u3, u4⟩ := UnloadP_live
  generalize UnloadP liveM (1, ⟨#[65]⟩, 11, 1, 1000, 1000) (⟨#[65]⟩, (2, 10, 1, 5, 3, 2), false, false, liveC.2.2.2.2.1, 0, 1, 1000) = U at e4 u1 u2 u3 u4
  obtain ⟨U1, U2, U3, U4⟩ := U
  simp only [Prod.mk.injEq] at u1 u2
  obtain ⟨rfl, rfl⟩ := u1
  unfold tapearchivelaw11_lives
  rw [h0]
  simp only [Option.bind_some]
  rw [show ((0, ByteArray.empty, 0, 0, 0, 0) : Drv) = zD from rfl, e1]
  simp only [Option.bind_some]
  rw [e2]
  simp only [Option.bind_some]
  rw [e3]
  simp only [Option.bind_some, decide_true, Bool.not_true, Bool.false_eq_true, if_false]
  simp only [liveBlk, List.length_cons, List.length_nil, List.getD_cons_succ, List.getD_cons_zero]
  simp only [Nat.zero_add, Nat.reduceAdd, Int.cast_ofNat_Int, decide_true, Bool.not_true, Bool.false_eq_true, if_false]
  simp
  rw [e4]
  simp only [Option.bind_some]
  simp [u2, due_eq, worn_eq, u3, u4]
theorem small_l0 (d : Nat) (l : List Blk) (hy : (l.length : Int) ≤ 9223372036854775806) : ∀ (m k : Nat) (i : Int), 0 ≤ i → i + m = l.length → m < k →
    tapearchivelaw11_small_l0 d k l i = some (if (l.drop i.toNat).all (fun b => decide (b.2.2.length ≤ 200)) = true then .inl () else .inr false) := by
  intro m
  induction m with
  | zero =>
    intro k i h0 h1 hk
    obtain ⟨k, rfl⟩ : ∃ j, k = j + 1 := ⟨k - 1, by omega⟩
    rw [List.drop_of_length_le (by omega)]
    simp only [tapearchivelaw11_small_l0, decide_eq_true_eq]
    rw [if_neg (by omega)]
    rfl
  | succ m ih =>
    intro k i h0 h1 hk
    obtain ⟨k, rfl⟩ : ∃ j, k = j + 1 := ⟨k - 1, by omega⟩
    have ih := ih k (i + 1) (by omega) (by omega) (by omega)
    rw [drop_getD zBlock h0 (by omega), List.all_cons]
    simp only [tapearchivelaw11_small_l0, decide_eq_true_eq]
    rw [if_pos (by omega), if_pos (by omega), w64 (by omega) (by omega), ih]
    split
    · rw [decide_eq_false (by omega)]; rfl
    · rw [decide_eq_true (by omega), Bool.true_and]
theorem small_eq (l : List Blk) (h : l.length ≤ 300) : ∃ b, tapearchivelaw11_small D l = some b ∧ (b = true → Lt l) := by
  have hD := hBig.h
  unfold tapearchivelaw11_small
  rw [small_l0 D l (by omega) l.length D 0 (by omega) (by omega) (by omega), Int.toNat_zero, List.drop_zero]
  by_cases o : l.all (fun b => decide (b.2.2.length ≤ 200)) = true
  · rw [if_pos o]
    exact ⟨_, rfl, fun _ => ⟨by omega, fun b hb => of_decide_eq_true (List.all_eq_true.1 o b hb)⟩⟩
  · rw [if_neg o]
    exact ⟨_, rfl, fun h => by cases h⟩
abbrev Stp := Int × Int × Int × List Blk
/-- Cartridges and operations that are few and small. -/
theorem few_l0 (cs : List Cart) (hy : cs.length ≤ 4) (l : List Stp) : ∀ (m k : Nat) (i : Int), 0 ≤ i → i + m = cs.length → m < k →
    tapearchivelaw11_few_l0 D k cs l i = some (.inr false) ∨ (tapearchivelaw11_few_l0 D k cs l i = some (.inl l) ∧ ∀ c ∈ cs.drop i.toNat, Lt c.2.2.2.2.1) := by
  have hD := hBig.h
  intro m
  induction m with
  | zero =>
    intro k i h0 h1 hk
    obtain ⟨k, rfl⟩ : ∃ j, k = j + 1 := ⟨k - 1, by omega⟩
    rw [List.drop_of_length_le (by omega)]
    simp only [tapearchivelaw11_few_l0, decide_eq_true_eq]
    rw [if_neg (by omega)]
    exact .inr ⟨rfl, fun c h => by simp at h⟩
  | succ m ih =>
    intro k i h0 h1 hk
    obtain ⟨k, rfl⟩ : ∃ j, k = j + 1 := ⟨k - 1, by omega⟩
    have ih := ih k (i + 1) (by omega) (by omega) (by omega)
    rw [drop_getD zCartridge h0 (by omega)]
    have hb : (0 : Int) ≤ i ∧ i < (cs.length : Int) := by omega
    simp only [tapearchivelaw11_few_l0, decide_eq_true_eq, if_pos hb, if_pos hb.2]
    rw [w64 (x := i + 1) (by omega) (by omega)]
    generalize cs.getD i.toNat zCartridge = c
    by_cases q : (c.2.2.2.2.1.length : Int) > 200
    · rw [if_pos q]; exact .inl rfl
    · rw [if_neg q]
      obtain ⟨b, hb, hlt⟩ := small_eq (D := D) c.2.2.2.2.1 (by omega)
      rw [hb]
      cases b with
      | false => exact .inl rfl
      | true =>
        simp only [Option.bind_some, Bool.not_true, Bool.false_eq_true, if_false]
        rcases ih with h | ⟨h, h2⟩
        · exact .inl h
        · exact .inr ⟨h, fun x hx => by
            rcases List.mem_cons.1 hx with rfl | hx
            · exact hlt rfl
            · exact h2 x hx⟩
theorem few_l2 (l : List Stp) (hy : l.length ≤ 100) : ∀ (m k : Nat) (i : Int), 0 ≤ i → i + m = l.length → m < k →
    tapearchivelaw11_few_l2 D k l i = some (.inr false) ∨ (tapearchivelaw11_few_l2 D k l i = some (.inl ()) ∧ ∀ s ∈ l.drop i.toNat, Lt s.2.2.2) := by
  have hD := hBig.h
  intro m
  induction m with
  | zero =>
    intro k i h0 h1 hk
    obtain ⟨k, rfl⟩ : ∃ j, k = j + 1 := ⟨k - 1, by omega⟩
    rw [List.drop_of_length_le (by omega)]
    simp only [tapearchivelaw11_few_l2, decide_eq_true_eq]
    rw [if_neg (by omega)]
    exact .inr ⟨rfl, fun c h => by simp at h⟩
  | succ m ih =>
    intro k i h0 h1 hk
    obtain ⟨k, rfl⟩ : ∃ j, k = j + 1 := ⟨k - 1, by omega⟩
    have ih := ih k (i + 1) (by omega) (by omega) (by omega)
    rw [drop_getD ztapearchivelaw11_Step h0 (by omega)]
    have hb : (0 : Int) ≤ i ∧ i < (l.length : Int) := by omega
    simp only [tapearchivelaw11_few_l2, decide_eq_true_eq, if_pos hb, if_pos hb.2]
    rw [w64 (x := i + 1) (by omega) (by omega)]
    generalize l.getD i.toNat ztapearchivelaw11_Step = s
    by_cases q : (s.2.2.2.length : Int) > 60
    · rw [if_pos q]; exact .inl rfl
    · rw [if_neg q]
      obtain ⟨b, hb, hlt⟩ := small_eq (D := D) s.2.2.2 (by omega)
      rw [hb]
      cases b with
      | false => exact .inl rfl
      | true =>
        simp only [Option.bind_some, Bool.not_true, Bool.false_eq_true, if_false]
        rcases ih with h | ⟨h, h2⟩
        · exact .inl h
        · exact .inr ⟨h, fun x hx => by
            rcases List.mem_cons.1 hx with rfl | hx
            · exact hlt rfl
            · exact h2 x hx⟩
theorem few_eq (cs : List Cart) (l : List Stp) (n : Int) (hn : n ≤ 100) : tapearchivelaw11_few D cs l n = some false ∨ (tapearchivelaw11_few D cs l n = some true ∧ cs.length ≤ 4 ∧ (l.length : Int) ≤ n ∧ (∀ c ∈ cs, Lt c.2.2.2.2.1) ∧ ∀ s ∈ l, Lt s.2.2.2) := by
  have hD := hBig.h
  unfold tapearchivelaw11_few
  simp only [decide_eq_true_eq]
  by_cases p1 : (cs.length : Int) > 4
  · rw [if_pos p1]; exact .inl rfl
  rw [if_neg p1]
  by_cases p2 : (l.length : Int) > n
  · rw [if_pos p2]; exact .inl rfl
  rw [if_neg p2]
  simp only [Option.bind_some]
  rcases few_l0 (D := D) cs (by omega) l cs.length D 0 (by omega) (by omega) (by omega) with h | ⟨h, h2⟩
  · rw [h]; exact .inl rfl
  · rw [h]
    simp only [Option.bind_some]
    rcases few_l2 (D := D) l (by omega) l.length D 0 (by omega) (by omega) (by omega) with h3 | ⟨h3, h4⟩
    · rw [h3]; exact .inl rfl
    · rw [h3]
      exact .inr ⟨rfl, by omega, by omega, by simpa using h2, by simpa using h4⟩
theorem copC_l0 (d : Nat) (c z : Cart) (hy : c.2.2.2.2.1.length ≤ 100000) (hd : ∀ b ∈ c.2.2.2.2.1, b.2.2.length ≤ 1000) : ∀ (m k : Nat) (i : Int), 0 ≤ i → i + m = c.2.2.2.2.1.length → m < k →
    tapearchiveref11_Copied_l0 d k i c z (c.2.2.2.2.1.take i.toNat) = some (c, z, c.2.2.2.2.1) := by
  intro m
  induction m with
  | zero =>
    intro k i h0 h1 hk
    obtain ⟨k, rfl⟩ : ∃ j, k = j + 1 := ⟨k - 1, by omega⟩
    simp only [tapearchiveref11_Copied_l0, decide_eq_true_eq]
    rw [if_neg (by omega), List.take_of_length_le (by omega)]
  | succ m ih =>
    intro k i h0 h1 hk
    obtain ⟨k, rfl⟩ : ∃ j, k = j + 1 := ⟨k - 1, by omega⟩
    have hlt : i.toNat < c.2.2.2.2.1.length := by omega
    have hm : c.2.2.2.2.1.getD i.toNat zBlock ∈ c.2.2.2.2.1 := mem_getD h0 (by omega)
    have hdb := hd _ hm
    have ih := ih k (i + 1) (by omega) (by omega) (by omega)
    rw [show (i + 1).toNat = i.toNat + 1 by omega, List.take_add_one, List.getElem?_eq_getElem hlt, ← getD_get (z := zBlock) hlt] at ih
    have hb : (0 : Int) ≤ i ∧ i < (c.2.2.2.2.1.length : Int) := by omega
    simp only [tapearchiveref11_Copied_l0, decide_eq_true_eq, if_pos hb, if_pos hb.2]
    rw [if_pos (by omega), if_pos (by simp only [List.length_take, List.length_singleton]; omega), w64 (by omega) (by omega), List.nil_append]
    exact ih
theorem copC_eq {c : Cart} (hy : c.2.2.2.2.1.length ≤ 9000) (hd : ∀ b ∈ c.2.2.2.2.1, b.2.2.length ≤ 1000) : tapearchiveref11_Copied D c = some c := by
  have hD := hBig.h
  unfold tapearchiveref11_Copied
  have h := copC_l0 D c zC (by omega) hd c.2.2.2.2.1.length D 0 (by omega) (by omega) (by omega)
  rw [Int.toNat_zero, List.take_zero] at h
  rw [show ((ByteArray.empty, (0, 0, 0, 0, 0, 0), false, false, [], 0, 0, 0) : Cart) = zC from rfl, h]
  rfl
abbrev Don := Drv × Cart × List Blk × Int × Int
/-- What an operation does. -/
def op (m : Mdl) (v : Drv) (c : Cart) (s : Stp) : Don :=
  if s.1 = 0 then ((LoadP m v c).1, (LoadP m v c).2.1, [], (LoadP m v c).2.2)
  else if s.1 = 1 then ((UnloadP m v c).1, (UnloadP m v c).2.1, [], (UnloadP m v c).2.2)
  else if s.1 = 2 then ((SeekP m v c s.2.2.1).1, (SeekP m v c s.2.2.1).2.1, [], (SeekP m v c s.2.2.1).2.2)
  else if s.1 = 3 then ReadP m v c s.2.2.1
  else if s.1 = 4 then ((WriteP m v c s.2.2.2).1, (WriteP m v c s.2.2.2).2.1, [], (WriteP m v c s.2.2.2).2.2)
  else ((CleanP m v).1, c, [], (CleanP m v).2)
theorem program_eq {m : Mdl} {v : Drv} {c : Cart} {s : Stp} (h1 : c.2.2.2.2.1.length ≤ 9000) (h2 : c.1.size < D ∧ c.1.size ≤ 9223372036854775807) (h3 : s.2.2.1 ≤ 9223372036854775807) (h4 : s.2.2.2.length ≤ 4000) : tapearchivelaw11_program D m v c s = some (op m v c s) := by
  unfold tapearchivelaw11_program op
  rw [load_eq h1 h2, unload_eq h1 h2, seek_eq h1 h2, read11_eq h1 h2 s.2.2.1 h3, write11_eq h1 h2 h4, clean_eq]
  simp only [Option.bind_some, decide_eq_true_eq]
  repeat' split
  all_goals rfl
theorem document_eq {m : Mdl} {v : Drv} {c : Cart} {s : Stp} (h1 : c.2.2.2.2.1.length ≤ 9000) (h2 : c.1.size < D ∧ c.1.size ≤ 9223372036854775807) (h3 : s.2.2.1 ≤ 9223372036854775807) (h4 : s.2.2.2.length ≤ 4000) : tapearchivelaw11_document D m v c s = some (op m v c s) := by
  unfold tapearchivelaw11_document op
  rw [rload_eq h1 h2, runload_eq h1 h2, rseek_eq h1 h2, rread11_eq h1 h2 s.2.2.1 h3, rwrite11_eq h1 h2 h4, rclean_eq]
  simp only [Option.bind_some, decide_eq_true_eq]
  repeat' split
  all_goals rfl
end Go.Proofs.Ytlkjklacanedoaa.Den.G11
