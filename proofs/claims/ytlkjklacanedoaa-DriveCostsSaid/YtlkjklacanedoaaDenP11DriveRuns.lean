/- The law DriveRuns holds of the plain functions, for any cartridges and operations. -/
import Derived.Test.YtlkjklacanedoaaDenS26
import Derived.Test.YtlkjklacanedoaaDenP11y
set_option linter.unusedVariables false
namespace Go.Proofs.Ytlkjklacanedoaa.Den.G11
open Go.Proofs.Ytlkjklacanedoaa.Den Go
/-- The sizes of the barcodes. -/
def szs : List Cart → Nat
  | [] => 0
  | c :: l => c.1.size + szs l
theorem szs_mem : ∀ {l : List Cart} {c : Cart}, c ∈ l → c.1.size ≤ szs l
  | [], c, h => by simp at h
  | a :: l, c, h => by
    unfold szs
    rcases List.mem_cons.1 h with rfl | h
    · omega
    · have := szs_mem h; omega
theorem runs_l0 {D : Nat} [hBig : Big D] (cs : List Cart) (hcs : ∀ c ∈ cs, GI D c) (hy : cs.length ≤ 4) (l : List Stp) (m : Mdl) : ∀ (n k : Nat) (i : Int), 0 ≤ i → i + n = cs.length → n < k →
    tapearchivelaw11_DriveRuns_l0 D k cs l i m (cs.take i.toNat) = some (l, m, cs) := by
  intro n
  induction n with
  | zero =>
    intro k i h0 h1 hk
    obtain ⟨k, rfl⟩ : ∃ j, k = j + 1 := ⟨k - 1, by omega⟩
    simp only [tapearchivelaw11_DriveRuns_l0, decide_eq_true_eq]
    rw [if_neg (by omega), List.take_of_length_le (by omega)]
  | succ n ih =>
    intro k i h0 h1 hk
    obtain ⟨k, rfl⟩ : ∃ j, k = j + 1 := ⟨k - 1, by omega⟩
    have ih := ih k (i + 1) (by omega) (by omega) (by omega)
    have hlt : i.toNat < cs.length := by omega
    have hb : (0 : Int) ≤ i ∧ i < (cs.length : Int) := by omega
    have hG := hcs _ (mem_getD (z := zCartridge) hb.1 hb.2)
    rw [show (i + 1).toNat = i.toNat + 1 by omega, List.take_add_one, List.getElem?_eq_getElem hlt, ← getD_get (z := zCartridge) hlt] at ih
    simp only [tapearchivelaw11_DriveRuns_l0, decide_eq_true_eq, if_pos hb, if_pos hb.2]
    rw [copC_eq (by have := hG.1; omega) hG.2.1]
    simp only [Option.bind_some]
    rw [if_pos (by simp only [List.length_take, List.length_singleton]; omega), w64 (by omega) (by omega)]
    exact ih
theorem runs_l2 {D : Nat} [hBig : Big D] (l : List Stp) (hl : ∀ s ∈ l, s.2.2.1 ≤ 9223372036854775807 ∧ Lt s.2.2.2) (hy : l.length ≤ 100) (m : Mdl) : ∀ (n k : Nat) (i : Int) (v : Drv) (cs : List Cart), 0 ≤ i → i + n = l.length → n < k → (∀ c ∈ cs, GI D c) →
    tapearchivelaw11_DriveRuns_l2 D k l i m v cs = some (.inl ()) ∨ tapearchivelaw11_DriveRuns_l2 D k l i m v cs = some (.inr true) := by
  intro n
  induction n with
  | zero =>
    intro k i v cs h0 h1 hk hcs
    obtain ⟨k, rfl⟩ : ∃ j, k = j + 1 := ⟨k - 1, by omega⟩
    simp only [tapearchivelaw11_DriveRuns_l2, decide_eq_true_eq]
    rw [if_neg (by omega)]
    exact .inl rfl
  | succ n ih =>
    intro k i v cs h0 h1 hk hcs
    obtain ⟨k, rfl⟩ : ∃ j, k = j + 1 := ⟨k - 1, by omega⟩
    have ih := fun v cs => ih k (i + 1) v cs (by omega) (by omega) (by omega)
    have hb : (0 : Int) ≤ i ∧ i < (l.length : Int) := by omega
    obtain ⟨q1, q2⟩ := hl _ (mem_getD (z := ztapearchivelaw11_Step) hb.1 hb.2)
    simp only [tapearchivelaw11_DriveRuns_l2, decide_eq_true_eq, if_pos hb, if_pos hb.2]
    by_cases p1 : (l.getD i.toNat ztapearchivelaw11_Step).2.1 < 0
    · right; rw [if_pos p1]; rfl
    rw [if_neg p1]
    by_cases p2 : (l.getD i.toNat ztapearchivelaw11_Step).2.1 ≥ (cs.length : Int)
    · right; rw [if_pos p2]; rfl
    rw [if_neg p2]
    have hb2 : (0 : Int) ≤ (l.getD i.toNat ztapearchivelaw11_Step).2.1 ∧ (l.getD i.toNat ztapearchivelaw11_Step).2.1 < (cs.length : Int) := by omega
    have hG := hcs _ (mem_getD (z := zCartridge) hb2.1 hb2.2)
    simp only [Option.bind_some, if_pos hb, if_pos hb2]
    have hG1 : (cs.getD (l.getD i.toNat ztapearchivelaw11_Step).2.1.toNat zCartridge).2.2.2.2.1.length ≤ 9000 := by have := hG.1; omega
    have hq2 : (l.getD i.toNat ztapearchivelaw11_Step).2.2.2.length ≤ 4000 := by have := q2.1; omega
    rw [copC_eq hG1 hG.2.1]
    simp only [Option.bind_some]
    rw [program_eq hG1 hG.2.2 q1 hq2]
    simp only [Option.bind_some]
    rw [document_eq hG1 hG.2.2 q1 hq2]
    have hop := op_GI (m := m) (v := v) hG q2
    generalize op m v (cs.getD (l.getD i.toNat ztapearchivelaw11_Step).2.1.toNat zCartridge) (l.getD i.toNat ztapearchivelaw11_Step) = o at hop ⊢
    simp only [Option.bind_some, decide_true, Bool.and_self, Bool.not_true, Bool.false_eq_true, if_false]
    rw [same_refl _ (by have := hop.1.1; omega)]
    simp only [Option.bind_some, Bool.not_true, Bool.false_eq_true, if_false]
    rw [sameBlocks_refl (by have := hop.2; omega)]
    simp only [Option.bind_some, Bool.not_true, Bool.false_eq_true, if_false]
    have hset : ∀ c ∈ cs.set (l.getD i.toNat ztapearchivelaw11_Step).2.1.toNat o.2.1, GI D c := by
      intro c hc
      rcases List.mem_or_eq_of_mem_set hc with hc | rfl
      · exact hcs c hc
      · exact hop.1
    rw [w64 (x := i + 1) (by omega) (by omega)]
    by_cases e0 : o.2.2.2.2 = 0
    · rw [if_pos e0, if_pos hb2]
      exact ih _ _ hset
    · rw [if_neg e0]
      by_cases e1 : o.2.2.2.2 = 15
      · rw [if_pos e1, if_pos hb2]
        exact ih _ _ hset
      · rw [if_neg e1]
        exact ih _ _ hcs
theorem pure_DriveRuns : ∀ (a0 : Int × Int × Int × Int × Int) (a1 : List (ByteArray × (Int × Int × Int × Int × Int × Int) × Bool × Bool × (List (Bool × Bool × List Int)) × Int × Int × Int)) (a2 : List (Int × Int × Int × List (Bool × Bool × List Int))), OkT kDriveModel a0 → OkT (.slice kCartridge) a1 → OkT (.slice ktapearchivelaw11_Step) a2 → ∃ d, tapearchivelaw11_DriveRuns d a0 a1 a2 = some true := by
  intro m cs l _ hc hs
  haveI hBig : Big (10000 + szs cs) := ⟨by omega⟩
  refine ⟨10000 + szs cs, ?_⟩
  unfold tapearchivelaw11_DriveRuns
  rw [lives_eq]
  simp only [Option.bind_some, Bool.not_true, Bool.false_eq_true, if_false]
  rcases few_eq (D := 10000 + szs cs) cs l 60 (by omega) with h | ⟨h, h1, h2, h3, h4⟩
  · rw [h]; rfl
  rw [h]
  have hG : ∀ c ∈ cs, GI (10000 + szs cs) c := fun c hm => GI_lt (h3 c hm) ⟨by have := szs_mem hm; omega, by have : c.1.size ≤ maxLen := (hc.2 c hm).1; simp only [maxLen] at this; omega⟩
  have hok : ∀ s ∈ l, s.2.2.1 ≤ 9223372036854775807 ∧ Lt s.2.2.2 := fun s hm => ⟨(ok64 (n := s.2.2.1) (hs.2 s hm).2.2.1).2, h4 s hm⟩
  have e0 := runs_l0 (D := 10000 + szs cs) cs hG h1 l m cs.length (10000 + szs cs) 0 (by omega) (by omega) (by omega)
  rw [Int.toNat_zero, List.take_zero] at e0
  simp only [Option.bind_some, Bool.not_true, Bool.false_eq_true, if_false]
  rw [e0]
  simp only [Option.bind_some]
  rcases runs_l2 (D := 10000 + szs cs) l hok (by omega) m l.length (10000 + szs cs) 0 zD cs (by omega) (by omega) (by omega) hG with e | e
  · rw [show ((0, ByteArray.empty, 0, 0, 0, 0) : Drv) = zD from rfl, e]; rfl
  · rw [show ((0, ByteArray.empty, 0, 0, 0, 0) : Drv) = zD from rfl, e]; rfl
end Go.Proofs.Ytlkjklacanedoaa.Den.G11
