/- The law DriveWears holds of the plain functions, for any drive, cartridge and operations. -/
import Derived.Test.YtlkjklacanedoaaDenS26
import Derived.Test.YtlkjklacanedoaaDenP11y
set_option linter.unusedVariables false
namespace Go.Proofs.Ytlkjklacanedoaa.Den.G11
open Go.Proofs.Ytlkjklacanedoaa.Den Go
theorem wears_l0 {D : Nat} [hBig : Big D] (m : Mdl) (v : Drv) (c : Cart) (hG : GI D c) (l : List Stp) (hl : ∀ s ∈ l, s.2.2.1 ≤ 9223372036854775807 ∧ s.2.2.2.length ≤ 4000) (hy : l.length ≤ 100) : ∀ (n k : Nat) (i : Int), 0 ≤ i → i + n = l.length → n < k →
    tapearchivelaw11_DriveWears_l0 D k l i m (2, v.2) c = some (.inl ()) := by
  intro n
  induction n with
  | zero =>
    intro k i h0 h1 hk
    obtain ⟨k, rfl⟩ : ∃ j, k = j + 1 := ⟨k - 1, by omega⟩
    simp only [tapearchivelaw11_DriveWears_l0, decide_eq_true_eq]
    rw [if_neg (by omega)]
  | succ n ih =>
    intro k i h0 h1 hk
    obtain ⟨k, rfl⟩ : ∃ j, k = j + 1 := ⟨k - 1, by omega⟩
    have ih := ih k (i + 1) (by omega) (by omega) (by omega)
    have hb : (0 : Int) ≤ i ∧ i < (l.length : Int) := by omega
    obtain ⟨q1, q2⟩ := hl _ (mem_getD (z := ztapearchivelaw11_Step) hb.1 hb.2)
    have hD := hBig.h
    simp only [tapearchivelaw11_DriveWears_l0, decide_eq_true_eq, if_pos hb, if_pos hb.2]
    rw [copC_eq (by have := hG.1; omega) hG.2.1]
    simp only [Option.bind_some]
    rw [program_eq (by have := hG.1; omega) hG.2.2 q1 q2, w64 (by omega) (by omega), ih]
    simp only [Option.bind_some]
    rcases failed m v c (l.getD i.toNat ztapearchivelaw11_Step) with h | h
    · rw [h]; rfl
    · rw [h]; rfl
theorem pure_DriveWears : ∀ (a0 : Int × Int × Int × Int × Int) (a1 : Int × ByteArray × Int × Int × Int × Int) (a2 : ByteArray × (Int × Int × Int × Int × Int × Int) × Bool × Bool × (List (Bool × Bool × List Int)) × Int × Int × Int) (a3 : List (Int × Int × Int × List (Bool × Bool × List Int))), OkT kDriveModel a0 → OkT kDrive a1 → OkT kCartridge a2 → OkT (.slice ktapearchivelaw11_Step) a3 → ∃ d, tapearchivelaw11_DriveWears d a0 a1 a2 a3 = some true := by
  intro m v c l _ _ hc hs
  have hsz : c.1.size ≤ maxLen := hc.1
  simp only [maxLen] at hsz
  haveI : Big (10000 + c.1.size) := ⟨by omega⟩
  refine ⟨10000 + c.1.size, ?_⟩
  unfold tapearchivelaw11_DriveWears
  rw [lives_eq]
  simp only [Option.bind_some, Bool.not_true, Bool.false_eq_true, if_false]
  rcases few_eq (D := 10000 + c.1.size) [c] l 20 (by omega) with h | ⟨h, _, h2, h3, h4⟩
  · rw [h]; rfl
  · rw [h]
    have hl := h3 c (by simp)
    have hG : GI (10000 + c.1.size) c := GI_lt hl (by omega)
    have hok : ∀ s ∈ l, s.2.2.1 ≤ 9223372036854775807 ∧ s.2.2.2.length ≤ 4000 := fun s hm => ⟨(ok64 (n := s.2.2.1) (hs.2 s hm).2.2.1).2, by have := (h4 s hm).1; omega⟩
    have hw := wears_l0 (D := 10000 + c.1.size) m v c hG l hok (by omega) l.length (10000 + c.1.size) 0 (by omega) (by omega) (by omega)
    simp only [Option.bind_some, Bool.not_true, Bool.false_eq_true, if_false]
    rw [copC_eq hl.len hl.data]
    simp only [Option.bind_some]
    rw [load_eq hl.len hG.2.2]
    simp only [Option.bind_some, due_eq, clean_eq]
    have e1 : (if decide ((LoadP m v c).2.2.2 = 0) = true then (if due m v = true then some (.inr false) else if (!decide (v.1 = 0)) = true then some (.inr false) else some (.inl (l, m, v, c))) else some (.inl (l, m, v, c)) : Option ((List Stp × Mdl × Drv × Cart) ⊕ Bool)) = some (.inl (l, m, v, c)) := by
      by_cases h0 : le m v c = 0
      · obtain ⟨_, _, _, k4, k5⟩ := le_0 h0
        have : (LoadP m v c).2.2.2 = 0 := by unfold LoadP; rw [if_pos h0]
        rw [this, k5, k4]; rfl
      · have : (LoadP m v c).2.2.2 = le m v c := by unfold LoadP; rw [if_neg h0]
        rw [this, decide_eq_false h0]; rfl
    have e2 : (if due m v = true then (if decide ((CleanP m v).2.2 = 0) = true then (if due m (CleanP m v).1 = true then some (.inr false) else if (!decide ((CleanP m v).1.2.2.2.2.2 = 0)) = true then some (.inr false) else some (.inl (l, m, v, c))) else some (.inl (l, m, v, c))) else some (.inl (l, m, v, c)) : Option ((List Stp × Mdl × Drv × Cart) ⊕ Bool)) = some (.inl (l, m, v, c)) := by
      by_cases hd : due m v = true
      · rw [if_pos hd]
        by_cases h0 : ce m v = 0
        · have hcl : CleanP m v = ((v.1, v.2.1, v.2.2.1, v.2.2.2.1, v.2.2.2.2.1, 0), m.2.2.1, 0) := by unfold CleanP; rw [if_pos h0]
          rw [hcl]
          have : due m (v.1, v.2.1, v.2.2.1, v.2.2.2.1, v.2.2.2.2.1, 0) = false := by
            unfold due
            exact decide_eq_false (by simp only; omega)
          rw [this]; rfl
        · have hcl : (CleanP m v).2.2 = ce m v := by unfold CleanP; rw [if_neg h0]
          rw [hcl, decide_eq_false h0]; rfl
      · rw [if_neg hd]
    refine (congrArg (fun z => Option.bind z _) e1).trans ?_
    simp only [Option.bind_some]
    refine (congrArg (fun z => Option.bind z _) e2).trans ?_
    simp only [Option.bind_some]
    rw [hw]; rfl
end Go.Proofs.Ytlkjklacanedoaa.Den.G11
