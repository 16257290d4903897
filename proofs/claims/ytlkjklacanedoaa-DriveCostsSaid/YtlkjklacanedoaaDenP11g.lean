/- What functions of layer 11 compute: writing. -/
import Derived.Test.YtlkjklacanedoaaDenP11f
namespace Go.Proofs.Ytlkjklacanedoaa.Den.G11
open Go.Proofs.Ytlkjklacanedoaa.Den Go
set_option linter.unusedVariables false
set_option linter.unusedSectionVars false
set_option linter.unusedSimpArgs false
variable {D : Nat} [hBig : Big D]
abbrev zC : Cart := (ByteArray.empty, (0, 0, 0, 0, 0, 0), false, false, [], 0, 0, 0)
def withB (c : Cart) (l : List Blk) : Cart := (c.1, c.2.1, c.2.2.1, c.2.2.2.1, l, c.2.2.2.2.2)
def capOfC (c : Cart) : Int := c.2.1.1 * c.2.1.2.1
/-- The code of writing blocks. -/
def wcode (c : Cart) (at_ : Int) (l : List Blk) : Int :=
  if okCart c = false ∨ l.any unfit = true then 8
  else if c.2.2.2.1 = true then 17
  else if at_ < 0 ∨ at_ > c.2.2.2.2.1.length then 7
  else if c.2.2.1 = true ∧ at_ < c.2.2.2.2.1.length then 17
  else if at_ + l.length > capOfC c then 12
  else 0
/-- What is written. -/
def W (c : Cart) (at_ : Int) (l : List Blk) : Cart × Int :=
  if wcode c at_ l = 0 then (withB c (if l = [] then c.2.2.2.2.1 else c.2.2.2.2.1.take at_.toNat ++ l), 0) else (zC, wcode c at_ l)
theorem okCart_g {c : Cart} (h : okCart c = true) : okG c.2.1 = true ∧ (c.2.2.2.2.1.length : Int) ≤ capOfC c ∧ capOfC c ≤ 4096 ∧ c.2.2.2.2.1.all okBlk = true := by
  simp only [okCart, Bool.and_eq_true, decide_eq_true_eq] at h
  obtain ⟨⟨⟨⟨⟨⟨h1, h2⟩, h3⟩, h4⟩, h5⟩, h6⟩, h7⟩ := h
  exact ⟨h2, h3, (okG_mul h2).2, h7⟩
theorem okBlk_len {b : Blk} (h : okBlk b = true) : b.2.2.length ≤ 64 := by
  unfold okBlk at h
  split at h
  · have := of_decide_eq_true h; omega
  · have := of_decide_eq_true h; omega
theorem okCart_data {c : Cart} (h : okCart c = true) : c.2.2.2.2.1.length ≤ 4096 ∧ ∀ b ∈ c.2.2.2.2.1, b.2.2.length ≤ 1000 := by
  obtain ⟨_, h1, h2, h3⟩ := okCart_g h
  refine ⟨by omega, fun b hb => ?_⟩
  have := okBlk_len (List.all_eq_true.1 h3 b hb)
  omega
theorem unfit_len {l : List Blk} (h : l.any unfit = false) : ∀ b ∈ l, b.2.2.length ≤ 64 ∧ b.2.1 = false ∧ okBlk b = true := by
  intro b hb
  have h0 : unfit b = false := by
    cases hu : unfit b with
    | false => rfl
    | true =>
      have : l.any unfit = true := List.any_eq_true.2 ⟨b, hb, hu⟩
      rw [h] at this; cases this
  unfold unfit at h0
  simp only [Bool.or_eq_false_iff, Bool.not_eq_false'] at h0
  exact ⟨okBlk_len h0.2, h0.1, h0.2⟩
theorem cap_ok {c : Cart} (h : okCart c = true) : serpentine_Capacity D c.2.1 = some (capOfC c) ∧ tapearchiveref09_Capacity D c.2.1 = some (capOfC c) := by
  have hD := hBig.h
  have hg := (okCart_g h).1
  rw [cap_eq, rcap_eq, if_pos hg]
  exact ⟨rfl, rfl⟩
theorem writable_eq {c : Cart} (h1 : c.2.2.2.2.1.length ≤ 9000) (h2 : c.1.size < D ∧ c.1.size ≤ 9223372036854775807) {at_ : Int} {l : List Blk} (hl : l.length ≤ 9000) : cartridge_writable D c at_ l = some (wcode c at_ l) := by
  have hD := hBig.h
  unfold cartridge_writable wcode
  rw [valid_eq h1 h2, anyU_eq (d := D) l (by omega) (by omega)]
  simp only [Option.bind_some, decide_eq_true_eq]
  cases ho : okCart c with
  | false => simp
  | true =>
    rw [(cap_ok ho).1]
    obtain ⟨hg, hc1, hc2, _⟩ := okCart_g ho
    cases hu : l.any unfit with
    | true => simp
    | false =>
      simp only [Bool.not_true, Bool.false_eq_true, if_false, Option.bind_some, false_or, Bool.true_eq_false]
      by_cases hk : c.2.2.2.1 = true
      · rw [if_pos hk, if_pos hk]
      · rw [if_neg hk, if_neg hk]
        by_cases ha : at_ < 0
        · rw [if_pos ha, if_pos (.inl ha)]
        · rw [if_neg ha]
          by_cases hb : at_ > (c.2.2.2.2.1.length : Int)
          · rw [if_pos hb, if_pos (.inr hb)]
          · rw [if_neg hb, if_neg (show ¬ (at_ < 0 ∨ at_ > (c.2.2.2.2.1.length : Int)) from fun h => h.elim ha hb), w64 (by omega) (by omega)]
            by_cases hw : c.2.2.1 = true
            · rw [if_pos hw]
              by_cases hx : at_ < (c.2.2.2.2.1.length : Int)
              · rw [if_pos hx, if_pos ⟨hw, hx⟩]
              · rw [if_neg hx, if_neg (show ¬ (c.2.2.1 = true ∧ at_ < (c.2.2.2.2.1.length : Int)) from fun h => hx h.2)]
                split <;> rfl
            · rw [if_neg hw, if_neg (show ¬ (c.2.2.1 = true ∧ at_ < (c.2.2.2.2.1.length : Int)) from fun h => hw h.1)]
              split <;> rfl
theorem wcode_0 {c : Cart} {at_ : Int} {l : List Blk} (h : wcode c at_ l = 0) : okCart c = true ∧ l.any unfit = false ∧ c.2.2.2.1 = false ∧ 0 ≤ at_ ∧ at_ ≤ c.2.2.2.2.1.length ∧ (c.2.2.1 = true → at_ = c.2.2.2.2.1.length) ∧ at_ + l.length ≤ capOfC c := by
  unfold wcode at h
  split at h
  · cases h
  rename_i h1
  split at h
  · cases h
  rename_i h2
  split at h
  · cases h
  rename_i h3
  split at h
  · cases h
  rename_i h4
  split at h
  · cases h
  rename_i h5
  simp only [not_or, Bool.not_eq_false, Bool.not_eq_true] at h1 h2
  refine ⟨h1.1, h1.2, h2, by omega, by omega, fun hw => ?_, by omega⟩
  have : ¬ at_ < (c.2.2.2.2.1.length : Int) := fun hx => h4 ⟨hw, hx⟩
  omega
theorem write_eq {c : Cart} (h1 : c.2.2.2.2.1.length ≤ 9000) (h2 : c.1.size < D ∧ c.1.size ≤ 9223372036854775807) {at_ : Int} {l : List Blk} (hl : l.length ≤ 9000) : cartridge_Write D c at_ l = some (W c at_ l) := by
  have hD := hBig.h
  unfold cartridge_Write W
  rw [writable_eq h1 h2 hl]
  simp only [Option.bind_some]
  by_cases h0 : wcode c at_ l = 0
  · obtain ⟨q1, q2, q3, q4, q5, q6, q7⟩ := wcode_0 h0
    obtain ⟨d1, d2⟩ := okCart_data q1
    have hul := unfit_len q2
    rw [if_pos h0, h0]
    simp only [decide_true, Bool.not_true, Bool.false_eq_true, if_false, decide_eq_true_eq]
    by_cases he : l = []
    · subst he
      rw [if_pos (by simp), copied_eq (by omega) d2]
      simp [cartridge_with, withB]
    · have hne : ¬ ((l.length : Int) = 0) := by
        intro h; exact he (List.eq_nil_of_length_eq_zero (by omega))
      rw [if_neg hne, if_neg he, if_pos (by omega), if_pos trivial, List.drop_zero, copied_eq (by rw [List.length_take]; omega) (fun b hb => d2 b (List.mem_of_mem_take hb)), copied_eq hl (fun b hb => by have := (hul b hb).1; omega)]
      simp only [Option.bind_some]
      rw [if_pos (by rw [List.length_take]; omega)]
      rfl
  · rw [if_neg h0]
    simp only [decide_eq_false h0, Bool.not_false, if_true]
theorem rWrite_l0 (d : Nat) (l : List Blk) (hy : (l.length : Int) ≤ 9223372036854775806) (at_ : Int) (c z : Cart) : ∀ (m k : Nat) (i : Int), 0 ≤ i → i + m = l.length → m < k →
    tapearchiveref10_Write_l0 d k at_ l i c z = some (if (l.drop i.toNat).any unfit = true then .inr (zC, 8) else .inl (at_, l, c, z)) := by
  intro m
  induction m with
  | zero =>
    intro k i h0 h1 hk
    obtain ⟨k, rfl⟩ : ∃ j, k = j + 1 := ⟨k - 1, by omega⟩
    rw [List.drop_of_length_le (by omega)]
    simp only [tapearchiveref10_Write_l0, decide_eq_true_eq]
    rw [if_neg (by omega)]
    rfl
  | succ m ih =>
    intro k i h0 h1 hk
    obtain ⟨k, rfl⟩ : ∃ j, k = j + 1 := ⟨k - 1, by omega⟩
    have ih := ih k (i + 1) (by omega) (by omega) (by omega)
    have hb : (0 : Int) ≤ i ∧ i < (l.length : Int) := by omega
    rw [drop_getD zBlock h0 (by omega), List.any_cons]
    simp only [tapearchiveref10_Write_l0, rblock_eq, Option.bind_some, decide_eq_true_eq, if_pos hb, if_pos hb.2]
    rw [w64 (by omega) (by omega), ih]
    unfold unfit
    cases okBlk (l.getD i.toNat zBlock) with
    | false => cases (l.getD i.toNat zBlock).2.1 <;> rfl
    | true =>
      cases (l.getD i.toNat zBlock).2.1 with
      | true => rfl
      | false => simp only [Bool.not_true, Bool.false_eq_true, if_false, Bool.or_false, Bool.false_or]
theorem rwrite_eq {c : Cart} (h1 : c.2.2.2.2.1.length ≤ 9000) (h2 : c.1.size < D ∧ c.1.size ≤ 9223372036854775807) {at_ : Int} {l : List Blk} (hl : l.length ≤ 9000) : tapearchiveref10_Write D c at_ l = some (W c at_ l) := by
  have hD := hBig.h
  unfold tapearchiveref10_Write W
  have hlo := rWrite_l0 D l (by omega) at_ c zC l.length D 0 (by omega) (by omega) (by omega)
  rw [Int.toNat_zero, List.drop_zero] at hlo
  rw [rvalid_eq h1 h2]
  simp only [Option.bind_some, hlo]
  have hwc : wcode c at_ l = wcode c at_ l := rfl
  cases ho : okCart c with
  | false =>
    have : wcode c at_ l = 8 := by unfold wcode; rw [if_pos (.inl ho)]
    rw [if_neg (show ¬ wcode c at_ l = 0 by omega), this]; rfl
  | true =>
    obtain ⟨hg, hc1, hc2, _⟩ := okCart_g ho
    simp only [Bool.not_true, Bool.false_eq_true, if_false]
    cases hu : l.any unfit with
    | true =>
      have : wcode c at_ l = 8 := by unfold wcode; rw [if_pos (.inr hu)]
      rw [if_neg (show ¬ wcode c at_ l = 0 by omega), this]; rfl
    | false =>
      have hul := unfit_len hu
      obtain ⟨d1, d2⟩ := okCart_data ho
      have hw1 : wcode c at_ l = if c.2.2.2.1 = true then 17 else if at_ < 0 ∨ at_ > c.2.2.2.2.1.length then 7 else if c.2.2.1 = true ∧ at_ < c.2.2.2.2.1.length then 17 else if at_ + l.length > capOfC c then 12 else 0 := by
        unfold wcode; rw [if_neg (by simp [ho, hu])]
      simp only [Bool.false_eq_true, if_false]
      by_cases hk : c.2.2.2.1 = true
      · rw [if_pos hk] at hw1
        rw [if_pos hk, hw1]; rfl
      · rw [if_neg hk] at hw1
        rw [if_neg hk]
        simp only [decide_eq_true_eq]
        by_cases ha : at_ < 0
        · rw [if_pos (.inl ha)] at hw1
          rw [if_pos ha, hw1]; rfl
        · rw [if_neg ha]
          by_cases hb : at_ > (c.2.2.2.2.1.length : Int)
          · rw [if_pos (.inr hb)] at hw1
            rw [if_pos hb, hw1]; rfl
          · rw [if_neg (by omega)] at hw1
            rw [if_neg hb]
            simp only [Option.bind_some]
            by_cases hx : c.2.2.1 = true ∧ at_ < (c.2.2.2.2.1.length : Int)
            · rw [if_pos hx] at hw1
              rw [if_pos hx.1, if_pos hx.2, hw1]; rfl
            · rw [if_neg hx] at hw1
              have hjoin : ∀ (f : (Int × List Blk × Cart × Cart) ⊕ (Cart × Int) → Option (Cart × Int)), (if c.2.2.1 = true then (if at_ < (c.2.2.2.2.1.length : Int) then some (.inr (zC, 17)) else some (.inl (at_, l, c, zC))) else some (.inl (at_, l, c, zC)) : Option ((Int × List Blk × Cart × Cart) ⊕ (Cart × Int))).bind f = f (.inl (at_, l, c, zC)) := by
                intro f
                by_cases hw : c.2.2.1 = true
                · rw [if_pos hw, if_neg (fun h => hx ⟨hw, h⟩)]; rfl
                · rw [if_neg hw]; rfl
              refine (hjoin _).trans ?_
              simp only [(cap_ok ho).2, Option.bind_some]
              rw [w64 (by omega) (by omega)]
              by_cases hf : at_ + l.length > capOfC c
              · rw [if_pos hf] at hw1
                rw [if_pos (by omega), hw1]; rfl
              · rw [if_neg hf] at hw1
                rw [if_neg (by omega), hw1, rcopied_eq (by omega) d2]
                simp only [Option.bind_some, if_true]
                by_cases he : l = []
                · subst he
                  rw [if_neg (by simp), if_pos rfl]; rfl
                · have hne : ¬ ((l.length : Int) = 0) := by
                    intro h; exact he (List.eq_nil_of_length_eq_zero (by omega))
                  rw [if_pos (by omega), if_neg he, if_pos (by omega), rcopied_eq hl (fun b hb => by have := (hul b hb).1; omega)]
                  simp only [Option.bind_some]
                  rw [if_pos (by omega), Nat.sub_zero]
                  rfl
theorem W_len {c : Cart} {at_ : Int} {l : List Blk} (h1 : c.2.2.2.2.1.length ≤ 4000) (hl : l.length ≤ 4000) : (W c at_ l).1.2.2.2.2.1.length ≤ 8000 := by
  unfold W
  split
  · show (if l = [] then c.2.2.2.2.1 else c.2.2.2.2.1.take at_.toNat ++ l).length ≤ 8000
    split
    · omega
    · rw [List.length_append, List.length_take]; omega
  · show ([] : List Blk).length ≤ 8000
    simp
end Go.Proofs.Ytlkjklacanedoaa.Den.G11
