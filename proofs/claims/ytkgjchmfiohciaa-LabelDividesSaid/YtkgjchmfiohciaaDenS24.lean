/- Tables. -/
import Derived.Test.YtkgjchmfiohciaaDenS23
import Derived.KernelRfl
namespace Go.Proofs.Ytkgjchmfiohciaa.Den
open Go.RowKit
set_option linter.unusedVariables false
variable {P : Program} {C : Cx} {outs : List RM} {e : Env outs}
def tyTab : List (Nat × Ty) → Nat → Option Ty
  | [], _ => none
  | p :: l, t => bif Nat.beq p.1 t then some p.2 else tyTab l t
def tab {α : Type} : List (Nat × α) → Nat → Option α
  | [], _ => none
  | p :: l, t => bif Nat.beq p.1 t then some p.2 else tab l t
def All {α : Type _} (f : α → Prop) : List α → Prop
  | [] => True
  | a :: l => f a ∧ All f l
theorem all_mem {α : Type _} {f : α → Prop} : ∀ {l : List α}, All f l → ∀ a ∈ l, f a
  | [], _, a, h => by simp at h
  | b :: l, h, a, hm => by
    rcases List.mem_cons.1 hm with rfl | hm
    · exact h.1
    · exact all_mem h.2 a hm
theorem tyTab_mem : ∀ {l : List (Nat × Ty)} {t : Nat} {ty : Ty}, tyTab l t = some ty → (t, ty) ∈ l
  | [], t, ty, h => by simp [tyTab] at h
  | p :: l, t, ty, h => by
    simp only [tyTab] at h
    cases hb : Nat.beq p.1 t with
    | true =>
      rw [hb] at h
      simp only [cond_true, Option.some.injEq] at h
      have := Nat.eq_of_beq_eq_true hb
      subst this h
      exact List.mem_cons_self
    | false =>
      rw [hb] at h
      exact List.mem_cons_of_mem _ (tyTab_mem h)
theorem tyTab_ok {l : List (Nat × Ty)} (h : ∀ p ∈ l, TyOK P (tyTab l) p.1 p.2) : TauOK P (tyTab l) := fun t ty ht => h _ (tyTab_mem ht)
theorem tab_mem {α : Type} : ∀ {l : List (Nat × α)} {t : Nat} {v : α}, tab l t = some v → (t, v) ∈ l
  | [], t, v, h => by simp [tab] at h
  | p :: l, t, v, h => by
    simp only [tab] at h
    cases hb : Nat.beq p.1 t with
    | true =>
      rw [hb] at h
      simp only [cond_true, Option.some.injEq] at h
      have := Nat.eq_of_beq_eq_true hb
      subst this h
      exact List.mem_cons_self
    | false =>
      rw [hb] at h
      exact List.mem_cons_of_mem _ (tab_mem h)
theorem tab_all {α : Type} {f : Nat → α → Prop} {l : List (Nat × α)} (h : ∀ p ∈ l, f p.1 p.2) : ∀ t v, tab l t = some v → f t v := fun t v ht => h _ (tab_mem ht)
theorem tab_none {α : Type} {o : Option α} {f : α → Prop} (h : o = none) : ∀ v, o = some v → f v := fun v hv => by rw [h] at hv; cases hv
theorem tab_one {α : Type} {o : Option α} {f : α → Prop} {a : α} (h : o = some a) (hf : f a) : ∀ v, o = some v → f v := fun v hv => by
  rw [h] at hv
  injection hv with hv
  subst hv
  exact hf
def bodyOf (f : Func) : Code := f.body.getD .skip
/-- The loops of some code that do not lie in others. -/
def loopList : Code → List (Nat × Code)
  | .seq a b | .cond _ a b => loopList a ++ loopList b
  | .block i (.loop c) => [(i, c)]
  | .block _ c => loopList c
  | .loop c | .scope c => loopList c
  | _ => []
def loopAt (c : Code) (i : Nat) : Code := match (loopList c)[i]? with | some p => p.2 | none => .skip
def LoopsAt (P : Program) (C : Cx) {outs : List RM} (e : Env outs) (p : Nat × Code) : Prop :=
  (∀ m, e.unroll p.1 = some m → Loops P C e p.2) ∧ (∀ L, e.loopN p.1 = some L → LoopN P C p.2 p.1 L) ∧ (∀ L, e.loopR p.1 = some L → LoopR P C e p.2 p.1 L) ∧ (∀ L, e.loopX p.1 = some L → LoopX P C e p.2 p.1 L)
theorem loops_of {c : Code} {l : List (Nat × Code)} (hl : loopList c = l) (h : ∀ p ∈ l, LoopsAt P C e p) : Loops P C e c := by
  subst hl
  induction c with
  | seq a b iha ihb => exact ⟨iha fun p hp => h p (List.mem_append_left _ hp), ihb fun p hp => h p (List.mem_append_right _ hp)⟩
  | cond _ a b iha ihb => exact ⟨iha fun p hp => h p (List.mem_append_left _ hp), ihb fun p hp => h p (List.mem_append_right _ hp)⟩
  | scope c ih => exact ih h
  | loop c ih => exact ih h
  | block i c ih =>
    by_cases hl : ∃ c', c = .loop c'
    · obtain ⟨c', rfl⟩ := hl
      exact h (i, c') (by simp [loopList])
    · have e1 : loopList (.block i c) = loopList c := by
        cases c <;> first | rfl | exact absurd ⟨_, rfl⟩ hl
      rw [e1] at h
      have := ih h
      cases c <;> first | exact this | exact absurd ⟨_, rfl⟩ hl
  | _ => trivial
end Go.Proofs.Ytkgjchmfiohciaa.Den
