/- Small plain lemmas on numbers, lists and rounds. -/
import Derived.Test.YtkgjchmfiohciaaDenA
namespace Go.Proofs.Ytkgjchmfiohciaa.Den
open Go
set_option linter.unusedVariables false
theorem w64 {x : Int} (h1 : -9223372036854775808 ≤ x) (h2 : x ≤ 9223372036854775807) : IntKind.i64.wrap x = x := by
  have e : IntKind.i64.wrap x = if x % 18446744073709551616 ≥ 9223372036854775808 then x % 18446744073709551616 - 18446744073709551616 else x % 18446744073709551616 := by
    simp [IntKind.wrap, IntKind.signed, IntKind.bits]
  rw [e]
  split <;> omega
/-- From some number of rounds on. -/
def Ev {α : Type} (f : Nat → Option α) (v : α) : Prop := ∃ N, ∀ d, N ≤ d → f d = some v
theorem Ev.some_d {α : Type} {f : Nat → Option α} {v : α} (h : Ev f v) : ∃ d, f d = some v := let ⟨N, h⟩ := h; ⟨N, h N (Nat.le_refl _)⟩
theorem Ev.const {α : Type} {v : α} : Ev (fun _ => some v) v := ⟨0, fun _ _ => rfl⟩
/-- A step: what is bound comes to a value, and the rest does. -/
theorem Ev.bind {α β : Type} {f : Nat → Option α} {g : Nat → α → Option β} {a : α} {b : β} (h1 : Ev f a) (h2 : Ev (fun d => g d a) b) : Ev (fun d => (f d).bind (g d)) b := by
  obtain ⟨N, h1⟩ := h1
  obtain ⟨M, h2⟩ := h2
  exact ⟨max N M, fun d hd => by show (f d).bind (g d) = _; rw [h1 d (by omega)]; exact h2 d (by omega)⟩
theorem Ev.congr {α : Type} {f g : Nat → Option α} {v : α} (h : Ev f v) (e : ∀ d, g d = f d) : Ev g v := by
  obtain ⟨N, h⟩ := h
  exact ⟨N, fun d hd => by rw [e]; exact h d hd⟩
theorem Ev.cast {α : Type} {f : Nat → Option α} {v w : α} (h : Ev f v) (e : v = w) : Ev f w := e ▸ h
theorem getD_get {α : Type} {l : List α} {z : α} {i : Nat} (h : i < l.length) : l.getD i z = l[i] := by
  rw [List.getD_eq_getElem?_getD, List.getElem?_eq_getElem h]; rfl
theorem drop_getD {α : Type} {l : List α} (z : α) {i : Int} (h0 : 0 ≤ i) (h1 : i < l.length) : l.drop i.toNat = l.getD i.toNat z :: l.drop (i + 1).toNat := by
  rw [getD_get (by omega), List.drop_eq_getElem_cons (by omega)]
  congr 2
  omega
theorem mem_getD {α : Type} {l : List α} {z : α} {i : Int} (h0 : 0 ≤ i) (h1 : i < l.length) : l.getD i.toNat z ∈ l := by
  rw [getD_get (by omega)]; exact List.getElem_mem _
end Go.Proofs.Ytkgjchmfiohciaa.Den
