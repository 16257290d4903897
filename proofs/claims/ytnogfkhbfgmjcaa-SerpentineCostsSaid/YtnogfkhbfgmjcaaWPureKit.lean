/- Small plain lemmas of this session on numbers, lists and rounds; no condition beyond what each states. -/
import Derived.Test.YtnogfkhbfgmjcaaWMore
namespace Go.Proofs.YtnogfkhbfgmjcaaW.PureKit
open Go.RowKit Go.Proofs.YtnogfkhbfgmjcaaW.PrintWords
set_option linter.unusedVariables false

theorem w64 {x : Int} (h1 : -9223372036854775808 ≤ x) (h2 : x ≤ 9223372036854775807) : wrap64 x = x := by unfold wrap64; omega
theorem tdiv_nn {a b : Int} (h : 0 ≤ a) : Int.tdiv a b = a / b := Int.tdiv_eq_ediv_of_nonneg h
theorem tmod_nn {a b : Int} (h : 0 ≤ a) : Int.tmod a b = a % b := Int.tmod_eq_emod_of_nonneg h
theorem rd_get {l : List Int} {i : Int} (h0 : 0 ≤ i) (h1 : i < l.length) : rd l i = l[i.toNat]'(by omega) := by
  unfold rd
  rw [List.getD_eq_getElem?_getD, List.getElem?_eq_getElem (by omega)]; rfl
theorem drop_rd {l : List Int} {i : Int} (h0 : 0 ≤ i) (h1 : i < l.length) : l.drop i.toNat = rd l i :: l.drop (i + 1).toNat := by
  rw [rd_get h0 h1, List.drop_eq_getElem_cons (by omega)]
  congr 2
  omega
theorem Ev.iff_ev {α : Type} {g : Nat → Option α} {r : α} : Ev g r ↔ ∃ K, ∀ k, K ≤ k → g k = some r := Iff.rfl
theorem Ev.uniq {α : Type} {g : Nat → Option α} {r s : α} (h : Ev g r) (h' : Ev g s) : r = s := by
  obtain ⟨K, h⟩ := h
  obtain ⟨K', h'⟩ := h'
  have := (h (max K K') (by omega)).symm.trans (h' (max K K') (by omega))
  exact Option.some.inj this
/-- A law's end: it answers true from some number of rounds on. -/
theorem Ev.some_k {α : Type} {g : Nat → Option α} {r : α} (h : Ev g r) : ∃ k, g k = some r := Ev.rounds h
theorem Ev.shift {α : Type} {g : Nat → Option α} {r : α} (c : Nat) (h : ∃ K, ∀ k, K ≤ k → g (k + c) = some r) : Ev g r := by
  obtain ⟨K, h⟩ := h
  refine ⟨K + c, fun k hk => ?_⟩
  obtain ⟨m, rfl⟩ : ∃ m, k = m + c := ⟨k - c, by omega⟩
  exact h m (by omega)
theorem mx_eq (a b : Int) : mx a b = max a b := by unfold mx; omega
theorem mn_eq (a b : Int) : mn a b = min a b := by unfold mn; omega
end Go.Proofs.YtnogfkhbfgmjcaaW.PureKit
