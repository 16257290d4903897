/- Valid, Capacity and Place return what the reference returns, and Block inverts Place, for any geometry and number: the plain law. -/
import Derived.Test.YtnogfkhbfgmjcaaPx29
import Derived.Test.YtnogfkhbfgmjcaaOpenP
import Derived.Test.YtnogfkhbfgmjcaaSerpR
import Derived.Test.YtnogfkhbfgmjcaaSerpB
import Derived.Test.YtnogfkhbfgmjcaaSerpAw
namespace Go.Proofs.Ytnogfkhbfgmjcaa.P
open Go.Proofs.YtnogfkhbfgmjcaaW.PureKit Go.RowKit Go.Proofs.YtnogfkhbfgmjcaaW.PrintWords Go.Proofs.YtnogfkhbfgmjcaaW.OpenKd
set_option linter.unusedVariables false
set_option linter.unusedSimpArgs false

theorem pure_SerpentinePlaces : ∀ (x0 : S23) (a1 : Int), Ok23 x0 → OkInt .i64 a1 → ∃ k : Nat, tapearchivelaw09_SerpentinePlaces.f k x0.f0 x0.f1 x0.f2 x0.f3 x0.f4 x0.f5 a1 = some true := by
  intro x0 a1 h0 h1
  have hL := (h0.2.1).i64.2
  obtain ⟨K1, e1⟩ := Place_ev x0.f0 x0.f1 x0.f2 x0.f3 x0.f4 x0.f5 a1 hL
  obtain ⟨K2, e2⟩ := rPlace_ev x0.f0 x0.f1 x0.f2 x0.f3 x0.f4 x0.f5 a1
  obtain ⟨K3, e3⟩ := Valid_ev x0.f0 x0.f1 x0.f2 x0.f3 x0.f4 x0.f5 hL
  obtain ⟨K4, e4⟩ := rValid_ev x0.f0 x0.f1 x0.f2 x0.f3 x0.f4 x0.f5
  obtain ⟨K5, e5⟩ := Capacity_ev x0.f0 x0.f1 x0.f2 x0.f3 x0.f4 x0.f5 hL
  obtain ⟨K6, e6⟩ := rCapacity_ev x0.f0 x0.f1 x0.f2 x0.f3 x0.f4 x0.f5
  obtain ⟨K9, e9⟩ := awake_ev
  have hbl : ∃ r : Int × Bool, Ev (fun k => serpentine_Block.f k x0.f0 x0.f1 x0.f2 x0.f3 x0.f4 x0.f5 (placeR x0.f0 x0.f1 x0.f2 x0.f3 x0.f4 x0.f5 a1).1 (placeR x0.f0 x0.f1 x0.f2 x0.f3 x0.f4 x0.f5 a1).2.1 (placeR x0.f0 x0.f1 x0.f2 x0.f3 x0.f4 x0.f5 a1).2.2.1) r ∧ ((placeR x0.f0 x0.f1 x0.f2 x0.f3 x0.f4 x0.f5 a1).2.2.2 = true → r = (a1, true)) := by
    by_cases g : Blk x0.f0 x0.f1 x0.f2 x0.f3 x0.f4 x0.f5 a1
    · refine ⟨(a1, true), ?_, fun _ => rfl⟩
      unfold placeR
      rw [if_pos g]
      exact Block_has hL ⟨g, rfl⟩
    · by_cases hb : ∃ b, Has x0.f0 x0.f1 x0.f2 x0.f3 x0.f4 x0.f5 ((placeR x0.f0 x0.f1 x0.f2 x0.f3 x0.f4 x0.f5 a1).1, (placeR x0.f0 x0.f1 x0.f2 x0.f3 x0.f4 x0.f5 a1).2.1, (placeR x0.f0 x0.f1 x0.f2 x0.f3 x0.f4 x0.f5 a1).2.2.1) b
      · obtain ⟨b, hb⟩ := hb
        exact ⟨_, Block_has hL hb, fun h => by simp [placeR, if_neg g] at h⟩
      · exact ⟨_, Block_none hL hb, fun h => by simp [placeR, if_neg g] at h⟩
  obtain ⟨r, ⟨K7, e7⟩, hr⟩ := hbl
  refine ⟨K1 + K2 + K3 + K4 + K5 + K6 + K7 + K9 + 1, ?_⟩
  generalize hk : K1 + K2 + K3 + K4 + K5 + K6 + K7 + K9 = k
  simp only [tapearchivelaw09_SerpentinePlaces.f, tapearchivelaw09_SerpentinePlaces.j0, e1 (k + 1) (by omega), e2 (k + 1) (by omega), e3 (k + 1) (by omega), e4 (k + 1) (by omega), e5 (k + 1) (by omega), e6 (k + 1) (by omega), e7 k (by omega), e9 k (by omega), Option.bind_some, if_true, beq_self_eq_true, bne_self_eq_false, Bool.not_true, Bool.or_false, Bool.false_eq_true, if_false]
  split
  · rename_i h
    rw [hr h]
    simp
  · rfl

end Go.Proofs.Ytnogfkhbfgmjcaa.P
