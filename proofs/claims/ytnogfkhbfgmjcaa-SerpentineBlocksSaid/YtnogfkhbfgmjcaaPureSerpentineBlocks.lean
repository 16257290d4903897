/- Block returns what the reference returns, for any geometry and place: the plain law. -/
import Derived.Test.YtnogfkhbfgmjcaaPx28
import Derived.Test.YtnogfkhbfgmjcaaOpenP
import Derived.Test.YtnogfkhbfgmjcaaSerpB
import Derived.Test.YtnogfkhbfgmjcaaSerpRB
import Derived.Test.YtnogfkhbfgmjcaaSerpAw
namespace Go.Proofs.Ytnogfkhbfgmjcaa.P
open Go.Proofs.YtnogfkhbfgmjcaaW.PureKit Go.RowKit Go.Proofs.YtnogfkhbfgmjcaaW.PrintWords Go.Proofs.YtnogfkhbfgmjcaaW.OpenKd
set_option linter.unusedVariables false
set_option linter.unusedSimpArgs false

theorem pure_SerpentineBlocks : ∀ (x0 : S23) (x1 : S32), Ok23 x0 → Ok32 x1 → ∃ k : Nat, tapearchivelaw09_SerpentineBlocks.f k x0.f0 x0.f1 x0.f2 x0.f3 x0.f4 x0.f5 x1.f0 x1.f1 x1.f2 = some true := by
  intro x0 x1 h0 h1
  have hL := (h0.2.1).i64.2
  obtain ⟨K9, e9⟩ := awake_ev
  by_cases hb : ∃ b, Has x0.f0 x0.f1 x0.f2 x0.f3 x0.f4 x0.f5 (x1.f0, x1.f1, x1.f2) b
  · obtain ⟨b, hb⟩ := hb
    obtain ⟨K1, e1⟩ := Block_has hL hb
    obtain ⟨K2, e2⟩ := rBlock_has hb
    refine ⟨K1 + K2 + K9, ?_⟩
    generalize hk : K1 + K2 + K9 = k
    simp only [tapearchivelaw09_SerpentineBlocks.f, e1 k (by omega), e2 k (by omega), e9 k (by omega), Option.bind_some, if_true, beq_self_eq_true]
  · obtain ⟨K1, e1⟩ := Block_none hL hb
    obtain ⟨K2, e2⟩ := rBlock_none hb
    refine ⟨K1 + K2 + K9, ?_⟩
    generalize hk : K1 + K2 + K9 = k
    simp only [tapearchivelaw09_SerpentineBlocks.f, e1 k (by omega), e2 k (by omega), e9 k (by omega), Option.bind_some, if_true, beq_self_eq_true]

end Go.Proofs.Ytnogfkhbfgmjcaa.P
