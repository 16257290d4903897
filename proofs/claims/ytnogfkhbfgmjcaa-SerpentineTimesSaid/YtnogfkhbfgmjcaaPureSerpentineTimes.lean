/- Locate, Read, Passes and Farthest return the numbers of the reference, for any geometry, blocks and span: the plain law. -/
import Derived.Test.YtnogfkhbfgmjcaaPx20
import Derived.Test.YtnogfkhbfgmjcaaOpenP
import Derived.Test.YtnogfkhbfgmjcaaSerpR
import Derived.Test.YtnogfkhbfgmjcaaSerpAw
namespace Go.Proofs.Ytnogfkhbfgmjcaa.P
open Go.Proofs.YtnogfkhbfgmjcaaW.PureKit Go.RowKit Go.Proofs.YtnogfkhbfgmjcaaW.PrintWords Go.Proofs.YtnogfkhbfgmjcaaW.OpenKd
set_option linter.unusedVariables false
set_option linter.unusedSimpArgs false

theorem pure_SerpentineTimes : ∀ (x0 : S23) (a1 : Int) (a2 : Int) (x3 : S25), Ok23 x0 → OkInt .i64 a1 → OkInt .i64 a2 → Ok25 x3 → ∃ k : Nat, tapearchivelaw09_SerpentineTimes.f k x0.f0 x0.f1 x0.f2 x0.f3 x0.f4 x0.f5 a1 a2 x3.f0 x3.f1 = some true := by
  intro x0 a1 a2 x3 h0 h1 h2 h3
  have hL := (h0.2.1).i64.2
  obtain ⟨K1, e1⟩ := Locate_ev x0.f0 x0.f1 x0.f2 x0.f3 x0.f4 x0.f5 a1 a2 hL
  obtain ⟨K2, e2⟩ := rLocate_ev x0.f0 x0.f1 x0.f2 x0.f3 x0.f4 x0.f5 a1 a2
  obtain ⟨K3, e3⟩ := Read_ev x0.f0 x0.f1 x0.f2 x0.f3 x0.f4 x0.f5 x3.f0 x3.f1 hL
  obtain ⟨K4, e4⟩ := rRead_ev x0.f0 x0.f1 x0.f2 x0.f3 x0.f4 x0.f5 x3.f0 x3.f1
  obtain ⟨K5, e5⟩ := Passes_ev x0.f0 x0.f1 x0.f2 x0.f3 x0.f4 x0.f5 a1 a2 hL
  obtain ⟨K6, e6⟩ := rPasses_ev x0.f0 x0.f1 x0.f2 x0.f3 x0.f4 x0.f5 a1 a2
  obtain ⟨K7, e7⟩ := Farthest_ev x0.f0 x0.f1 x0.f2 x0.f3 x0.f4 x0.f5 hL
  obtain ⟨K8, e8⟩ := rFarthest_ev x0.f0 x0.f1 x0.f2 x0.f3 x0.f4 x0.f5
  obtain ⟨K9, e9⟩ := awake_ev
  refine ⟨K1 + K2 + K3 + K4 + K5 + K6 + K7 + K8 + K9, ?_⟩
  generalize hk : K1 + K2 + K3 + K4 + K5 + K6 + K7 + K8 + K9 = k
  simp only [tapearchivelaw09_SerpentineTimes.f, e1 k (by omega), e2 k (by omega), e3 k (by omega), e4 k (by omega), e5 k (by omega), e6 k (by omega), e7 k (by omega), e8 k (by omega), e9 k (by omega), Option.bind_some, if_true]

end Go.Proofs.Ytnogfkhbfgmjcaa.P
