-- Written by a program of this session (wip/gen/myprint.py): plain functions of the Go code, and the proofs of the walks.
import Derived.Test.YtnogfkhbfgmjcaaPx0
namespace Go.Proofs.Ytnogfkhbfgmjcaa.P
open Go.RowKit Go.Proofs.YtnogfkhbfgmjcaaW.PrintWords Go.Proofs.YtnogfkhbfgmjcaaW.PrintLast Go.Proofs.YtnogfkhbfgmjcaaW.PrintMore
open Go.Proofs.YtnogfkhbfgmjcaaW.Mine
attribute [local go_sem] isSome_setCell Go.Instr.field Go.asAgg
attribute [local go_sem] max2_int min2_int max_two min_two max_three min_three max_four min_four   -- for this text's walks alone
set_option linter.unusedVariables false
set_option linter.unusedSimpArgs false

/-! ### tapearchivelaw09_size: function 19 -/
def tapearchivelaw09_size.f (a0 : Int) : Option (Int) := if a0 < 0 then (some (wrap64 (-a0))) else (some a0)
set_option maxHeartbeats 8000000 in
set_option maxRecDepth 100000 in
theorem tapearchivelaw09_size.calls (a0 : Int) (r : Int) (w : World) (h : tapearchivelaw09_size.f a0 = some r) :
    Calls Try.prog 19 #[.int .i64 a0] w fun e w' => e = .returned (.int .i64 r) ∧ Drawn0 w w' := by
  have H : (if a0 < 0 then (some (wrap64 (-a0))) else (some a0)) = some r := h
  clear h
  by_cases c2 : a0 < 0
  · rw [if_pos c2] at H
    have c2b0 : decide (a0 < 0) = true := decide_eq_true c2
    clear c2
    obtain rfl := Option.some.inj H
    go_enter Try.func19, Try.ntmps19
    go_wp2
    go_ret
    exact ⟨by first | rfl | (simp; done) | (simp [*]; done), by repeat (first | exact Drawn0.refl _ | apply Drawn0.step)⟩
  · rw [if_neg c2] at H
    have c2b0 : decide (a0 < 0) = false := decide_eq_false c2
    clear c2
    obtain rfl := Option.some.inj H
    go_enter Try.func19, Try.ntmps19
    go_wp2
    go_ret
    exact ⟨by first | rfl | (simp; done) | (simp [*]; done), by repeat (first | exact Drawn0.refl _ | apply Drawn0.step)⟩

end Go.Proofs.Ytnogfkhbfgmjcaa.P
