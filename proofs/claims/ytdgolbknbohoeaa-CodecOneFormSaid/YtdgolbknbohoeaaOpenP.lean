/- How the arguments of this seat's laws open as plain Lean values: no condition beyond the reading itself. -/
import Derived.Test.YtdgolbknbohoeaaPx0
import Derived.Test.YtdgolbknbohoeaaWOpenKd
namespace Go.Proofs.Ytdgolbknbohoeaa.P
open Go.RowKit Go.Proofs.YtdgolbknbohoeaaW.PrintWords Go.Proofs.YtdgolbknbohoeaaW.OpenKd
set_option linter.unusedVariables false
set_option maxRecDepth 100000
def Ok29 (x : S29) : Prop := (OkInt .i64) x.f0 ∧ (OkInt .u64) x.f1 ∧ (OkInt .i64) x.f2 ∧ OkStr x.f3 ∧ OkBool x.f4
theorem opens29 : Opens Try.prog 29 k29 Ok29 := Opens.imp (opens_iso (fun x : S29 => (x.f0, x.f1, x.f2, x.f3, x.f4)) (fun x => ⟨x.1, x.2.1, x.2.2.1, x.2.2.2.1, x.2.2.2.2⟩) (fun _ => rfl) (opens_struct Try.underlying29 (by kernel_rfl) (opensF_cons rfl (by kernel_rfl) (opens_int' Try.underlying3) (opensF_cons rfl (by kernel_rfl) (opens_int' Try.underlying27) (opensF_cons rfl (by kernel_rfl) (opens_int' Try.underlying3) (opensF_cons rfl (by kernel_rfl) (opens_string Try.underlying9) (opensF_one rfl (by kernel_rfl) (opens_bool Try.underlying4)))))))) (fun _ h => h)
end Go.Proofs.Ytdgolbknbohoeaa.P
