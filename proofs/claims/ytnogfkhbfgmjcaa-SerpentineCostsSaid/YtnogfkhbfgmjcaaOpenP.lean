/- How the arguments of this seat's laws open as plain Lean values: no condition beyond the reading itself. -/
import Derived.Test.YtnogfkhbfgmjcaaPx0
import Derived.Test.YtnogfkhbfgmjcaaWOpenKd
namespace Go.Proofs.Ytnogfkhbfgmjcaa.P
open Go.RowKit Go.Proofs.YtnogfkhbfgmjcaaW.PrintWords Go.Proofs.YtnogfkhbfgmjcaaW.OpenKd
set_option linter.unusedVariables false
set_option maxRecDepth 100000
def Ok23 (x : S23) : Prop := OkInt .i64 x.f0 ∧ OkInt .i64 x.f1 ∧ OkInt .i64 x.f2 ∧ OkInt .i64 x.f3 ∧ OkInt .i64 x.f4 ∧ OkInt .i64 x.f5
theorem opens23 : Opens Try.prog 23 k23 Ok23 := Opens.imp (opens_iso (fun x : S23 => (x.f0, x.f1, x.f2, x.f3, x.f4, x.f5)) (fun x => ⟨x.1, x.2.1, x.2.2.1, x.2.2.2.1, x.2.2.2.2.1, x.2.2.2.2.2⟩) (fun _ => rfl) (opens_struct Try.underlying23 (by kernel_rfl) (opensF_cons rfl (by kernel_rfl) (opens_int' Try.underlying3) (opensF_cons rfl (by kernel_rfl) (opens_int' Try.underlying3) (opensF_cons rfl (by kernel_rfl) (opens_int' Try.underlying3) (opensF_cons rfl (by kernel_rfl) (opens_int' Try.underlying3) (opensF_cons rfl (by kernel_rfl) (opens_int' Try.underlying3) (opensF_one rfl (by kernel_rfl) (opens_int' Try.underlying3))))))))) (fun _ h => h)
def Ok25 (x : S25) : Prop := OkInt .i64 x.f0 ∧ OkInt .i64 x.f1
theorem opens25 : Opens Try.prog 25 k25 Ok25 := Opens.imp (opens_iso (fun x : S25 => (x.f0, x.f1)) (fun x => ⟨x.1, x.2⟩) (fun _ => rfl) (opens_struct Try.underlying25 (by kernel_rfl) (opensF_cons rfl (by kernel_rfl) (opens_int' Try.underlying3) (opensF_one rfl (by kernel_rfl) (opens_int' Try.underlying3))))) (fun _ h => h)
def Ok32 (x : S32) : Prop := OkInt .i64 x.f0 ∧ OkInt .i64 x.f1 ∧ OkBool x.f2
theorem opens32 : Opens Try.prog 32 k32 Ok32 := Opens.imp (opens_iso (fun x : S32 => (x.f0, x.f1, x.f2)) (fun x => ⟨x.1, x.2.1, x.2.2⟩) (fun _ => rfl) (opens_struct Try.underlying32 (by kernel_rfl) (opensF_cons rfl (by kernel_rfl) (opens_int' Try.underlying3) (opensF_cons rfl (by kernel_rfl) (opens_int' Try.underlying3) (opensF_one rfl (by kernel_rfl) (opens_bool Try.underlying4)))))) (fun _ h => h)
end Go.Proofs.Ytnogfkhbfgmjcaa.P
