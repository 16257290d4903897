/- How the arguments of the laws open. -/
import Derived.Test.YtkgjchmfiohciaaDenS26
import Derived.Test.YtkgjchmfiohciaaDenG14b
set_option maxRecDepth 100000
namespace Go.Proofs.Ytkgjchmfiohciaa.Den.G14
open Go.Proofs.Ytkgjchmfiohciaa.Den Go Go.Proofs
theorem opens23 : Opens Try.prog 23 kLabel := opens_struct Try.underlying23 (by kernel_rfl) (opensF_cons rfl (by kernel_rfl) (opens_str Try.underlying9) (opensF_cons rfl (by kernel_rfl) (opens_str Try.underlying9) (opensF_cons rfl (by kernel_rfl) (opens_int Try.underlying3) (opensF_one rfl (by kernel_rfl) (opens_int Try.underlying3)))))
theorem opens39 : Opens Try.prog 39 kBlock := opens_struct Try.underlying39 (by kernel_rfl) (opensF_cons rfl (by kernel_rfl) (opens_bool Try.underlying4) (opensF_cons rfl (by kernel_rfl) (opens_bool Try.underlying4) (opensF_one rfl (by kernel_rfl) (opens_slice Try.underlying36 (by kernel_rfl) (opens_int Try.underlying5)))))
end Go.Proofs.Ytkgjchmfiohciaa.Den.G14
