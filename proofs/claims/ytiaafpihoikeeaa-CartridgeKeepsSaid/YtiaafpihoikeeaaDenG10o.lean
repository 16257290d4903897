/- How the arguments of the laws open. -/
import Derived.Test.YtiaafpihoikeeaaDenS26
import Derived.Test.YtiaafpihoikeeaaDenG10b
set_option maxRecDepth 100000
namespace Go.Proofs.Ytiaafpihoikeeaa.Den.G10
open Go.Proofs.Ytiaafpihoikeeaa.Den Go Go.Proofs
theorem opens54 : Opens Try.prog 54 kBlock := opens_struct Try.underlying54 (by kernel_rfl) (opensF_cons rfl (by kernel_rfl) (opens_bool Try.underlying4) (opensF_cons rfl (by kernel_rfl) (opens_bool Try.underlying4) (opensF_one rfl (by kernel_rfl) (opens_slice Try.underlying52 (by kernel_rfl) (opens_int Try.underlying5)))))
theorem opens23 : Opens Try.prog 23 kGeometry := opens_struct Try.underlying23 (by kernel_rfl) (opensF_cons rfl (by kernel_rfl) (opens_int Try.underlying3) (opensF_cons rfl (by kernel_rfl) (opens_int Try.underlying3) (opensF_cons rfl (by kernel_rfl) (opens_int Try.underlying3) (opensF_cons rfl (by kernel_rfl) (opens_int Try.underlying3) (opensF_cons rfl (by kernel_rfl) (opens_int Try.underlying3) (opensF_one rfl (by kernel_rfl) (opens_int Try.underlying3)))))))
theorem opens26 : Opens Try.prog 26 kCartridge := opens_struct Try.underlying26 (by kernel_rfl) (opensF_cons rfl (by kernel_rfl) (opens_str Try.underlying9) (opensF_cons rfl (by kernel_rfl) opens23 (opensF_cons rfl (by kernel_rfl) (opens_bool Try.underlying4) (opensF_cons rfl (by kernel_rfl) (opens_bool Try.underlying4) (opensF_cons rfl (by kernel_rfl) (opens_slice Try.underlying24 (by kernel_rfl) opens54) (opensF_cons rfl (by kernel_rfl) (opens_int Try.underlying3) (opensF_cons rfl (by kernel_rfl) (opens_int Try.underlying3) (opensF_one rfl (by kernel_rfl) (opens_int Try.underlying3)))))))))
theorem opens40 : Opens Try.prog 40 kSpan := opens_struct Try.underlying40 (by kernel_rfl) (opensF_cons rfl (by kernel_rfl) (opens_int Try.underlying3) (opensF_one rfl (by kernel_rfl) (opens_int Try.underlying3)))
theorem opens49 : Opens Try.prog 49 ktapearchivelaw10_Step := opens_struct Try.underlying49 (by kernel_rfl) (opensF_cons rfl (by kernel_rfl) (opens_bool Try.underlying4) (opensF_cons rfl (by kernel_rfl) (opens_int Try.underlying3) (opensF_one rfl (by kernel_rfl) (opens_slice Try.underlying24 (by kernel_rfl) opens54))))
end Go.Proofs.Ytiaafpihoikeeaa.Den.G10
