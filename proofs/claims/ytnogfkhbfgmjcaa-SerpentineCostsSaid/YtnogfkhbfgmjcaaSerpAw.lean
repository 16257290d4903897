/- The examples that every statement of layer 9 asks hold. -/
import Derived.Test.YtnogfkhbfgmjcaaPx19
import Derived.Test.YtnogfkhbfgmjcaaWPureKit
namespace Go.Proofs.Ytnogfkhbfgmjcaa.P
open Go.RowKit Go.Proofs.YtnogfkhbfgmjcaaW.PrintWords Go.Proofs.YtnogfkhbfgmjcaaW.PureKit
set_option linter.unusedVariables false
set_option linter.unusedSimpArgs false

theorem awake_ev : Ev (fun k => tapearchivelaw09_awake.f k) true := Ev.of tapearchivelaw09_awake.mono (k := 120) (by decide +kernel)

end Go.Proofs.Ytnogfkhbfgmjcaa.P
