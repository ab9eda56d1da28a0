/- RefineCovers: the kernel's answers. -/
import Derived.Test.YtchkkbbchpnabaaGreatDoorTdc
set_option linter.unusedSimpArgs false
set_option linter.unusedVariables false
set_option linter.deprecated false

/- RefineCovers: the kernel's answers. -/
namespace Go.Vs.Tryz
open Go Go.Vs Go.Proofs.Tryz
set_option maxRecDepth 100000
theorem t4:evk [e15_0,e15_1,e16_0,e87_0] 300 4 [] []=some (.sc (.c (.bool true)),[]):=by kernel_rfl
end Go.Vs.Tryz
