/- RefineCovers: the kernel's answers. -/
import Derived.Test.YtchkkbbchpnabaaGreatDoorTdc
set_option linter.unusedSimpArgs false
set_option linter.unusedVariables false
set_option linter.deprecated false

/- RefineCovers: the kernel's answers. -/
namespace Go.Vs.Tryz
open Go Go.Vs Go.Proofs.Tryz
set_option maxRecDepth 100000
theorem te15_0:evk [] 300 15 e15_0.args e15_0.objs=some (e15_0.rv,e15_0.os):=by kernel_rfl
theorem oe15_0:KOk e15_0:=evk_ok (by simp) te15_0
theorem te15_1:evk [] 300 15 e15_1.args e15_1.objs=some (e15_1.rv,e15_1.os):=by kernel_rfl
theorem oe15_1:KOk e15_1:=evk_ok (by simp) te15_1
end Go.Vs.Tryz
