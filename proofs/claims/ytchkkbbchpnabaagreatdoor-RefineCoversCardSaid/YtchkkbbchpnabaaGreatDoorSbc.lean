/- RefineCovers: the kernel's answers. -/
import Derived.Test.YtchkkbbchpnabaaGreatDoorTdc
set_option linter.unusedSimpArgs false
set_option linter.unusedVariables false
set_option linter.deprecated false

/- RefineCovers: the kernel's answers. -/
namespace Go.Vs.Tryz
open Go Go.Vs Go.Proofs.Tryz
set_option maxRecDepth 100000
theorem te31_0:evk [] 300 31 e31_0.args e31_0.objs=some (e31_0.rv,e31_0.os):=by kernel_rfl
theorem oe31_0:KOk e31_0:=evk_ok (by simp) te31_0
theorem te73_0:evD (evk [] 300) oD gl0 300 d73 e73_0.args e73_0.objs=some (e73_0.rv,e73_0.os):=by kernel_rfl
theorem oe73_0:KOk e73_0:=evD_ok follows okE oD_ok m73 te73_0
theorem te73_1:evD (evk [] 300) oD gl0 300 d73 e73_1.args e73_1.objs=some (e73_1.rv,e73_1.os):=by kernel_rfl
theorem oe73_1:KOk e73_1:=evD_ok follows okE oD_ok m73 te73_1
theorem te73_2:evD (evk [] 300) oD gl0 300 d73 e73_2.args e73_2.objs=some (e73_2.rv,e73_2.os):=by kernel_rfl
theorem oe73_2:KOk e73_2:=evD_ok follows okE oD_ok m73 te73_2
theorem te73_3:evD (evk [] 300) oD gl0 300 d73 e73_3.args e73_3.objs=some (e73_3.rv,e73_3.os):=by kernel_rfl
theorem oe73_3:KOk e73_3:=evD_ok follows okE oD_ok m73 te73_3
end Go.Vs.Tryz

/- RefineCovers: the kernel's answers. -/
namespace Go.Vs.Tryz
open Go Go.Vs Go.Proofs.Tryz
set_option maxRecDepth 100000
theorem te16_0:evk [e31_0,e73_0,e73_1,e73_2,e73_3] 300 16 e16_0.args e16_0.objs=some (e16_0.rv,e16_0.os):=by kernel_rfl
theorem oe16_0:KOk e16_0:=evk_ok (by simp [oe31_0,oe73_0,oe73_1,oe73_2,oe73_3]) te16_0
end Go.Vs.Tryz
