/- SearchTowers: the kernel's answers. -/
import Derived.Test.YtlhcebpnnceodaaGreatDoorB8t
set_option linter.unusedSimpArgs false
set_option linter.unusedVariables false
set_option linter.deprecated false

/- SearchTowers: the kernel's answers. -/
namespace Go.Vs.Tryz
open Go Go.Vs Go.Proofs.Tryz
set_option maxRecDepth 100000
theorem te4_2:evk [] 300 18 e4_2.args e4_2.objs=some (e4_2.rv,e4_2.os):=by kernel_rfl
theorem oe4_2:KOk e4_2:=evk_ok (by simp) te4_2
theorem te4_3:evk [e4_2] 300 18 e4_3.args e4_3.objs=some (e4_3.rv,e4_3.os):=by kernel_rfl
theorem oe4_3:KOk e4_3:=evk_ok (by simp [oe4_2]) te4_3
theorem tw4:evk [e4_3] 300 7 (twA 4) []=some (twR 3):=by kernel_rfl
theorem ow4:FnOk prog gl0 7 (twA 4) [] (twR 3).1 (twR 3).2:=evk_ok (by simp [oe4_3]) tw4
end Go.Vs.Tryz
