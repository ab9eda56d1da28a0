/- SearchTowers: the kernel's answers. -/
import Derived.Test.YtlhcebpnnceodaaGreatDoorB8t
set_option linter.unusedSimpArgs false
set_option linter.unusedVariables false
set_option linter.deprecated false

/- SearchTowers: the kernel's answers. -/
namespace Go.Vs.Tryz
open Go Go.Vs Go.Proofs.Tryz
set_option maxRecDepth 100000
theorem te3_2:evk [] 300 18 e3_2.args e3_2.objs=some (e3_2.rv,e3_2.os):=by kernel_rfl
theorem oe3_2:KOk e3_2:=evk_ok (by simp) te3_2
theorem tw3:evk [e3_2] 300 7 (twA 3) []=some (twR 2):=by kernel_rfl
theorem ow3:FnOk prog gl0 7 (twA 3) [] (twR 2).1 (twR 2).2:=evk_ok (by simp [oe3_2]) tw3
theorem tw1:evk [] 300 7 (twA 1) []=some (twR 0):=by kernel_rfl
theorem ow1:FnOk prog gl0 7 (twA 1) [] (twR 0).1 (twR 0).2:=evk_ok (by simp) tw1
theorem tw2:evk [] 300 7 (twA 2) []=some (twR 1):=by kernel_rfl
theorem ow2:FnOk prog gl0 7 (twA 2) [] (twR 1).1 (twR 1).2:=evk_ok (by simp) tw2
end Go.Vs.Tryz
