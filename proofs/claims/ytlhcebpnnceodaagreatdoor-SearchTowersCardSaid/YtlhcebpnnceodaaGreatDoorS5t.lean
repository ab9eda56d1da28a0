/- SearchTowers: the kernel's answers. -/
import Derived.Test.YtlhcebpnnceodaaGreatDoorB8t
set_option linter.unusedSimpArgs false
set_option linter.unusedVariables false
set_option linter.deprecated false

/- SearchTowers: the kernel's answers. -/
namespace Go.Vs.Tryz
open Go Go.Vs Go.Proofs.Tryz
set_option maxRecDepth 100000
theorem te5_2:evk [] 300 18 e5_2.args e5_2.objs=some (e5_2.rv,e5_2.os):=by kernel_rfl
theorem oe5_2:KOk e5_2:=evk_ok (by simp) te5_2
theorem te5_3:evk [e5_2] 300 18 e5_3.args e5_3.objs=some (e5_3.rv,e5_3.os):=by kernel_rfl
theorem oe5_3:KOk e5_3:=evk_ok (by simp [oe5_2]) te5_3
theorem te5_4:evk [e5_3] 300 18 e5_4.args e5_4.objs=some (e5_4.rv,e5_4.os):=by kernel_rfl
theorem oe5_4:KOk e5_4:=evk_ok (by simp [oe5_3]) te5_4
theorem tw5:evk [e5_4] 300 7 (twA 5) []=some (twR 4):=by kernel_rfl
theorem ow5:FnOk prog gl0 7 (twA 5) [] (twR 4).1 (twR 4).2:=evk_ok (by simp [oe5_4]) tw5
end Go.Vs.Tryz
