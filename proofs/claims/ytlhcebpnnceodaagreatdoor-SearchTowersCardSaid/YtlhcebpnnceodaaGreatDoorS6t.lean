/- SearchTowers: the kernel's answers. -/
import Derived.Test.YtlhcebpnnceodaaGreatDoorB8t
set_option linter.unusedSimpArgs false
set_option linter.unusedVariables false
set_option linter.deprecated false

/- SearchTowers: the kernel's answers. -/
namespace Go.Vs.Tryz
open Go Go.Vs Go.Proofs.Tryz
set_option maxRecDepth 100000
theorem te6_2:evk [] 300 18 e6_2.args e6_2.objs=some (e6_2.rv,e6_2.os):=by kernel_rfl
theorem oe6_2:KOk e6_2:=evk_ok (by simp) te6_2
theorem te6_3:evk [e6_2] 300 18 e6_3.args e6_3.objs=some (e6_3.rv,e6_3.os):=by kernel_rfl
theorem oe6_3:KOk e6_3:=evk_ok (by simp [oe6_2]) te6_3
theorem te6_4:evk [e6_3] 300 18 e6_4.args e6_4.objs=some (e6_4.rv,e6_4.os):=by kernel_rfl
theorem oe6_4:KOk e6_4:=evk_ok (by simp [oe6_3]) te6_4
theorem te6_5:evk [e6_4] 300 18 e6_5.args e6_5.objs=some (e6_5.rv,e6_5.os):=by kernel_rfl
theorem oe6_5:KOk e6_5:=evk_ok (by simp [oe6_4]) te6_5
theorem tw6:evk [e6_5] 300 7 (twA 6) []=some (twR 5):=by kernel_rfl
theorem ow6:FnOk prog gl0 7 (twA 6) [] (twR 5).1 (twR 5).2:=evk_ok (by simp [oe6_5]) tw6
end Go.Vs.Tryz
