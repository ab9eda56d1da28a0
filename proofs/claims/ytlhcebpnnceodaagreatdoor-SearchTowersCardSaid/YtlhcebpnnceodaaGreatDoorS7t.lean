/- SearchTowers: the kernel's answers. -/
import Derived.Test.YtlhcebpnnceodaaGreatDoorB8t
set_option linter.unusedSimpArgs false
set_option linter.unusedVariables false
set_option linter.deprecated false

/- SearchTowers: the kernel's answers. -/
namespace Go.Vs.Tryz
open Go Go.Vs Go.Proofs.Tryz
set_option maxRecDepth 100000
theorem te7_2:evk [] 300 18 e7_2.args e7_2.objs=some (e7_2.rv,e7_2.os):=by kernel_rfl
theorem oe7_2:KOk e7_2:=evk_ok (by simp) te7_2
theorem te7_3:evk [e7_2] 300 18 e7_3.args e7_3.objs=some (e7_3.rv,e7_3.os):=by kernel_rfl
theorem oe7_3:KOk e7_3:=evk_ok (by simp [oe7_2]) te7_3
theorem te7_4:evk [e7_3] 300 18 e7_4.args e7_4.objs=some (e7_4.rv,e7_4.os):=by kernel_rfl
theorem oe7_4:KOk e7_4:=evk_ok (by simp [oe7_3]) te7_4
theorem te7_5:evk [e7_4] 300 18 e7_5.args e7_5.objs=some (e7_5.rv,e7_5.os):=by kernel_rfl
theorem oe7_5:KOk e7_5:=evk_ok (by simp [oe7_4]) te7_5
theorem te7_6:evk [e7_5] 300 18 e7_6.args e7_6.objs=some (e7_6.rv,e7_6.os):=by kernel_rfl
theorem oe7_6:KOk e7_6:=evk_ok (by simp [oe7_5]) te7_6
theorem tw7:evk [e7_6] 300 7 (twA 7) []=some (twR 6):=by kernel_rfl
theorem ow7:FnOk prog gl0 7 (twA 7) [] (twR 6).1 (twR 6).2:=evk_ok (by simp [oe7_6]) tw7
end Go.Vs.Tryz
