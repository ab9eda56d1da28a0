/- SearchTowers: the kernel's answers. -/
import Derived.Test.YtlhcebpnnceodaaGreatDoorB8t
set_option linter.unusedSimpArgs false
set_option linter.unusedVariables false
set_option linter.deprecated false

/- SearchTowers: the kernel's answers. -/
namespace Go.Vs.Tryz
open Go Go.Vs Go.Proofs.Tryz
set_option maxRecDepth 100000
theorem tef_2:evk [] 300 18 ef_2.args ef_2.objs=some (ef_2.rv,ef_2.os):=by kernel_rfl
theorem oef_2:KOk ef_2:=evk_ok (by simp) tef_2
theorem tef_3:evk [ef_2] 300 18 ef_3.args ef_3.objs=some (ef_3.rv,ef_3.os):=by kernel_rfl
theorem oef_3:KOk ef_3:=evk_ok (by simp [oef_2]) tef_3
theorem tef_4:evk [ef_3] 300 18 ef_4.args ef_4.objs=some (ef_4.rv,ef_4.os):=by kernel_rfl
theorem oef_4:KOk ef_4:=evk_ok (by simp [oef_3]) tef_4
theorem teg_0:evk [] 300 7 eg_0.args eg_0.objs=some (eg_0.rv,eg_0.os):=by kernel_rfl
theorem oeg_0:KOk eg_0:=evk_ok (by simp) teg_0
end Go.Vs.Tryz
