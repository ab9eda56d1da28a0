/- SearchTowers: the kernel's answers. -/
import Derived.Test.YtlhcebpnnceodaaGreatDoorS8t
set_option linter.unusedSimpArgs false
set_option linter.unusedVariables false
set_option linter.deprecated false

/- SearchTowers: the kernel's answers. -/
namespace Go.Vs.Tryz
open Go Go.Vs Go.Proofs.Tryz
set_option maxRecDepth 100000
theorem tef_5:evk [ef_4] 300 18 ef_5.args ef_5.objs=some (ef_5.rv,ef_5.os):=by kernel_rfl
theorem oef_5:KOk ef_5:=evk_ok (by simp [oef_4]) tef_5
theorem tef_6:evk [ef_5] 300 18 ef_6.args ef_6.objs=some (ef_6.rv,ef_6.os):=by kernel_rfl
theorem oef_6:KOk ef_6:=evk_ok (by simp [oef_5]) tef_6
theorem teg_1:evk [ef_6] 300 7 eg_1.args eg_1.objs=some (eg_1.rv,eg_1.os):=by kernel_rfl
theorem oeg_1:KOk eg_1:=evk_ok (by simp [oef_6]) teg_1
theorem tfirst:evk [eg_0,eg_1] 300 4 [] []=some (.sc (.c (.bool true)),[]):=by kernel_rfl
theorem ofirst:FnOk prog gl0 4 [] [] (.sc (.c (.bool true))) []:=evk_ok (by simp [oeg_0,oeg_1]) tfirst
end Go.Vs.Tryz
