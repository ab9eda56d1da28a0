/- The facts about the row of ReduceSteps that need no walk, each by the kernel: apart, for they take much memory. -/
import Derived.Test.YtccmnfpbcmccpaaGreatDoorCards
import Derived.ProofKit
import Derived.LaidMore
import Derived.OpenShut
import Derived.Stop.Joined
import Derived.Stop.LaidErr
set_option linter.unusedSimpArgs false
set_option linter.unusedVariables false
set_option linter.deprecated false
namespace Go.Proofs.YtccmnfpbcmccpaaGreatDoor
open Go Go.ChangeShapes Go.WideShapes Go.ChangeAt Go.RowKit
theorem ZgA:Tryz.pinned.checked.prog.funcNamed Rows.reduceStepsRow.func=some 3:=by kernel_rfl
theorem Zg3:joinedFacts Tryz.pinned.checked.prog 3 Tryz.f3 Rows.reduceStepsSpec Rows.reduceStepsRow=true:=by kernel_rfl
theorem Zhy:Func.isInstance Tryz.pinned.checked.prog Tryz.f3 Rows.reduceStepsRow.origin Rows.reduceStepsRow.targs:=of_decide_eq_true (by kernel_rfl)
theorem Zhx:Func.isWrapper Tryz.pinned.checked.prog Tryz.f3 Rows.reduceStepsRow.wrapper Rows.reduceStepsRow.mainSum:=by unfold Func.isWrapper;first | (rw[if_pos (by decide +kernel)];kernel_rfl) | (rw[if_neg (by decide +kernel)];exact⟨rfl,rfl⟩)
end Go.Proofs.YtccmnfpbcmccpaaGreatDoor
