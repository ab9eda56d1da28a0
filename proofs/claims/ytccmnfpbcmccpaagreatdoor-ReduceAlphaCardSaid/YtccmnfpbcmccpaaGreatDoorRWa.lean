/- The facts about the row of ReduceAlpha that need no walk, each by the kernel: apart, for they take much memory. -/
import Derived.Test.YtccmnfpbcmccpaaGreatDoorCards
import Derived.ProofKit
import Derived.LaidMore
import Derived.OpenShut
import Derived.Stop.Joined
import Derived.Stop.LaidErr
set_option linter.unusedSimpArgs false
set_option linter.unusedVariables false
set_option linter.deprecated false
namespace Go.Proofs.YtccmnfpbcmccpaaGreatDoor
open Go Go.ChangeShapes Go.WideShapes Go.ChangeAt Go.RowKit
theorem ZgL:Tryz.pinned.checked.prog.funcNamed Rows.reduceAlphaRow.func=some 4:=by kernel_rfl
theorem Zg2:joinedFacts Tryz.pinned.checked.prog 4 Tryz.f4 Rows.reduceAlphaSpec Rows.reduceAlphaRow=true:=by kernel_rfl
theorem ZhL:Func.isInstance Tryz.pinned.checked.prog Tryz.f4 Rows.reduceAlphaRow.origin Rows.reduceAlphaRow.targs:=of_decide_eq_true (by kernel_rfl)
theorem ZhM:Func.isWrapper Tryz.pinned.checked.prog Tryz.f4 Rows.reduceAlphaRow.wrapper Rows.reduceAlphaRow.mainSum:=by unfold Func.isWrapper;first | (rw[if_pos (by decide +kernel)];kernel_rfl) | (rw[if_neg (by decide +kernel)];exact⟨rfl,rfl⟩)
end Go.Proofs.YtccmnfpbcmccpaaGreatDoor
