/- The facts about the row of RunWhole that need no walk, each by the kernel: apart, for they take much memory. -/
import Derived.Test.YtccmnfpbcmccpaaGreatDoorCards
import Derived.ProofKit
import Derived.LaidMore
import Derived.OpenShut
import Derived.Stop.Joined
import Derived.Stop.LaidErr
set_option linter.all false
namespace Go.Proofs.YtccmnfpbcmccpaaGreatDoor
open Go Go.ChangeShapes Go.WideShapes Go.ChangeAt Go.RowKit
theorem ZhJ:Tryz.pinned.checked.prog.funcNamed Rows.runWholeRow.func=some 9:=by kernel_rfl
theorem Zdh:joinedFacts Tryz.pinned.checked.prog 9 Tryz.f9 Rows.runWholeSpec Rows.runWholeRow=true:=by kernel_rfl
theorem ZcZ:Func.isInstance Tryz.pinned.checked.prog Tryz.f9 Rows.runWholeRow.origin Rows.runWholeRow.targs:=of_decide_eq_true (by kernel_rfl)
theorem Xm:Func.isWrapper Tryz.pinned.checked.prog Tryz.f9 Rows.runWholeRow.wrapper Rows.runWholeRow.mainSum:=by unfold Func.isWrapper;first | (rw[if_pos (by decide +kernel)];kernel_rfl) | (rw[if_neg (by decide +kernel)];exact⟨rfl,rfl⟩)
end Go.Proofs.YtccmnfpbcmccpaaGreatDoor
