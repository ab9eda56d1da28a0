/- The facts about the row of RunLists that need no walk, each by the kernel: apart, for they take much memory. -/
import Derived.Test.YtccmnfpbcmccpaaGreatDoorCards
import Derived.ProofKit
import Derived.LaidMore
import Derived.OpenShut
import Derived.Stop.Joined
import Derived.Stop.LaidErr
set_option linter.unusedSimpArgs false
set_option linter.unusedVariables false
set_option linter.deprecated false
namespace Go.Proofs.YtccmnfpbcmccpaaGreatDoor
open Go Go.ChangeShapes Go.WideShapes Go.ChangeAt Go.RowKit
theorem YL:Tryz.pinned.checked.prog.funcNamed Rows.runListsRow.func=some 10:=by kernel_rfl
theorem VE:joinedFacts Tryz.pinned.checked.prog 10 Tryz.f10 Rows.runListsSpec Rows.runListsRow=true:=by kernel_rfl
theorem V1:Func.isInstance Tryz.pinned.checked.prog Tryz.f10 Rows.runListsRow.origin Rows.runListsRow.targs:=of_decide_eq_true (by kernel_rfl)
theorem Z3:Func.isWrapper Tryz.pinned.checked.prog Tryz.f10 Rows.runListsRow.wrapper Rows.runListsRow.mainSum:=by unfold Func.isWrapper;first | (rw[if_pos (by decide +kernel)];kernel_rfl) | (rw[if_neg (by decide +kernel)];exact⟨rfl,rfl⟩)
end Go.Proofs.YtccmnfpbcmccpaaGreatDoor
