/- The facts about the row of RunSplits that need no walk, each by the kernel: apart, for they take much memory. -/
import Derived.Test.YtccmnfpbcmccpaaGreatDoorCards
import Derived.ProofKit
import Derived.LaidMore
import Derived.OpenShut
import Derived.Stop.Joined
import Derived.Stop.LaidErr
set_option linter.unusedSimpArgs false
set_option linter.unusedVariables false
set_option linter.deprecated false
namespace Go.Proofs.YtccmnfpbcmccpaaGreatDoor
open Go Go.ChangeShapes Go.WideShapes Go.ChangeAt Go.RowKit
theorem ZeB:Tryz.pinned.checked.prog.funcNamed Rows.runSplitsRow.func=some 7:=by kernel_rfl
theorem Zai:joinedFacts Tryz.pinned.checked.prog 7 Tryz.f7 Rows.runSplitsSpec Rows.runSplitsRow=true:=by kernel_rfl
theorem Zej:Func.isInstance Tryz.pinned.checked.prog Tryz.f7 Rows.runSplitsRow.origin Rows.runSplitsRow.targs:=of_decide_eq_true (by kernel_rfl)
theorem YX:Func.isWrapper Tryz.pinned.checked.prog Tryz.f7 Rows.runSplitsRow.wrapper Rows.runSplitsRow.mainSum:=by unfold Func.isWrapper;first | (rw[if_pos (by decide +kernel)];kernel_rfl) | (rw[if_neg (by decide +kernel)];exact⟨rfl,rfl⟩)
end Go.Proofs.YtccmnfpbcmccpaaGreatDoor
