/- The facts about the row of RunCloses that need no walk, each by the kernel: apart, for they take much memory. (Parts of one proof, put together.) -/
import Derived.Test.YtccmnfpbcmccpaaGreatDoorCards
import Derived.ProofKit
import Derived.LaidMore
import Derived.OpenShut
import Derived.Stop.Joined
import Derived.Stop.LaidErr
set_option linter.unusedSimpArgs false
set_option linter.unusedVariables false
set_option linter.deprecated false
namespace Go.Proofs.YtccmnfpbcmccpaaGreatDoor
open Go Go.ChangeShapes Go.WideShapes Go.ChangeAt Go.RowKit
theorem ZfM:Tryz.pinned.checked.prog.funcNamed Rows.runClosesRow.func=some 5:=by kernel_rfl
theorem ZfX:joinedFacts Tryz.pinned.checked.prog 5 Tryz.f5 Rows.runClosesSpec Rows.runClosesRow=true:=by kernel_rfl
theorem Zf7:Func.isInstance Tryz.pinned.checked.prog Tryz.f5 Rows.runClosesRow.origin Rows.runClosesRow.targs:=of_decide_eq_true (by kernel_rfl)
theorem ZfY:Func.isWrapper Tryz.pinned.checked.prog Tryz.f5 Rows.runClosesRow.wrapper Rows.runClosesRow.mainSum:=by unfold Func.isWrapper;first | (rw [if_pos (by decide +kernel)];kernel_rfl) | (rw [if_neg (by decide +kernel)];exact ⟨rfl,rfl⟩)
end Go.Proofs.YtccmnfpbcmccpaaGreatDoor
