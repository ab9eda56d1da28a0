/- The facts about the row of RunPrograms that need no walk, each by the kernel: apart, for they take much memory. -/
import Derived.Test.YtccmnfpbcmccpaaGreatDoorCards
import Derived.ProofKit
import Derived.LaidMore
import Derived.OpenShut
import Derived.Stop.Joined
import Derived.Stop.LaidErr
set_option linter.unusedSimpArgs false
set_option linter.unusedVariables false
set_option linter.deprecated false
namespace Go.Proofs.YtccmnfpbcmccpaaGreatDoor
open Go Go.ChangeShapes Go.WideShapes Go.ChangeAt Go.RowKit
theorem YP:Tryz.pinned.checked.prog.funcNamed Rows.runProgramsRow.func=some 6:=by kernel_rfl
theorem Z3:joinedFacts Tryz.pinned.checked.prog 6 Tryz.f6 Rows.runProgramsSpec Rows.runProgramsRow=true:=by kernel_rfl
theorem Zbx:Func.isInstance Tryz.pinned.checked.prog Tryz.f6 Rows.runProgramsRow.origin Rows.runProgramsRow.targs:=of_decide_eq_true (by kernel_rfl)
theorem Zgq:Func.isWrapper Tryz.pinned.checked.prog Tryz.f6 Rows.runProgramsRow.wrapper Rows.runProgramsRow.mainSum:=by unfold Func.isWrapper;first | (rw[if_pos (by decide +kernel)];kernel_rfl) | (rw[if_neg (by decide +kernel)];exact⟨rfl,rfl⟩)
end Go.Proofs.YtccmnfpbcmccpaaGreatDoor
