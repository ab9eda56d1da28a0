/- The facts about the row of RunLoops that need no walk, each by the kernel: apart, for they take much memory. (Parts of one proof, put together.) -/
import Derived.Test.YtccmnfpbcmccpaaGreatDoorCards
import Derived.ProofKit
import Derived.LaidMore
import Derived.OpenShut
import Derived.Stop.Joined
import Derived.Stop.LaidErr
set_option linter.unusedSimpArgs false
set_option linter.unusedVariables false
set_option linter.deprecated false

/- The facts about the row of RunLoops that need no walk, each by the kernel: apart, for they take much memory. -/
namespace Go.Proofs.YtccmnfpbcmccpaaGreatDoor
open Go Go.ChangeShapes Go.WideShapes Go.ChangeAt Go.RowKit
theorem runLoops_named : Tryz.pinned.checked.prog.funcNamed Rows.runLoopsRow.func = some 8 := by kernel_rfl
theorem runLoops_facts : joinedFacts Tryz.pinned.checked.prog 8 Tryz.f8 Rows.runLoopsSpec Rows.runLoopsRow = true := by kernel_rfl
theorem runLoops_inst : Func.isInstance Tryz.pinned.checked.prog Tryz.f8 Rows.runLoopsRow.origin Rows.runLoopsRow.targs := of_decide_eq_true (by kernel_rfl)
theorem runLoops_wrap : Func.isWrapper Tryz.pinned.checked.prog Tryz.f8 Rows.runLoopsRow.wrapper Rows.runLoopsRow.mainSum := by unfold Func.isWrapper; first | (rw [if_pos (by decide +kernel)]; kernel_rfl) | (rw [if_neg (by decide +kernel)]; exact ⟨rfl, rfl⟩)
end Go.Proofs.YtccmnfpbcmccpaaGreatDoor
