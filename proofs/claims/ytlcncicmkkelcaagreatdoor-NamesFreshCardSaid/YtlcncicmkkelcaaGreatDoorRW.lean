/- The facts about the row of NamesFresh that need no walk, each by the kernel: apart, for they take much memory. (Parts of one proof, put together.) -/
import Derived.Test.YtlcncicmkkelcaaGreatDoorCards
import Derived.ProofKit
import Derived.LaidMore
import Derived.OpenShut
import Derived.Stop.Joined
import Derived.Stop.LaidErr
set_option linter.unusedSimpArgs false
set_option linter.unusedVariables false
set_option linter.deprecated false

/- The facts about the row of NamesFresh that need no walk, each by the kernel: apart, for they take much memory. -/
namespace Go.Proofs.YtlcncicmkkelcaaGreatDoor
open Go Go.ChangeShapes Go.WideShapes Go.ChangeAt Go.RowKit
theorem namesFresh_named : Tryz.pinned.checked.prog.funcNamed Rows.namesFreshRow.func = some 6 := by kernel_rfl
theorem namesFresh_facts : joinedFacts Tryz.pinned.checked.prog 6 Tryz.f6 Rows.namesFreshSpec Rows.namesFreshRow = true := by kernel_rfl
theorem namesFresh_inst : Func.isInstance Tryz.pinned.checked.prog Tryz.f6 Rows.namesFreshRow.origin Rows.namesFreshRow.targs := of_decide_eq_true (by kernel_rfl)
theorem namesFresh_wrap : Func.isWrapper Tryz.pinned.checked.prog Tryz.f6 Rows.namesFreshRow.wrapper Rows.namesFreshRow.mainSum := by unfold Func.isWrapper; first | (rw [if_pos (by decide +kernel)]; kernel_rfl) | (rw [if_neg (by decide +kernel)]; exact ⟨rfl, rfl⟩)
end Go.Proofs.YtlcncicmkkelcaaGreatDoor
