/- The facts about the row of SearchTowers that need no walk, each by the kernel: apart, for they take much memory. -/
import Derived.Test.YtlhcebpnnceodaaGreatDoorCards
import Derived.ProofKit
import Derived.LaidMore
import Derived.OpenShut
import Derived.Stop.Joined
import Derived.Stop.LaidErr
set_option linter.unusedSimpArgs false
set_option linter.unusedVariables false
set_option linter.deprecated false

/- The facts about the row of SearchTowers that need no walk, each by the kernel: apart, for they take much memory. -/
namespace Go.Proofs.YtlhcebpnnceodaaGreatDoor
open Go Go.ChangeShapes Go.WideShapes Go.ChangeAt Go.RowKit
theorem searchTowers_named : Tryz.pinned.checked.prog.funcNamed Rows.searchTowersRow.func = some 3 := by kernel_rfl
theorem searchTowers_facts : joinedFacts Tryz.pinned.checked.prog 3 Tryz.f3 Rows.searchTowersSpec Rows.searchTowersRow = true := by kernel_rfl
theorem searchTowers_inst : Func.isInstance Tryz.pinned.checked.prog Tryz.f3 Rows.searchTowersRow.origin Rows.searchTowersRow.targs := of_decide_eq_true (by kernel_rfl)
theorem searchTowers_wrap : Func.isWrapper Tryz.pinned.checked.prog Tryz.f3 Rows.searchTowersRow.wrapper Rows.searchTowersRow.mainSum := by unfold Func.isWrapper; first | (rw [if_pos (by decide +kernel)]; kernel_rfl) | (rw [if_neg (by decide +kernel)]; exact ⟨rfl, rfl⟩)
end Go.Proofs.YtlhcebpnnceodaaGreatDoor
