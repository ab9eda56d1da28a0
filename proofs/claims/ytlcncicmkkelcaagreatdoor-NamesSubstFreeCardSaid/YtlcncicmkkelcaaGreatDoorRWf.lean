/- The facts about the row of NamesSubstFree that need no walk, each by the kernel: apart, for they take much memory. (Parts of one proof, put together.) -/
import Derived.Test.YtlcncicmkkelcaaGreatDoorCards
import Derived.ProofKit
import Derived.LaidMore
import Derived.OpenShut
import Derived.Stop.Joined
import Derived.Stop.LaidErr
set_option linter.unusedSimpArgs false
set_option linter.unusedVariables false
set_option linter.deprecated false
namespace Go.Proofs.YtlcncicmkkelcaaGreatDoor
open Go Go.ChangeShapes Go.WideShapes Go.ChangeAt Go.RowKit
theorem namesSubstFree_named:Tryz.pinned.checked.prog.funcNamed Rows.namesSubstFreeRow.func=some 7:=by kernel_rfl
theorem namesSubstFree_facts:joinedFacts Tryz.pinned.checked.prog 7 Tryz.f7 Rows.namesSubstFreeSpec Rows.namesSubstFreeRow=true:=by kernel_rfl
theorem namesSubstFree_inst:Func.isInstance Tryz.pinned.checked.prog Tryz.f7 Rows.namesSubstFreeRow.origin Rows.namesSubstFreeRow.targs:=of_decide_eq_true (by kernel_rfl)
theorem namesSubstFree_wrap:Func.isWrapper Tryz.pinned.checked.prog Tryz.f7 Rows.namesSubstFreeRow.wrapper Rows.namesSubstFreeRow.mainSum:=by unfold Func.isWrapper;first | (rw [if_pos (by decide +kernel)];kernel_rfl) | (rw [if_neg (by decide +kernel)];exact ⟨rfl,rfl⟩)
end Go.Proofs.YtlcncicmkkelcaaGreatDoor
