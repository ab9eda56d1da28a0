/- The facts about the row of NamesSubst that need no walk, each by the kernel: apart, for they take much memory. (Parts of one proof, put together.) -/
import Derived.Test.YtlcncicmkkelcaaGreatDoorCards
import Derived.ProofKit
import Derived.LaidMore
import Derived.OpenShut
import Derived.Stop.Joined
import Derived.Stop.LaidErr
set_option linter.unusedSimpArgs false
set_option linter.unusedVariables false
set_option linter.deprecated false
namespace Go.Proofs.YtlcncicmkkelcaaGreatDoor
open Go Go.ChangeShapes Go.WideShapes Go.ChangeAt Go.RowKit
theorem Zf5:Tryz.pinned.checked.prog.funcNamed Rows.namesSubstRow.func=some 9:=by kernel_rfl
theorem Zf1:joinedFacts Tryz.pinned.checked.prog 9 Tryz.f9 Rows.namesSubstSpec Rows.namesSubstRow=true:=by kernel_rfl
theorem ZgV:Func.isInstance Tryz.pinned.checked.prog Tryz.f9 Rows.namesSubstRow.origin Rows.namesSubstRow.targs:=of_decide_eq_true (by kernel_rfl)
theorem ZgX:Func.isWrapper Tryz.pinned.checked.prog Tryz.f9 Rows.namesSubstRow.wrapper Rows.namesSubstRow.mainSum:=by unfold Func.isWrapper;first | (rw [if_pos (by decide +kernel)];kernel_rfl) | (rw [if_neg (by decide +kernel)];exact ⟨rfl,rfl⟩)
end Go.Proofs.YtlcncicmkkelcaaGreatDoor
