/- The facts about the row of NamesSubstAlpha that need no walk, each by the kernel: apart, for they take much memory. (Parts of one proof, put together.) -/
import Derived.Test.YtlcncicmkkelcaaGreatDoorCards
import Derived.ProofKit
import Derived.LaidMore
import Derived.OpenShut
import Derived.Stop.Joined
import Derived.Stop.LaidErr
set_option linter.unusedSimpArgs false
set_option linter.unusedVariables false
set_option linter.deprecated false
namespace Go.Proofs.YtlcncicmkkelcaaGreatDoor
open Go Go.ChangeShapes Go.WideShapes Go.ChangeAt Go.RowKit
theorem Zd2:Tryz.pinned.checked.prog.funcNamed Rows.namesSubstAlphaRow.func=some 8:=by kernel_rfl
theorem Zec:joinedFacts Tryz.pinned.checked.prog 8 Tryz.f8 Rows.namesSubstAlphaSpec Rows.namesSubstAlphaRow=true:=by kernel_rfl
theorem Zex:Func.isInstance Tryz.pinned.checked.prog Tryz.f8 Rows.namesSubstAlphaRow.origin Rows.namesSubstAlphaRow.targs:=of_decide_eq_true (by kernel_rfl)
theorem Zey:Func.isWrapper Tryz.pinned.checked.prog Tryz.f8 Rows.namesSubstAlphaRow.wrapper Rows.namesSubstAlphaRow.mainSum:=by unfold Func.isWrapper;first | (rw [if_pos (by decide +kernel)];kernel_rfl) | (rw [if_neg (by decide +kernel)];exact ⟨rfl,rfl⟩)
end Go.Proofs.YtlcncicmkkelcaaGreatDoor
