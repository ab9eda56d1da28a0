/- The facts about the row of OrderSizes that need no walk, each by the kernel: apart, for they take much memory. (Parts of one proof, put together.) -/
import Derived.Test.YtlcncicmkkelcaaGreatDoorCards
import Derived.ProofKit
import Derived.LaidMore
import Derived.OpenShut
import Derived.Stop.Joined
import Derived.Stop.LaidErr
set_option linter.unusedSimpArgs false
set_option linter.unusedVariables false
set_option linter.deprecated false
namespace Go.Proofs.YtlcncicmkkelcaaGreatDoor
open Go Go.ChangeShapes Go.WideShapes Go.ChangeAt Go.RowKit
theorem Zae:Tryz.pinned.checked.prog.funcNamed Rows.orderSizesRow.func=some 11:=by kernel_rfl
theorem Zad:joinedFacts Tryz.pinned.checked.prog 11 Tryz.f11 Rows.orderSizesSpec Rows.orderSizesRow=true:=by kernel_rfl
theorem Zah:Func.isInstance Tryz.pinned.checked.prog Tryz.f11 Rows.orderSizesRow.origin Rows.orderSizesRow.targs:=of_decide_eq_true (by kernel_rfl)
theorem Zag:Func.isWrapper Tryz.pinned.checked.prog Tryz.f11 Rows.orderSizesRow.wrapper Rows.orderSizesRow.mainSum:=by unfold Func.isWrapper;first | (rw [if_pos (by decide +kernel)];kernel_rfl) | (rw [if_neg (by decide +kernel)];exact ⟨rfl,rfl⟩)
end Go.Proofs.YtlcncicmkkelcaaGreatDoor
