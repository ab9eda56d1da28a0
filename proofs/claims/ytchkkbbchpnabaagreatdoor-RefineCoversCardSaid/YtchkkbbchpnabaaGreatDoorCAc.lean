/- The card of RefineCovers from its row: apart, for the kernel's checks take much memory. -/
import Derived.Test.YtchkkbbchpnabaaGreatDoorCards
import Derived.Test.YtchkkbbchpnabaaGreatDoorTie
import Derived.ProofKit
import Derived.LaidMore
import Derived.OpenShut
import Derived.Stop.Joined
import Derived.Stop.LaidErr
import Derived.SevenTiedAt
set_option linter.unusedSimpArgs false
set_option linter.unusedVariables false
set_option linter.deprecated false

/- The card of RefineCovers from its row: apart, for the kernel's checks take much memory. -/
namespace Go.Proofs.YtchkkbbchpnabaaGreatDoor
open Go Go.ChangeShapes Go.WideShapes Go.ChangeAt Go.RowKit
theorem c3_wf : Rows.refineCoversRow.wfByText (OpenSpec.ofChange Rows.refineCoversSpec) = true := by kernel_rfl
theorem c3_main : Tryz.pinned.checked.prog.mainIs = some (true, "96bf923c079fcce9588b0fe3c54003fbf961e1715cae844297e34c9f199464ee".toList) := by kernel_rfl
theorem c3_looks : true = Tryz.pinned.checked.prog.looks [] := by kernel_rfl
theorem c3_goes : false = Rows.refineCoversRow.goesBy Tryz.pinned.checked.prog := by kernel_rfl
theorem c3_named : Tryz.prog.funcNamed "typedholes/typedholeslaw33.RefineCovers" = some 3 := by kernel_rfl
theorem c3_all : ([3, 22, 22, 22].all fun u => !Tryz.prog.wantsStandIn u) = true := by kernel_rfl
theorem refineCovers_card (hrow : Rows.RefineCoversSaid) : Rows.RefineCoversCardSaid :=
  Claim7.holds_tied_plain_at .later [] [.data, .data, .data, .handle, .sentinel, .sentinel] true (true, "96bf923c079fcce9588b0fe3c54003fbf961e1715cae844297e34c9f199464ee") true
    hrow (fun _ h => by cases h) c3_wf (fun _ h => by cases h) refineCovers_row_tie rfl ⟨rfl, rfl⟩ c3_main rfl
    (fun f fn hf hfn => by
      obtain rfl : f = 3 := Option.some.inj (c3_named.symm.trans hf) |>.symm
      obtain rfl : fn = Tryz.f3 := (Option.some.inj (Tryz.func3.symm.trans hfn)).symm
      exact ⟨c3_looks, fun j t ht => by
        rw [Tryz.params3] at ht
        have hm : t ∈ [3, 22, 22, 22] := by simpa using Array.mem_of_getElem? ht
        exact (show Tryz.prog.wantsStandIn t = false by simpa using List.all_eq_true.1 c3_all t hm)⟩)
    c3_goes
end Go.Proofs.YtchkkbbchpnabaaGreatDoor
