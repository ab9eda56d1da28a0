/- The card of SearchTowers from its row: apart, for the kernel's checks take much memory. -/
import Derived.Test.YtlhcebpnnceodaaGreatDoorCards
import Derived.Test.YtlhcebpnnceodaaGreatDoorTie
import Derived.ProofKit
import Derived.LaidMore
import Derived.OpenShut
import Derived.Stop.Joined
import Derived.Stop.LaidErr
import Derived.SevenTiedAt
set_option linter.unusedSimpArgs false
set_option linter.unusedVariables false
set_option linter.deprecated false

/- The card of SearchTowers from its row: apart, for the kernel's checks take much memory. -/
namespace Go.Proofs.YtlhcebpnnceodaaGreatDoor
open Go Go.ChangeShapes Go.WideShapes Go.ChangeAt Go.RowKit
theorem c3_wf : Rows.searchTowersRow.wfByText (OpenSpec.ofChange Rows.searchTowersSpec) = true := by kernel_rfl
theorem c3_main : Tryz.pinned.checked.prog.mainIs = some (true, "85b7fb02143777d28f4ea68e18d512628b40a58cd0861bd957574afa48beda02".toList) := by kernel_rfl
theorem c3_looks : true = Tryz.pinned.checked.prog.looks [] := by kernel_rfl
theorem c3_goes : false = Rows.searchTowersRow.goesBy Tryz.pinned.checked.prog := by kernel_rfl
theorem c3_named : Tryz.prog.funcNamed "typedholes/typedholeslaw31.SearchTowers" = some 3 := by kernel_rfl
theorem c3_all : ([3].all fun u => !Tryz.prog.wantsStandIn u) = true := by kernel_rfl
theorem searchTowers_card (hrow : Rows.SearchTowersSaid) : Rows.SearchTowersCardSaid :=
  Claim7.holds_tied_plain_at .later [] [.data, .data, .data, .sentinel, .sentinel] true (true, "85b7fb02143777d28f4ea68e18d512628b40a58cd0861bd957574afa48beda02") true
    hrow (fun _ h => by cases h) c3_wf (fun _ h => by cases h) searchTowers_row_tie rfl ⟨rfl, rfl⟩ c3_main rfl
    (fun f fn hf hfn => by
      obtain rfl : f = 3 := Option.some.inj (c3_named.symm.trans hf) |>.symm
      obtain rfl : fn = Tryz.f3 := (Option.some.inj (Tryz.func3.symm.trans hfn)).symm
      exact ⟨c3_looks, fun j t ht => by
        rw [Tryz.params3] at ht
        have hm : t ∈ [3] := by simpa using Array.mem_of_getElem? ht
        exact (show Tryz.prog.wantsStandIn t = false by simpa using List.all_eq_true.1 c3_all t hm)⟩)
    c3_goes
end Go.Proofs.YtlhcebpnnceodaaGreatDoor
