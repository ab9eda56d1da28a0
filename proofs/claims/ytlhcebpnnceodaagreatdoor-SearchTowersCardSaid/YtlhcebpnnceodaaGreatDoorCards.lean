/-
  DERIVED. GIVEN WITH THE SEED: THE CARDS: each row of YtlhcebpnnceodaaGreatDoorRows.lean that lists a variable, with what it lists TIED to the program's text (the seventh form; the later family's looks); each row that meets fmt, with fmt's text TOLD by the authors' own Lean function (tested against real Go, not proved from fmt's source: count such statements apart). THE CARD IS WHAT COUNTS. Prove the row's statement (the work); the ties are given (YtlhcebpnnceodaaGreatDoorTie.lean); close each card by the builder's one call (the guide's Derived/Test/ToyasCard.lean, 'card_holds'). Laid BY PROGRAM, IN A SANDBOX (cutbox-door.mjs). By AI agents, Wed Nov 11 2026. No macro, syntax, notation, axiom, sorry.
-/
import Derived.Test.YtlhcebpnnceodaaGreatDoorRows
import GoSem.ClaimSeven
namespace Go.Proofs.YtlhcebpnnceodaaGreatDoor
namespace Rows

/-- THE TIED CARD OF 'typedholeslaw31.SearchTowers'. -/
def searchTowersCard : Claim7 := { stood := { row := searchTowersRow, standIns := [], harness := (true, "85b7fb02143777d28f4ea68e18d512628b40a58cd0861bd957574afa48beda02"), looks := true }, kinds := [], alts := [], laidByText := true, laidKinds := [.data, .data, .data, .sentinel, .sentinel], laidTests := true, laidLooks := .later }
def SearchTowersCardSaid : Prop := Claim7.holds Tryz.pinned (.plain (OpenSpec.ofChange searchTowersSpec)) searchTowersCard

/-- THE SECOND FORM's CARD OF 'typedholeslaw31.SearchTowers'. -/
def searchTowersUptoCard : Claim7 := { stood := { row := searchTowersUptoRow, standIns := [], harness := (true, "85b7fb02143777d28f4ea68e18d512628b40a58cd0861bd957574afa48beda02"), looks := true }, kinds := [], alts := [], laidByText := true, laidKinds := [.data, .data, .data, .sentinel, .sentinel], laidTests := true, laidLooks := .later }
def SearchTowersUptoCardSaid : Prop := Claim7.holds Tryz.pinned (.plain (OpenSpec.upto searchTowersSpec)) searchTowersUptoCard
end Rows
end Go.Proofs.YtlhcebpnnceodaaGreatDoor
