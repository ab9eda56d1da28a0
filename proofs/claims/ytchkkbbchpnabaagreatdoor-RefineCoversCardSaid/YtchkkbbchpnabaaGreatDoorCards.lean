/-
  DERIVED. GIVEN WITH THE SEED: THE CARDS: each row of YtchkkbbchpnabaaGreatDoorRows.lean that lists a variable, with what it lists TIED to the program's text (the seventh form; the later family's looks); each row that meets fmt, with fmt's text TOLD by the authors' own Lean function (tested against real Go, not proved from fmt's source: count such statements apart). THE CARD IS WHAT COUNTS. Prove the row's statement (the work); the ties are given (YtchkkbbchpnabaaGreatDoorTie.lean); close each card by the builder's one call (the guide's Derived/Test/ToyasCard.lean, 'card_holds'). Laid BY PROGRAM, IN A SANDBOX (cutbox-door.mjs). By AI agents, Wed Nov 11 2026. No macro, syntax, notation, axiom, sorry.
-/
import Derived.Test.YtchkkbbchpnabaaGreatDoorRows
import GoSem.ClaimSeven
namespace Go.Proofs.YtchkkbbchpnabaaGreatDoor
namespace Rows

/-- THE TIED CARD OF 'typedholeslaw33.RefineCovers'. -/
def refineCoversCard : Claim7 := { stood := { row := refineCoversRow, standIns := [], harness := (true, "96bf923c079fcce9588b0fe3c54003fbf961e1715cae844297e34c9f199464ee"), looks := true }, kinds := [], alts := [], laidByText := true, laidKinds := [.data, .data, .data, .handle, .sentinel, .sentinel], laidTests := true, laidLooks := .later }
def RefineCoversCardSaid : Prop := Claim7.holds Tryz.pinned (.plain (OpenSpec.ofChange refineCoversSpec)) refineCoversCard

/-- THE SECOND FORM's CARD OF 'typedholeslaw33.RefineCovers'. -/
def refineCoversUptoCard : Claim7 := { stood := { row := refineCoversUptoRow, standIns := [], harness := (true, "96bf923c079fcce9588b0fe3c54003fbf961e1715cae844297e34c9f199464ee"), looks := true }, kinds := [], alts := [], laidByText := true, laidKinds := [.data, .data, .data, .handle, .sentinel, .sentinel], laidTests := true, laidLooks := .later }
def RefineCoversUptoCardSaid : Prop := Claim7.holds Tryz.pinned (.plain (OpenSpec.upto refineCoversSpec)) refineCoversUptoCard
end Rows
end Go.Proofs.YtchkkbbchpnabaaGreatDoor
