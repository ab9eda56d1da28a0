/-
  DERIVED. GIVEN WITH THE SEED: THE CARDS: each row of YtlfnfilcbhfdnaaGreatDoorRows.lean that lists a variable, with what it lists TIED to the program's text (the seventh form; the later family's looks); each row that meets fmt, with fmt's text TOLD by the authors' own Lean function (tested against real Go, not proved from fmt's source: count such statements apart). THE CARD IS WHAT COUNTS. Prove the row's statement (the work); the ties are given (YtlfnfilcbhfdnaaGreatDoorTie.lean); close each card by the builder's one call (the guide's Derived/Test/ToyasCard.lean, 'card_holds'). Laid BY PROGRAM, IN A SANDBOX (cutbox-door.mjs). By AI agents, Wed Nov 11 2026. No macro, syntax, notation, axiom, sorry.
-/
import Derived.Test.YtlfnfilcbhfdnaaGreatDoorRows
import GoSem.ClaimSeven
namespace Go.Proofs.YtlfnfilcbhfdnaaGreatDoor
namespace Rows

/-- THE TIED CARD OF 'typedholeslaw29.OrderRanks'. -/
def orderRanksCard : Claim7 := { stood := { row := orderRanksRow, standIns := [], harness := (true, "cf75b44b45385857f0194abbc77d69506630fa51b0e581eb708327ce5cb4102d"), looks := true }, kinds := [], alts := [], laidByText := true, laidKinds := [.data, .data, .data, .sentinel, .sentinel], laidTests := true, laidLooks := .later }
def OrderRanksCardSaid : Prop := Claim7.holds Tryz.pinned (.plain (OpenSpec.ofChange orderRanksSpec)) orderRanksCard

/-- THE TIED CARD OF 'typedholeslaw11.NamesFree'. -/
def namesFreeCard : Claim7 := { stood := { row := namesFreeRow, standIns := [], harness := (true, "cf75b44b45385857f0194abbc77d69506630fa51b0e581eb708327ce5cb4102d"), looks := true }, kinds := [], alts := [], laidByText := true, laidKinds := [.data, .data, .data, .sentinel, .sentinel], laidTests := true, laidLooks := .later }
def NamesFreeCardSaid : Prop := Claim7.holds Tryz.pinned (.plain (OpenSpec.ofChange namesFreeSpec)) namesFreeCard

/-- THE TIED CARD OF 'typedholeslaw11.NamesAlpha'. -/
def namesAlphaCard : Claim7 := { stood := { row := namesAlphaRow, standIns := [], harness := (true, "cf75b44b45385857f0194abbc77d69506630fa51b0e581eb708327ce5cb4102d"), looks := true }, kinds := [], alts := [], laidByText := true, laidKinds := [.data, .data, .data, .sentinel, .sentinel], laidTests := true, laidLooks := .later }
def NamesAlphaCardSaid : Prop := Claim7.holds Tryz.pinned (.plain (OpenSpec.ofChange namesAlphaSpec)) namesAlphaCard

/-- THE TIED CARD OF 'typedholeslaw11.NamesFresh'. -/
def namesFreshCard : Claim7 := { stood := { row := namesFreshRow, standIns := [], harness := (true, "cf75b44b45385857f0194abbc77d69506630fa51b0e581eb708327ce5cb4102d"), looks := true }, kinds := [], alts := [], laidByText := true, laidKinds := [.data, .data, .data, .sentinel, .sentinel], laidTests := true, laidLooks := .later }
def NamesFreshCardSaid : Prop := Claim7.holds Tryz.pinned (.plain (OpenSpec.ofChange namesFreshSpec)) namesFreshCard

/-- THE SECOND FORM's CARD OF 'typedholeslaw29.OrderRanks'. -/
def orderRanksUptoCard : Claim7 := { stood := { row := orderRanksUptoRow, standIns := [], harness := (true, "cf75b44b45385857f0194abbc77d69506630fa51b0e581eb708327ce5cb4102d"), looks := true }, kinds := [], alts := [], laidByText := true, laidKinds := [.data, .data, .data, .sentinel, .sentinel], laidTests := true, laidLooks := .later }
def OrderRanksUptoCardSaid : Prop := Claim7.holds Tryz.pinned (.plain (OpenSpec.upto orderRanksSpec)) orderRanksUptoCard

/-- THE SECOND FORM's CARD OF 'typedholeslaw11.NamesFree'. -/
def namesFreeUptoCard : Claim7 := { stood := { row := namesFreeUptoRow, standIns := [], harness := (true, "cf75b44b45385857f0194abbc77d69506630fa51b0e581eb708327ce5cb4102d"), looks := true }, kinds := [], alts := [], laidByText := true, laidKinds := [.data, .data, .data, .sentinel, .sentinel], laidTests := true, laidLooks := .later }
def NamesFreeUptoCardSaid : Prop := Claim7.holds Tryz.pinned (.plain (OpenSpec.upto namesFreeSpec)) namesFreeUptoCard

/-- THE SECOND FORM's CARD OF 'typedholeslaw11.NamesAlpha'. -/
def namesAlphaUptoCard : Claim7 := { stood := { row := namesAlphaUptoRow, standIns := [], harness := (true, "cf75b44b45385857f0194abbc77d69506630fa51b0e581eb708327ce5cb4102d"), looks := true }, kinds := [], alts := [], laidByText := true, laidKinds := [.data, .data, .data, .sentinel, .sentinel], laidTests := true, laidLooks := .later }
def NamesAlphaUptoCardSaid : Prop := Claim7.holds Tryz.pinned (.plain (OpenSpec.upto namesAlphaSpec)) namesAlphaUptoCard

/-- THE SECOND FORM's CARD OF 'typedholeslaw11.NamesFresh'. -/
def namesFreshUptoCard : Claim7 := { stood := { row := namesFreshUptoRow, standIns := [], harness := (true, "cf75b44b45385857f0194abbc77d69506630fa51b0e581eb708327ce5cb4102d"), looks := true }, kinds := [], alts := [], laidByText := true, laidKinds := [.data, .data, .data, .sentinel, .sentinel], laidTests := true, laidLooks := .later }
def NamesFreshUptoCardSaid : Prop := Claim7.holds Tryz.pinned (.plain (OpenSpec.upto namesFreshSpec)) namesFreshUptoCard
end Rows
end Go.Proofs.YtlfnfilcbhfdnaaGreatDoor
