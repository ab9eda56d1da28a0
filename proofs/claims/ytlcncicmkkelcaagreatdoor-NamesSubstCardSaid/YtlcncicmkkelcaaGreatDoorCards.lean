/-
  DERIVED. GIVEN WITH THE SEED: THE CARDS: each row of YtlcncicmkkelcaaGreatDoorRows.lean that lists a variable, with what it lists TIED to the program's text (the seventh form; the later family's looks); each row that meets fmt, with fmt's text TOLD by the authors' own Lean function (tested against real Go, not proved from fmt's source: count such statements apart). THE CARD IS WHAT COUNTS. Prove the row's statement (the work); the ties are given (YtlcncicmkkelcaaGreatDoorTie.lean); close each card by the builder's one call (the guide's Derived/Test/ToyasCard.lean, 'card_holds'). Laid BY PROGRAM, IN A SANDBOX (cutbox-door.mjs). By AI agents, Wed Nov 11 2026. No macro, syntax, notation, axiom, sorry.
-/
import Derived.Test.YtlcncicmkkelcaaGreatDoorRows
import GoSem.ClaimSeven
namespace Go.Proofs.YtlcncicmkkelcaaGreatDoor
namespace Rows

/-- THE TIED CARD OF 'typedholeslaw29.OrderCompares'. -/
def orderComparesCard : Claim7 := { stood := { row := orderComparesRow, standIns := [], harness := (true, "08d4e829b029528a9e4c15bb7f9c4bcd42a745bc729a46cb9f7fe778b7ebb7dd"), looks := true }, kinds := [], alts := [], laidByText := true, laidKinds := [.data, .data, .data, .sentinel, .sentinel], laidTests := true, laidLooks := .later }
def OrderComparesCardSaid : Prop := Claim7.holds Tryz.pinned (.plain (OpenSpec.ofChange orderComparesSpec)) orderComparesCard

/-- THE TIED CARD OF 'typedholeslaw29.OrderTotal'. -/
def orderTotalCard : Claim7 := { stood := { row := orderTotalRow, standIns := [], harness := (true, "08d4e829b029528a9e4c15bb7f9c4bcd42a745bc729a46cb9f7fe778b7ebb7dd"), looks := true }, kinds := [], alts := [], laidByText := true, laidKinds := [.data, .data, .data, .sentinel, .sentinel], laidTests := true, laidLooks := .later }
def OrderTotalCardSaid : Prop := Claim7.holds Tryz.pinned (.plain (OpenSpec.ofChange orderTotalSpec)) orderTotalCard

/-- THE TIED CARD OF 'typedholeslaw11.NamesAlpha'. -/
def namesAlphaCard : Claim7 := { stood := { row := namesAlphaRow, standIns := [], harness := (true, "08d4e829b029528a9e4c15bb7f9c4bcd42a745bc729a46cb9f7fe778b7ebb7dd"), looks := true }, kinds := [], alts := [], laidByText := true, laidKinds := [.data, .data, .data, .sentinel, .sentinel], laidTests := true, laidLooks := .later }
def NamesAlphaCardSaid : Prop := Claim7.holds Tryz.pinned (.plain (OpenSpec.ofChange namesAlphaSpec)) namesAlphaCard

/-- THE TIED CARD OF 'typedholeslaw11.NamesFresh'. -/
def namesFreshCard : Claim7 := { stood := { row := namesFreshRow, standIns := [], harness := (true, "08d4e829b029528a9e4c15bb7f9c4bcd42a745bc729a46cb9f7fe778b7ebb7dd"), looks := true }, kinds := [], alts := [], laidByText := true, laidKinds := [.data, .data, .data, .sentinel, .sentinel], laidTests := true, laidLooks := .later }
def NamesFreshCardSaid : Prop := Claim7.holds Tryz.pinned (.plain (OpenSpec.ofChange namesFreshSpec)) namesFreshCard

/-- THE TIED CARD OF 'typedholeslaw11.NamesSubstFree'. -/
def namesSubstFreeCard : Claim7 := { stood := { row := namesSubstFreeRow, standIns := [], harness := (true, "08d4e829b029528a9e4c15bb7f9c4bcd42a745bc729a46cb9f7fe778b7ebb7dd"), looks := true }, kinds := [], alts := [], laidByText := true, laidKinds := [.data, .data, .data, .sentinel, .sentinel], laidTests := true, laidLooks := .later }
def NamesSubstFreeCardSaid : Prop := Claim7.holds Tryz.pinned (.plain (OpenSpec.ofChange namesSubstFreeSpec)) namesSubstFreeCard

/-- THE TIED CARD OF 'typedholeslaw11.NamesSubstAlpha'. -/
def namesSubstAlphaCard : Claim7 := { stood := { row := namesSubstAlphaRow, standIns := [], harness := (true, "08d4e829b029528a9e4c15bb7f9c4bcd42a745bc729a46cb9f7fe778b7ebb7dd"), looks := true }, kinds := [], alts := [], laidByText := true, laidKinds := [.data, .data, .data, .sentinel, .sentinel], laidTests := true, laidLooks := .later }
def NamesSubstAlphaCardSaid : Prop := Claim7.holds Tryz.pinned (.plain (OpenSpec.ofChange namesSubstAlphaSpec)) namesSubstAlphaCard

/-- THE TIED CARD OF 'typedholeslaw11.NamesSubst'. -/
def namesSubstCard : Claim7 := { stood := { row := namesSubstRow, standIns := [], harness := (true, "08d4e829b029528a9e4c15bb7f9c4bcd42a745bc729a46cb9f7fe778b7ebb7dd"), looks := true }, kinds := [], alts := [], laidByText := true, laidKinds := [.data, .data, .data, .sentinel, .sentinel], laidTests := true, laidLooks := .later }
def NamesSubstCardSaid : Prop := Claim7.holds Tryz.pinned (.plain (OpenSpec.ofChange namesSubstSpec)) namesSubstCard

/-- THE TIED CARD OF 'typedholeslaw11.NamesCanonical'. -/
def namesCanonicalCard : Claim7 := { stood := { row := namesCanonicalRow, standIns := [], harness := (true, "08d4e829b029528a9e4c15bb7f9c4bcd42a745bc729a46cb9f7fe778b7ebb7dd"), looks := true }, kinds := [], alts := [], laidByText := true, laidKinds := [.data, .data, .data, .sentinel, .sentinel], laidTests := true, laidLooks := .later }
def NamesCanonicalCardSaid : Prop := Claim7.holds Tryz.pinned (.plain (OpenSpec.ofChange namesCanonicalSpec)) namesCanonicalCard

/-- THE TIED CARD OF 'typedholeslaw29.OrderSizes'. -/
def orderSizesCard : Claim7 := { stood := { row := orderSizesRow, standIns := [], harness := (true, "08d4e829b029528a9e4c15bb7f9c4bcd42a745bc729a46cb9f7fe778b7ebb7dd"), looks := true }, kinds := [], alts := [], laidByText := true, laidKinds := [.data, .data, .data, .sentinel, .sentinel], laidTests := true, laidLooks := .later }
def OrderSizesCardSaid : Prop := Claim7.holds Tryz.pinned (.plain (OpenSpec.ofChange orderSizesSpec)) orderSizesCard

/-- THE SECOND FORM's CARD OF 'typedholeslaw29.OrderCompares'. -/
def orderComparesUptoCard : Claim7 := { stood := { row := orderComparesUptoRow, standIns := [], harness := (true, "08d4e829b029528a9e4c15bb7f9c4bcd42a745bc729a46cb9f7fe778b7ebb7dd"), looks := true }, kinds := [], alts := [], laidByText := true, laidKinds := [.data, .data, .data, .sentinel, .sentinel], laidTests := true, laidLooks := .later }
def OrderComparesUptoCardSaid : Prop := Claim7.holds Tryz.pinned (.plain (OpenSpec.upto orderComparesSpec)) orderComparesUptoCard

/-- THE SECOND FORM's CARD OF 'typedholeslaw29.OrderTotal'. -/
def orderTotalUptoCard : Claim7 := { stood := { row := orderTotalUptoRow, standIns := [], harness := (true, "08d4e829b029528a9e4c15bb7f9c4bcd42a745bc729a46cb9f7fe778b7ebb7dd"), looks := true }, kinds := [], alts := [], laidByText := true, laidKinds := [.data, .data, .data, .sentinel, .sentinel], laidTests := true, laidLooks := .later }
def OrderTotalUptoCardSaid : Prop := Claim7.holds Tryz.pinned (.plain (OpenSpec.upto orderTotalSpec)) orderTotalUptoCard

/-- THE SECOND FORM's CARD OF 'typedholeslaw11.NamesAlpha'. -/
def namesAlphaUptoCard : Claim7 := { stood := { row := namesAlphaUptoRow, standIns := [], harness := (true, "08d4e829b029528a9e4c15bb7f9c4bcd42a745bc729a46cb9f7fe778b7ebb7dd"), looks := true }, kinds := [], alts := [], laidByText := true, laidKinds := [.data, .data, .data, .sentinel, .sentinel], laidTests := true, laidLooks := .later }
def NamesAlphaUptoCardSaid : Prop := Claim7.holds Tryz.pinned (.plain (OpenSpec.upto namesAlphaSpec)) namesAlphaUptoCard

/-- THE SECOND FORM's CARD OF 'typedholeslaw11.NamesFresh'. -/
def namesFreshUptoCard : Claim7 := { stood := { row := namesFreshUptoRow, standIns := [], harness := (true, "08d4e829b029528a9e4c15bb7f9c4bcd42a745bc729a46cb9f7fe778b7ebb7dd"), looks := true }, kinds := [], alts := [], laidByText := true, laidKinds := [.data, .data, .data, .sentinel, .sentinel], laidTests := true, laidLooks := .later }
def NamesFreshUptoCardSaid : Prop := Claim7.holds Tryz.pinned (.plain (OpenSpec.upto namesFreshSpec)) namesFreshUptoCard

/-- THE SECOND FORM's CARD OF 'typedholeslaw11.NamesSubstFree'. -/
def namesSubstFreeUptoCard : Claim7 := { stood := { row := namesSubstFreeUptoRow, standIns := [], harness := (true, "08d4e829b029528a9e4c15bb7f9c4bcd42a745bc729a46cb9f7fe778b7ebb7dd"), looks := true }, kinds := [], alts := [], laidByText := true, laidKinds := [.data, .data, .data, .sentinel, .sentinel], laidTests := true, laidLooks := .later }
def NamesSubstFreeUptoCardSaid : Prop := Claim7.holds Tryz.pinned (.plain (OpenSpec.upto namesSubstFreeSpec)) namesSubstFreeUptoCard

/-- THE SECOND FORM's CARD OF 'typedholeslaw11.NamesSubstAlpha'. -/
def namesSubstAlphaUptoCard : Claim7 := { stood := { row := namesSubstAlphaUptoRow, standIns := [], harness := (true, "08d4e829b029528a9e4c15bb7f9c4bcd42a745bc729a46cb9f7fe778b7ebb7dd"), looks := true }, kinds := [], alts := [], laidByText := true, laidKinds := [.data, .data, .data, .sentinel, .sentinel], laidTests := true, laidLooks := .later }
def NamesSubstAlphaUptoCardSaid : Prop := Claim7.holds Tryz.pinned (.plain (OpenSpec.upto namesSubstAlphaSpec)) namesSubstAlphaUptoCard

/-- THE SECOND FORM's CARD OF 'typedholeslaw11.NamesSubst'. -/
def namesSubstUptoCard : Claim7 := { stood := { row := namesSubstUptoRow, standIns := [], harness := (true, "08d4e829b029528a9e4c15bb7f9c4bcd42a745bc729a46cb9f7fe778b7ebb7dd"), looks := true }, kinds := [], alts := [], laidByText := true, laidKinds := [.data, .data, .data, .sentinel, .sentinel], laidTests := true, laidLooks := .later }
def NamesSubstUptoCardSaid : Prop := Claim7.holds Tryz.pinned (.plain (OpenSpec.upto namesSubstSpec)) namesSubstUptoCard

/-- THE SECOND FORM's CARD OF 'typedholeslaw11.NamesCanonical'. -/
def namesCanonicalUptoCard : Claim7 := { stood := { row := namesCanonicalUptoRow, standIns := [], harness := (true, "08d4e829b029528a9e4c15bb7f9c4bcd42a745bc729a46cb9f7fe778b7ebb7dd"), looks := true }, kinds := [], alts := [], laidByText := true, laidKinds := [.data, .data, .data, .sentinel, .sentinel], laidTests := true, laidLooks := .later }
def NamesCanonicalUptoCardSaid : Prop := Claim7.holds Tryz.pinned (.plain (OpenSpec.upto namesCanonicalSpec)) namesCanonicalUptoCard

/-- THE SECOND FORM's CARD OF 'typedholeslaw29.OrderSizes'. -/
def orderSizesUptoCard : Claim7 := { stood := { row := orderSizesUptoRow, standIns := [], harness := (true, "08d4e829b029528a9e4c15bb7f9c4bcd42a745bc729a46cb9f7fe778b7ebb7dd"), looks := true }, kinds := [], alts := [], laidByText := true, laidKinds := [.data, .data, .data, .sentinel, .sentinel], laidTests := true, laidLooks := .later }
def OrderSizesUptoCardSaid : Prop := Claim7.holds Tryz.pinned (.plain (OpenSpec.upto orderSizesSpec)) orderSizesUptoCard
end Rows
end Go.Proofs.YtlcncicmkkelcaaGreatDoor
