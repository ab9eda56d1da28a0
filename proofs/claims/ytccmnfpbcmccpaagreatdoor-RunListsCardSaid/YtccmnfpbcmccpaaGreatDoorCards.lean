/-
  DERIVED. GIVEN WITH THE SEED: THE CARDS: each row of YtccmnfpbcmccpaaGreatDoorRows.lean that lists a variable, with what it lists TIED to the program's text (the seventh form; the later family's looks); each row that meets fmt, with fmt's text TOLD by the authors' own Lean function (tested against real Go, not proved from fmt's source: count such statements apart). THE CARD IS WHAT COUNTS. Prove the row's statement (the work); the ties are given (YtccmnfpbcmccpaaGreatDoorTie.lean); close each card by the builder's one call (the guide's Derived/Test/ToyasCard.lean, 'card_holds'). Laid BY PROGRAM, IN A SANDBOX (cutbox-door.mjs). By AI agents, Wed Nov 11 2026. No macro, syntax, notation, axiom, sorry.
-/
import Derived.Test.YtccmnfpbcmccpaaGreatDoorRows
import GoSem.ClaimSeven
namespace Go.Proofs.YtccmnfpbcmccpaaGreatDoor
namespace Rows

/-- THE TIED CARD OF 'typedholeslaw26.ReduceSteps'. -/
def reduceStepsCard : Claim7 := { stood := { row := reduceStepsRow, standIns := [], harness := (true, "fe11262cc6d4be81d2f078a78fdfb2fc4ded9ab5fab315635d72e94ed0c30255"), looks := true }, kinds := [], alts := [], laidByText := true, laidKinds := [.data, .data, .data, .sentinel, .sentinel], laidTests := true, laidLooks := .later }
def ReduceStepsCardSaid : Prop := Claim7.holds Tryz.pinned (.plain (OpenSpec.ofChange reduceStepsSpec)) reduceStepsCard

/-- THE TIED CARD OF 'typedholeslaw26.ReduceAlpha'. -/
def reduceAlphaCard : Claim7 := { stood := { row := reduceAlphaRow, standIns := [], harness := (true, "fe11262cc6d4be81d2f078a78fdfb2fc4ded9ab5fab315635d72e94ed0c30255"), looks := true }, kinds := [], alts := [], laidByText := true, laidKinds := [.data, .data, .data, .sentinel, .sentinel], laidTests := true, laidLooks := .later }
def ReduceAlphaCardSaid : Prop := Claim7.holds Tryz.pinned (.plain (OpenSpec.ofChange reduceAlphaSpec)) reduceAlphaCard

/-- THE TIED CARD OF 'typedholeslaw27.RunCloses'. -/
def runClosesCard : Claim7 := { stood := { row := runClosesRow, standIns := [], harness := (true, "fe11262cc6d4be81d2f078a78fdfb2fc4ded9ab5fab315635d72e94ed0c30255"), looks := true }, kinds := [], alts := [], laidByText := true, laidKinds := [.data, .data, .data, .sentinel, .sentinel], laidTests := true, laidLooks := .later }
def RunClosesCardSaid : Prop := Claim7.holds Tryz.pinned (.plain (OpenSpec.ofChange runClosesSpec)) runClosesCard

/-- THE TIED CARD OF 'typedholeslaw27.RunPrograms'. -/
def runProgramsCard : Claim7 := { stood := { row := runProgramsRow, standIns := [], harness := (true, "fe11262cc6d4be81d2f078a78fdfb2fc4ded9ab5fab315635d72e94ed0c30255"), looks := true }, kinds := [], alts := [], laidByText := true, laidKinds := [.data, .data, .data, .sentinel, .sentinel], laidTests := true, laidLooks := .later }
def RunProgramsCardSaid : Prop := Claim7.holds Tryz.pinned (.plain (OpenSpec.ofChange runProgramsSpec)) runProgramsCard

/-- THE TIED CARD OF 'typedholeslaw27.RunSplits'. -/
def runSplitsCard : Claim7 := { stood := { row := runSplitsRow, standIns := [], harness := (true, "fe11262cc6d4be81d2f078a78fdfb2fc4ded9ab5fab315635d72e94ed0c30255"), looks := true }, kinds := [], alts := [], laidByText := true, laidKinds := [.data, .data, .data, .sentinel, .sentinel], laidTests := true, laidLooks := .later }
def RunSplitsCardSaid : Prop := Claim7.holds Tryz.pinned (.plain (OpenSpec.ofChange runSplitsSpec)) runSplitsCard

/-- THE TIED CARD OF 'typedholeslaw27.RunLoops'. -/
def runLoopsCard : Claim7 := { stood := { row := runLoopsRow, standIns := [], harness := (true, "fe11262cc6d4be81d2f078a78fdfb2fc4ded9ab5fab315635d72e94ed0c30255"), looks := true }, kinds := [], alts := [], laidByText := true, laidKinds := [.data, .data, .data, .sentinel, .sentinel], laidTests := true, laidLooks := .later }
def RunLoopsCardSaid : Prop := Claim7.holds Tryz.pinned (.plain (OpenSpec.ofChange runLoopsSpec)) runLoopsCard

/-- THE TIED CARD OF 'typedholeslaw27.RunWhole'. -/
def runWholeCard : Claim7 := { stood := { row := runWholeRow, standIns := [], harness := (true, "fe11262cc6d4be81d2f078a78fdfb2fc4ded9ab5fab315635d72e94ed0c30255"), looks := true }, kinds := [], alts := [], laidByText := true, laidKinds := [.data, .data, .data, .sentinel, .sentinel], laidTests := true, laidLooks := .later }
def RunWholeCardSaid : Prop := Claim7.holds Tryz.pinned (.plain (OpenSpec.ofChange runWholeSpec)) runWholeCard

/-- THE TIED CARD OF 'typedholeslaw27.RunLists'. -/
def runListsCard : Claim7 := { stood := { row := runListsRow, standIns := [], harness := (true, "fe11262cc6d4be81d2f078a78fdfb2fc4ded9ab5fab315635d72e94ed0c30255"), looks := true }, kinds := [], alts := [], laidByText := true, laidKinds := [.data, .data, .data, .sentinel, .sentinel], laidTests := true, laidLooks := .later }
def RunListsCardSaid : Prop := Claim7.holds Tryz.pinned (.plain (OpenSpec.ofChange runListsSpec)) runListsCard

/-- THE SECOND FORM's CARD OF 'typedholeslaw26.ReduceSteps'. -/
def reduceStepsUptoCard : Claim7 := { stood := { row := reduceStepsUptoRow, standIns := [], harness := (true, "fe11262cc6d4be81d2f078a78fdfb2fc4ded9ab5fab315635d72e94ed0c30255"), looks := true }, kinds := [], alts := [], laidByText := true, laidKinds := [.data, .data, .data, .sentinel, .sentinel], laidTests := true, laidLooks := .later }
def ReduceStepsUptoCardSaid : Prop := Claim7.holds Tryz.pinned (.plain (OpenSpec.upto reduceStepsSpec)) reduceStepsUptoCard

/-- THE SECOND FORM's CARD OF 'typedholeslaw26.ReduceAlpha'. -/
def reduceAlphaUptoCard : Claim7 := { stood := { row := reduceAlphaUptoRow, standIns := [], harness := (true, "fe11262cc6d4be81d2f078a78fdfb2fc4ded9ab5fab315635d72e94ed0c30255"), looks := true }, kinds := [], alts := [], laidByText := true, laidKinds := [.data, .data, .data, .sentinel, .sentinel], laidTests := true, laidLooks := .later }
def ReduceAlphaUptoCardSaid : Prop := Claim7.holds Tryz.pinned (.plain (OpenSpec.upto reduceAlphaSpec)) reduceAlphaUptoCard

/-- THE SECOND FORM's CARD OF 'typedholeslaw27.RunCloses'. -/
def runClosesUptoCard : Claim7 := { stood := { row := runClosesUptoRow, standIns := [], harness := (true, "fe11262cc6d4be81d2f078a78fdfb2fc4ded9ab5fab315635d72e94ed0c30255"), looks := true }, kinds := [], alts := [], laidByText := true, laidKinds := [.data, .data, .data, .sentinel, .sentinel], laidTests := true, laidLooks := .later }
def RunClosesUptoCardSaid : Prop := Claim7.holds Tryz.pinned (.plain (OpenSpec.upto runClosesSpec)) runClosesUptoCard

/-- THE SECOND FORM's CARD OF 'typedholeslaw27.RunPrograms'. -/
def runProgramsUptoCard : Claim7 := { stood := { row := runProgramsUptoRow, standIns := [], harness := (true, "fe11262cc6d4be81d2f078a78fdfb2fc4ded9ab5fab315635d72e94ed0c30255"), looks := true }, kinds := [], alts := [], laidByText := true, laidKinds := [.data, .data, .data, .sentinel, .sentinel], laidTests := true, laidLooks := .later }
def RunProgramsUptoCardSaid : Prop := Claim7.holds Tryz.pinned (.plain (OpenSpec.upto runProgramsSpec)) runProgramsUptoCard

/-- THE SECOND FORM's CARD OF 'typedholeslaw27.RunSplits'. -/
def runSplitsUptoCard : Claim7 := { stood := { row := runSplitsUptoRow, standIns := [], harness := (true, "fe11262cc6d4be81d2f078a78fdfb2fc4ded9ab5fab315635d72e94ed0c30255"), looks := true }, kinds := [], alts := [], laidByText := true, laidKinds := [.data, .data, .data, .sentinel, .sentinel], laidTests := true, laidLooks := .later }
def RunSplitsUptoCardSaid : Prop := Claim7.holds Tryz.pinned (.plain (OpenSpec.upto runSplitsSpec)) runSplitsUptoCard

/-- THE SECOND FORM's CARD OF 'typedholeslaw27.RunLoops'. -/
def runLoopsUptoCard : Claim7 := { stood := { row := runLoopsUptoRow, standIns := [], harness := (true, "fe11262cc6d4be81d2f078a78fdfb2fc4ded9ab5fab315635d72e94ed0c30255"), looks := true }, kinds := [], alts := [], laidByText := true, laidKinds := [.data, .data, .data, .sentinel, .sentinel], laidTests := true, laidLooks := .later }
def RunLoopsUptoCardSaid : Prop := Claim7.holds Tryz.pinned (.plain (OpenSpec.upto runLoopsSpec)) runLoopsUptoCard

/-- THE SECOND FORM's CARD OF 'typedholeslaw27.RunWhole'. -/
def runWholeUptoCard : Claim7 := { stood := { row := runWholeUptoRow, standIns := [], harness := (true, "fe11262cc6d4be81d2f078a78fdfb2fc4ded9ab5fab315635d72e94ed0c30255"), looks := true }, kinds := [], alts := [], laidByText := true, laidKinds := [.data, .data, .data, .sentinel, .sentinel], laidTests := true, laidLooks := .later }
def RunWholeUptoCardSaid : Prop := Claim7.holds Tryz.pinned (.plain (OpenSpec.upto runWholeSpec)) runWholeUptoCard

/-- THE SECOND FORM's CARD OF 'typedholeslaw27.RunLists'. -/
def runListsUptoCard : Claim7 := { stood := { row := runListsUptoRow, standIns := [], harness := (true, "fe11262cc6d4be81d2f078a78fdfb2fc4ded9ab5fab315635d72e94ed0c30255"), looks := true }, kinds := [], alts := [], laidByText := true, laidKinds := [.data, .data, .data, .sentinel, .sentinel], laidTests := true, laidLooks := .later }
def RunListsUptoCardSaid : Prop := Claim7.holds Tryz.pinned (.plain (OpenSpec.upto runListsSpec)) runListsUptoCard
end Rows
end Go.Proofs.YtccmnfpbcmccpaaGreatDoor
