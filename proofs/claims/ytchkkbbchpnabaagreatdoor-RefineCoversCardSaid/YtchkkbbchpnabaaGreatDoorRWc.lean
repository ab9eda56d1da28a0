/- The facts about the row of RefineCovers that need no walk, each by the kernel: apart, for they take much memory. -/
import Derived.Test.YtchkkbbchpnabaaGreatDoorCards
import Derived.ProofKit
import Derived.LaidMore
import Derived.OpenShut
import Derived.Stop.Joined
import Derived.Stop.LaidErr
set_option linter.unusedSimpArgs false
set_option linter.unusedVariables false
set_option linter.deprecated false

/- The facts about the row of RefineCovers that need no walk, each by the kernel: apart, for they take much memory. -/
namespace Go.Proofs.YtchkkbbchpnabaaGreatDoor
open Go Go.ChangeShapes Go.WideShapes Go.ChangeAt Go.RowKit
theorem refineCovers_named : Tryz.pinned.checked.prog.funcNamed Rows.refineCoversRow.func = some 3 := by kernel_rfl
noncomputable abbrev jP : Program := Tryz.pinned.checked.prog
noncomputable abbrev jc : OpenClaim := Rows.refineCoversRow
noncomputable abbrev js : ChangeSpec := Rows.refineCoversSpec
noncomputable abbrev jn : Func := Tryz.f3
theorem jk1 : jc.wf (OpenSpec.ofChange js) = true := by kernel_rfl
theorem jk2 : laidOutB jP = true := by kernel_rfl
theorem jk3 : mapsRowed jP = true := by kernel_rfl
theorem jk4 : jn.params.all (jP.readableRec ·) = true := by kernel_rfl
theorem jk5 : namedTie jP jc.named js.vars = true := by kernel_rfl
theorem jk6 : (jc.stops == []) = true := by kernel_rfl
theorem jk7 : (jP.stops == []) = true := by kernel_rfl
theorem jk8 : (jc.knobs == []) = true := by kernel_rfl
theorem jk9 : (jP.stopKnobs == []) = true := by kernel_rfl
theorem jk10 : (jc.inPlace == jP.inPlace 3) = true := by kernel_rfl
theorem jk11 : (jc.unfollowed == jP.unfollowed 3) = true := by kernel_rfl
theorem jk12 : (jc.recurses == jP.recurses 3) = true := by kernel_rfl
theorem jk13 : (jc.named == jP.varsNamed 3) = true := by kernel_rfl
theorem jk14 : (jc.maps == (jn.params.toList ++ js.plain.varTypes jP).any (jP.mapsRec ·)) = true := by kernel_rfl
theorem jk15 : (jc.ifaces == (jn.params.toList ++ js.plain.varTypes jP).any (jP.ifacesRec ·)) = true := by kernel_rfl
theorem jk16 : (jc.mapsOut == jP.mapsAmong jn.resultTypes.toList) = true := by kernel_rfl
theorem jk17 : (jc.loops == (jn.params.toList ++ js.plain.varTypes jP).any (jP.loopsFrom ·)) = true := by kernel_rfl
theorem jk18 : (jc.wideKeys == (jn.params.toList ++ js.plain.varTypes jP ++ jn.resultTypes.toList).any (jP.wideKeysFrom ·)) = true := by kernel_rfl
theorem jk19 : js.vars.all (jP.varReadable ·) = true := by kernel_rfl
theorem jk20 : jn.resultTypes.all (fun t => jP.readableRec t && decide (t < jP.types.size)) = true := by kernel_rfl
theorem jk21 : (jc.ifacesOut == jn.resultTypes.toList.any (jP.ifacesRec ·)) = true := by kernel_rfl
theorem jk22 : (jc.loopsOut == jn.resultTypes.toList.any (jP.loopsFrom ·)) = true := by kernel_rfl
theorem jk23 : (jc.plainKeys == jP.plainKeys) = true := by kernel_rfl
theorem jk24 : jc.shortTexts.isNone = true := by kernel_rfl
theorem jk25 : jP.stopsHeard = true := by kernel_rfl
theorem jk26 : jP.mayEnter = true := by kernel_rfl
theorem jk27 : (jc.lifted == jP.liftsFinal) = true := by kernel_rfl
theorem jk28 : (jP.make == some jc.make) = true := by kernel_rfl
theorem jk29 : (jc.kinds == (if jc.domain.isEmpty then [] else jn.params.toList.map fun t => match jP.underlying t with | some (.int k) => some k | _ => none)) = true := by kernel_rfl
theorem jk30 : (jc.pinned == jc.pinnedBy) = true := by kernel_rfl
theorem jk31 : (jc.veiled == (jn.params.toList ++ js.plain.varTypes jP ++ jn.resultTypes.toList).any (jP.veiledRec ·)) = true := by kernel_rfl
theorem jk32 : jc.veiledFits jP jn.params.toList (jn.params.toList ++ js.plain.varTypes jP ++ jn.resultTypes.toList) = true := by kernel_rfl
set_option maxRecDepth 100000 in
theorem refineCovers_facts : joinedFacts Tryz.pinned.checked.prog 3 Tryz.f3 Rows.refineCoversSpec Rows.refineCoversRow = true := by
  unfold joinedFacts
  repeat rw [Bool.and_eq_true]
  exact ⟨⟨⟨⟨⟨⟨⟨⟨⟨⟨⟨⟨⟨⟨⟨⟨⟨⟨⟨⟨⟨⟨⟨⟨⟨⟨⟨⟨⟨⟨⟨(by first | exact jk1 | kernel_rfl), (by first | exact jk2 | kernel_rfl)⟩, (by first | exact jk3 | kernel_rfl)⟩, (by first | exact jk4 | kernel_rfl)⟩, (by first | exact jk5 | kernel_rfl)⟩, (by first | exact jk6 | kernel_rfl)⟩, (by first | exact jk7 | kernel_rfl)⟩, (by first | exact jk8 | kernel_rfl)⟩, (by first | exact jk9 | kernel_rfl)⟩, (by first | exact jk10 | kernel_rfl)⟩, (by first | exact jk11 | kernel_rfl)⟩, (by first | exact jk12 | kernel_rfl)⟩, (by first | exact jk13 | kernel_rfl)⟩, (by first | exact jk14 | kernel_rfl)⟩, (by first | exact jk15 | kernel_rfl)⟩, (by first | exact jk16 | kernel_rfl)⟩, (by first | exact jk17 | kernel_rfl)⟩, (by first | exact jk18 | kernel_rfl)⟩, (by first | exact jk19 | kernel_rfl)⟩, (by first | exact jk20 | kernel_rfl)⟩, (by first | exact jk21 | kernel_rfl)⟩, (by first | exact jk22 | kernel_rfl)⟩, (by first | exact jk23 | kernel_rfl)⟩, (by first | exact jk24 | kernel_rfl)⟩, (by first | exact jk25 | kernel_rfl)⟩, (by first | exact jk26 | kernel_rfl)⟩, (by first | exact jk27 | kernel_rfl)⟩, (by first | exact jk28 | kernel_rfl)⟩, (by first | exact jk29 | kernel_rfl)⟩, (by kernel_rfl)⟩, (by first | exact jk31 | kernel_rfl)⟩, (by first | exact jk32 | kernel_rfl)⟩
theorem refineCovers_inst : Func.isInstance Tryz.pinned.checked.prog Tryz.f3 Rows.refineCoversRow.origin Rows.refineCoversRow.targs := of_decide_eq_true (by kernel_rfl)
theorem refineCovers_wrap : Func.isWrapper Tryz.pinned.checked.prog Tryz.f3 Rows.refineCoversRow.wrapper Rows.refineCoversRow.mainSum := by unfold Func.isWrapper; first | (rw [if_pos (by decide +kernel)]; kernel_rfl) | (rw [if_neg (by decide +kernel)]; exact ⟨rfl, rfl⟩)
end Go.Proofs.YtchkkbbchpnabaaGreatDoor
