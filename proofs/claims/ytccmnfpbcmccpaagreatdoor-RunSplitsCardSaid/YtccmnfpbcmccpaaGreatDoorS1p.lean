/- The card of RunSplits from its row: apart, for the kernel's checks take much memory. -/
import Derived.Test.YtccmnfpbcmccpaaGreatDoorCards
import Derived.Test.YtccmnfpbcmccpaaGreatDoorTie
import Derived.ProofKit
import Derived.LaidMore
import Derived.OpenShut
import Derived.Stop.Joined
import Derived.Stop.LaidErr
import Derived.SevenTiedAt
set_option linter.unusedSimpArgs false
set_option linter.unusedVariables false
set_option linter.deprecated false
namespace Go.Proofs.YtccmnfpbcmccpaaGreatDoor
open Go Go.ChangeShapes Go.WideShapes Go.ChangeAt Go.RowKit
theorem ZdT:Rows.runSplitsRow.wfByText (OpenSpec.ofChange Rows.runSplitsSpec)=true:=by kernel_rfl
theorem WY : Tryz.pinned.checked.prog.mainIs = some (true, "fe11262cc6d4be81d2f078a78fdfb2fc4ded9ab5fab315635d72e94ed0c30255".toList) := by kernel_rfl
theorem ZeC:true=Tryz.pinned.checked.prog.looks []:=by kernel_rfl
theorem Ze3:false=Rows.runSplitsRow.goesBy Tryz.pinned.checked.prog:=by kernel_rfl
theorem c7_named : Tryz.prog.funcNamed "typedholes/typedholeslaw27.RunSplits" = some 7 := by kernel_rfl
theorem U4:([3,22,3,3].all fun u=>!Tryz.prog.wantsStandIn u)=true:=by kernel_rfl
theorem ZeJ (hrow:Rows.RunSplitsSaid):Rows.RunSplitsCardSaid:=
 Claim7.holds_tied_plain_at .later [] [.data, .data, .data, .sentinel, .sentinel] true (true, "fe11262cc6d4be81d2f078a78fdfb2fc4ded9ab5fab315635d72e94ed0c30255") true
  hrow (fun _ h=>by cases h) ZdT (fun _ h=>by cases h) runSplits_row_tie rfl ⟨rfl,rfl⟩ WY rfl
  (fun f fn hf hfn=>by
    obtain rfl:f=7:=Option.some.inj (c7_named.symm.trans hf) |>.symm;obtain rfl:fn=Tryz.f7:=(Option.some.inj (Tryz.func7.symm.trans hfn)).symm;exact⟨ZeC,fun j t ht=>by
     rw[Tryz.params7]at ht;have hm:t∈[3,22,3,3]:=(by simpa using Array.mem_of_getElem? ht);exact(show Tryz.prog.wantsStandIn t=false by simpa using List.all_eq_true.1 U4 t hm)⟩)
  Ze3
end Go.Proofs.YtccmnfpbcmccpaaGreatDoor
