/- The card of RunLists from its row: apart, for the kernel's checks take much memory. -/
import Derived.Test.YtccmnfpbcmccpaaGreatDoorCards
import Derived.Test.YtccmnfpbcmccpaaGreatDoorTie
import Derived.ProofKit
import Derived.LaidMore
import Derived.OpenShut
import Derived.Stop.Joined
import Derived.Stop.LaidErr
import Derived.SevenTiedAt
set_option linter.unusedSimpArgs false
set_option linter.unusedVariables false
set_option linter.deprecated false
namespace Go.Proofs.YtccmnfpbcmccpaaGreatDoor
open Go Go.ChangeShapes Go.WideShapes Go.ChangeAt Go.RowKit
theorem Zb0:Rows.runListsRow.wfByText (OpenSpec.ofChange Rows.runListsSpec)=true:=by kernel_rfl
theorem VH : Tryz.pinned.checked.prog.mainIs = some (true, "fe11262cc6d4be81d2f078a78fdfb2fc4ded9ab5fab315635d72e94ed0c30255".toList) := by kernel_rfl
theorem XT:true=Tryz.pinned.checked.prog.looks []:=by kernel_rfl
theorem Zby:false=Rows.runListsRow.goesBy Tryz.pinned.checked.prog:=by kernel_rfl
theorem c10_named : Tryz.prog.funcNamed "typedholes/typedholeslaw27.RunLists" = some 10 := by kernel_rfl
theorem ZG:([22,22].all fun u=>!Tryz.prog.wantsStandIn u)=true:=by kernel_rfl
theorem Zco (hrow:Rows.RunListsSaid):Rows.RunListsCardSaid:=
 Claim7.holds_tied_plain_at .later [] [.data, .data, .data, .sentinel, .sentinel] true (true, "fe11262cc6d4be81d2f078a78fdfb2fc4ded9ab5fab315635d72e94ed0c30255") true
  hrow (fun _ h=>by cases h) Zb0 (fun _ h=>by cases h) runLists_row_tie rfl ⟨rfl,rfl⟩ VH rfl
  (fun f fn hf hfn=>by
    obtain rfl:f=10:=Option.some.inj (c10_named.symm.trans hf) |>.symm;obtain rfl:fn=Tryz.f10:=(Option.some.inj (Tryz.func10.symm.trans hfn)).symm;exact⟨XT,fun j t ht=>by
     rw[Tryz.params10]at ht;have hm:t∈[22,22]:=(by simpa using Array.mem_of_getElem? ht);exact(show Tryz.prog.wantsStandIn t=false by simpa using List.all_eq_true.1 ZG t hm)⟩)
  Zby
end Go.Proofs.YtccmnfpbcmccpaaGreatDoor
