/- The card of RunWhole from its row: apart, for the kernel's checks take much memory. -/
import Derived.Test.YtccmnfpbcmccpaaGreatDoorCards
import Derived.Test.YtccmnfpbcmccpaaGreatDoorTie
import Derived.ProofKit
import Derived.LaidMore
import Derived.OpenShut
import Derived.Stop.Joined
import Derived.Stop.LaidErr
import Derived.SevenTiedAt
set_option linter.all false
namespace Go.Proofs.YtccmnfpbcmccpaaGreatDoor
open Go Go.ChangeShapes Go.WideShapes Go.ChangeAt Go.RowKit
theorem Zeu:Rows.runWholeRow.wfByText (OpenSpec.ofChange Rows.runWholeSpec)=true:=by kernel_rfl
theorem Zby : Tryz.pinned.checked.prog.mainIs = some (true, "fe11262cc6d4be81d2f078a78fdfb2fc4ded9ab5fab315635d72e94ed0c30255".toList) := by kernel_rfl
theorem Zeb:true=Tryz.pinned.checked.prog.looks []:=by kernel_rfl
theorem X5:false=Rows.runWholeRow.goesBy Tryz.pinned.checked.prog:=by kernel_rfl
theorem c9_named : Tryz.prog.funcNamed "typedholes/typedholeslaw27.RunWhole" = some 9 := by kernel_rfl
theorem Zgv:([3,22,3].all fun u=>!Tryz.prog.wantsStandIn u)=true:=by kernel_rfl
theorem Xr (hrow:Rows.RunWholeSaid):Rows.RunWholeCardSaid:=
 Claim7.holds_tied_plain_at .later [] [.data, .data, .data, .sentinel, .sentinel] true (true, "fe11262cc6d4be81d2f078a78fdfb2fc4ded9ab5fab315635d72e94ed0c30255") true
  hrow (fun _ h=>by cases h) Zeu (fun _ h=>by cases h) runWhole_row_tie rfl ⟨rfl,rfl⟩ Zby rfl
  (fun f fn hf hfn=>by
    obtain rfl:f=9:=Option.some.inj (c9_named.symm.trans hf) |>.symm;obtain rfl:fn=Tryz.f9:=(Option.some.inj (Tryz.func9.symm.trans hfn)).symm;exact⟨Zeb,fun j t ht=>by
     rw[Tryz.params9]at ht;have hm:t∈[3,22,3]:=(by simpa using Array.mem_of_getElem? ht);exact(show Tryz.prog.wantsStandIn t=false by simpa using List.all_eq_true.1 Zgv t hm)⟩)
  X5
end Go.Proofs.YtccmnfpbcmccpaaGreatDoor
