/- The card of RunCloses from its row: apart, for the kernel's checks take much memory. (Parts of one proof, put together.) -/
import Derived.Test.YtccmnfpbcmccpaaGreatDoorCards
import Derived.Test.YtccmnfpbcmccpaaGreatDoorTie
import Derived.ProofKit
import Derived.LaidMore
import Derived.OpenShut
import Derived.Stop.Joined
import Derived.Stop.LaidErr
import Derived.SevenTiedAt
set_option linter.unusedSimpArgs false
set_option linter.unusedVariables false
set_option linter.deprecated false
namespace Go.Proofs.YtccmnfpbcmccpaaGreatDoor
open Go Go.ChangeShapes Go.WideShapes Go.ChangeAt Go.RowKit
theorem c5_wf:Rows.runClosesRow.wfByText (OpenSpec.ofChange Rows.runClosesSpec)=true:=by kernel_rfl
theorem ZqJ : Tryz.pinned.checked.prog.mainIs = some (true, "fe11262cc6d4be81d2f078a78fdfb2fc4ded9ab5fab315635d72e94ed0c30255".toList) := by kernel_rfl
theorem Zpd:true=Tryz.pinned.checked.prog.looks []:=by kernel_rfl
theorem Zp7:false=Rows.runClosesRow.goesBy Tryz.pinned.checked.prog:=by kernel_rfl
theorem c5_named : Tryz.prog.funcNamed "typedholes/typedholeslaw27.RunCloses" = some 5 := by kernel_rfl
theorem c5_all:([3,22,3].all fun u=>!Tryz.prog.wantsStandIn u)=true:=by kernel_rfl
theorem Zf3 (hrow:Rows.RunClosesSaid):Rows.RunClosesCardSaid :=
 Claim7.holds_tied_plain_at .later [] [.data, .data, .data, .sentinel, .sentinel] true (true, "fe11262cc6d4be81d2f078a78fdfb2fc4ded9ab5fab315635d72e94ed0c30255") true
  hrow (fun _ h=>by cases h) c5_wf (fun _ h=>by cases h) runCloses_row_tie rfl ⟨rfl,rfl⟩ ZqJ rfl
  (fun f fn hf hfn=>by
    obtain rfl:f=5:=Option.some.inj (c5_named.symm.trans hf) |>.symm
    obtain rfl:fn=Tryz.f5:=(Option.some.inj (Tryz.func5.symm.trans hfn)).symm
    exact ⟨Zpd,fun j t ht=>by
     rw [Tryz.params5] at ht
     have hm:t∈[3,22,3]:=by simpa using Array.mem_of_getElem? ht
     exact (show Tryz.prog.wantsStandIn t=false by simpa using List.all_eq_true.1 c5_all t hm)⟩)
  Zp7
end Go.Proofs.YtccmnfpbcmccpaaGreatDoor
