/- The card of ReduceSteps from its row: apart, for the kernel's checks take much memory. -/
import Derived.Test.YtccmnfpbcmccpaaGreatDoorCards
import Derived.Test.YtccmnfpbcmccpaaGreatDoorTie
import Derived.LaidMore
import Derived.OpenShut
import Derived.Stop.Joined
import Derived.Stop.LaidErr
import Derived.SevenTiedAt
import Derived.Test.YtccmnfpbcmccpaaGreatDoorM4s
set_option linter.unusedSimpArgs false
set_option linter.unusedVariables false
set_option linter.deprecated false
namespace Go.Proofs.YtccmnfpbcmccpaaGreatDoor
open Go Go.ChangeShapes Go.WideShapes Go.ChangeAt Go.RowKit
theorem c3_wf:Rows.reduceStepsRow.wfByText (OpenSpec.ofChange Rows.reduceStepsSpec)=true:=by kernel_rfl
theorem Zzu : Tryz.pinned.checked.prog.mainIs = some (true, "fe11262cc6d4be81d2f078a78fdfb2fc4ded9ab5fab315635d72e94ed0c30255".toList) := by kernel_rfl
theorem ZwA:true=Tryz.pinned.checked.prog.looks []:=by kernel_rfl
theorem ZBb:false=Rows.reduceStepsRow.goesBy Tryz.pinned.checked.prog:=by kernel_rfl
theorem c3_named : Tryz.prog.funcNamed "typedholes/typedholeslaw26.ReduceSteps" = some 3 := by kernel_rfl
theorem c3_all:([3,22,4].all fun u=>!Tryz.prog.wantsStandIn u)=true:=by kernel_rfl
theorem Zhz (hrow:Rows.ReduceStepsSaid):Rows.ReduceStepsCardSaid:=
 Claim7.holds_tied_plain_at .later [] [.data, .data, .data, .sentinel, .sentinel] true (true, "fe11262cc6d4be81d2f078a78fdfb2fc4ded9ab5fab315635d72e94ed0c30255") true
  hrow (fun _ h=>by cases h) c3_wf (fun _ h=>by cases h) reduceSteps_row_tie rfl ⟨rfl,rfl⟩ Zzu rfl
  (fun f fn hf hfn=>by
    obtain rfl:f=3:=Option.some.inj (c3_named.symm.trans hf) |>.symm;obtain rfl:fn=Tryz.f3:=(Option.some.inj (Tryz.func3.symm.trans hfn)).symm;exact⟨ZwA,fun j t ht=>by
     rw[Tryz.params3]at ht;have hm:t∈[3,22,4]:=(by simpa using Array.mem_of_getElem? ht);exact(show Tryz.prog.wantsStandIn t=false by simpa using List.all_eq_true.1 c3_all t hm)⟩)
  ZBb
end Go.Proofs.YtccmnfpbcmccpaaGreatDoor
namespace Go.Vs
open Go Go.ChangeShapes Go.RowKit
theorem bool_arg {H:Type}{enc:TypeId×Value->H}{P:Program}{W:World}{β:Nat->Option Nat}{L:Nat->Option Obj}{base:Nat}{b0:Nat}{r:Reach}{spare:Nat->Bool}{held:Bool}{t:TypeId}{v:Value}{d:DataW H}{ps:List MemPlace}(ht:P.underlying t=some .bool)
 (hval:Value.okWide P W r b0 t v) (h:DataW.Trod enc P W base spare held t v d ps):
 ∃b:Bool,RV1 W (wAll W) β L (.sc (.c (.bool b))) v:=by
 obtain⟨b,rfl,_,_⟩:=open_bool ht hval h;exact⟨b,by simp[RV1,RW,RD]⟩
end Go.Vs
