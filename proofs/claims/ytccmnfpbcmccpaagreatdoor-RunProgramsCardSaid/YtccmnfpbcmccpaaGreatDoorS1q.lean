/- The card of RunPrograms from its row: apart, for the kernel's checks take much memory. -/
import Derived.Test.YtccmnfpbcmccpaaGreatDoorCards
import Derived.Test.YtccmnfpbcmccpaaGreatDoorTie
import Derived.ProofKit
import Derived.LaidMore
import Derived.OpenShut
import Derived.Stop.Joined
import Derived.Stop.LaidErr
import Derived.SevenTiedAt
set_option linter.unusedSimpArgs false
set_option linter.unusedVariables false
set_option linter.deprecated false
namespace Go.Proofs.YtccmnfpbcmccpaaGreatDoor
open Go Go.ChangeShapes Go.WideShapes Go.ChangeAt Go.RowKit
theorem Zc5:Rows.runProgramsRow.wfByText (OpenSpec.ofChange Rows.runProgramsSpec)=true:=by kernel_rfl
theorem Y9 : Tryz.pinned.checked.prog.mainIs = some (true, "fe11262cc6d4be81d2f078a78fdfb2fc4ded9ab5fab315635d72e94ed0c30255".toList) := by kernel_rfl
theorem ZdB:true=Tryz.pinned.checked.prog.looks []:=by kernel_rfl
theorem Ys:false=Rows.runProgramsRow.goesBy Tryz.pinned.checked.prog:=by kernel_rfl
theorem c6_named : Tryz.prog.funcNamed "typedholes/typedholeslaw27.RunPrograms" = some 6 := by kernel_rfl
theorem Zeb:([3,22,3].all fun u=>!Tryz.prog.wantsStandIn u)=true:=by kernel_rfl
theorem Zhd (hrow:Rows.RunProgramsSaid):Rows.RunProgramsCardSaid:=
 Claim7.holds_tied_plain_at .later [] [.data, .data, .data, .sentinel, .sentinel] true (true, "fe11262cc6d4be81d2f078a78fdfb2fc4ded9ab5fab315635d72e94ed0c30255") true
  hrow (fun _ h=>by cases h) Zc5 (fun _ h=>by cases h) runPrograms_row_tie rfl ⟨rfl,rfl⟩ Y9 rfl
  (fun f fn hf hfn=>by
    obtain rfl:f=6:=Option.some.inj (c6_named.symm.trans hf) |>.symm;obtain rfl:fn=Tryz.f6:=(Option.some.inj (Tryz.func6.symm.trans hfn)).symm;exact⟨ZdB,fun j t ht=>by
     rw[Tryz.params6]at ht;have hm:t∈[3,22,3]:=(by simpa using Array.mem_of_getElem? ht);exact(show Tryz.prog.wantsStandIn t=false by simpa using List.all_eq_true.1 Zeb t hm)⟩)
  Ys
end Go.Proofs.YtccmnfpbcmccpaaGreatDoor
