/- Whatever it is given, RunLists returns true and changes nothing: no condition beyond the laid variables, which the card ties. -/
import Derived.Test.YtccmnfpbcmccpaaGreatDoorF0u
import Derived.Test.YtccmnfpbcmccpaaGreatDoorRWu
import Derived.Test.YtccmnfpbcmccpaaGreatDoorS1u
import Derived.Test.YtccmnfpbcmccpaaGreatDoorR9u
set_option linter.unusedSimpArgs false
set_option linter.unusedVariables false
set_option linter.deprecated false
set_option maxRecDepth 100000
namespace Go.Proofs.YtccmnfpbcmccpaaGreatDoor
open Go Go.ChangeShapes Go.WideShapes Go.ChangeAt Go.RowKit
theorem Zbm:∀t∈Tryz.f10.params.toList,Tryz.prog.readableRec t=true/\t<Tryz.prog.types.size:=by
 rw[Tryz.params10];intro t ht;simp only[List.mem_cons,List.not_mem_nil,or_false]at ht;rcases ht with rfl|rfl
 .exact⟨by kernel_rfl,of_decide_eq_true (by kernel_rfl)⟩
 .exact⟨by kernel_rfl,of_decide_eq_true (by kernel_rfl)⟩
theorem Uu (os:Os)(started:os.Started)(H:Type)(enc:TypeId×Value->H):
 ReturnsInHanded {} Tryz.checked os 10 .any (fun w args=>(Rows.runListsSpec.pre enc Tryz.prog Tryz.f10 [] false w args/\laidMetH Tryz.prog IQ w)/\sizedMet enc Tryz.prog Tryz.f10 (OpenSpec.ofChange Rows.runListsSpec) false w args)
  (Rows.runListsSpec.post enc Tryz.prog Tryz.f10 false true false false):=by
 refine returnsInHanded_of_change_and (C:=Tryz.checked) (X:=fun w _=>laidMetH Tryz.prog IQ w) (fun _ _ _ hh h=>h.of_heap hh) own started (by kernel_rfl) Tryz.func10
  (ChangeSpec.witness_shaped (enc:=enc) (C:=Tryz.checked) (os:=os) (X:=fun w _=>laidMetH Tryz.prog IQ w) false (World.doorLaid Tryz.prog 400 os) #[.slice none 0 0,.slice none 0 0] 8 rfl (World.shaped_of_RefB (by kernel_rfl) (by kernel_rfl)) (by kernel_rfl) (by kernel_rfl) (by kernel_rfl) (Z2 os _)) ?_
 intro W base args ds gs before hval0 hW _ _ hL _;have hval:∀(j:Nat) t v,Tryz.f10.params[j]?=some t->args[j]?=some v->Value.okWide Tryz.prog W .any base t v:=hval0;have hW':=hW;obtain⟨p,q,hA0,hV,rfl,hfz,hnd⟩:=hW;have hA:DataW.TrodAll enc Tryz.prog W 0 (fun _=>true) true Tryz.f10.params.toList args.toList ds p:=hA0;rw[Tryz.params10]at hA hval;obtain⟨v0,v1,d0,d1,p0,p1,rfl,rfl,rfl,h0,h1⟩:=trodAll_two hA
 obtain⟨x0,hz0,_⟩:=Go.Vs.ints_arg (β:=fun _=>none) (L:=Go.Vs.Lof []) Tryz.underlying22 Tryz.underlying3 (by kernel_rfl) (hval 0 22 v0 rfl rfl) h0;obtain⟨x1,hz1,_⟩:=Go.Vs.ints_arg (β:=fun _=>none) (L:=Go.Vs.Lof []) Tryz.underlying22 Tryz.underlying3 (by kernel_rfl) (hval 1 22 v1 rfl rfl) h1
 refine(Go.Vs.law_calls (Go.Vs.Tryz.runLists_fn x0 x1) (VF hL) (args:=#[v0,v1]) ⟨hz0,hz1,trivial⟩).mono fun e W' ⟨he,hb⟩=>?_;exact⟨_,he,Go.Vs.law_post (t:=4) VP (f:=Tryz.f10) Zbm (by kernel_rfl) Tryz.underlying4 rfl hW' ⟨rfl,rfl,rfl⟩ hb⟩
theorem Wz:Rows.RunListsSaid:=
 OpenClaim.holds_of_wide 10 Tryz.f10 rfl rfl rfl rfl rfl rfl rfl ⟨rfl,rfl,rfl,rfl,rfl⟩ rfl rfl rfl rfl rfl YL Tryz.func10 VE
  V1 Z3
  (fun os started H enc _=>Uu os started H enc)
theorem runLists_holds:Rows.RunListsCardSaid:=Zco Wz
end Go.Proofs.YtccmnfpbcmccpaaGreatDoor
