/- Whatever it is given, RunSplits returns true and changes nothing: no condition beyond the laid variables, which the card ties. -/
import Derived.Test.YtccmnfpbcmccpaaGreatDoorF0p
import Derived.Test.YtccmnfpbcmccpaaGreatDoorRWp
import Derived.Test.YtccmnfpbcmccpaaGreatDoorS1p
import Derived.Test.YtccmnfpbcmccpaaGreatDoorREp
set_option linter.unusedSimpArgs false
set_option linter.unusedVariables false
set_option linter.deprecated false
set_option maxRecDepth 100000
namespace Go.Vs.Tryz
open Go Go.Vs
theorem runSplits_fn (x0:Int)(x1:List Int)(x2:Int)(x3:Int):FnOk Go.Proofs.Tryz.prog gl0 7 [intV x0,.sc (.c (.sl (Bn x1))),intV x2,intV x3] [] (Ac true) []:=
 K_ok (ZfM 25 ZQ) (XR x0 x1 x2 x3 ds7 rfl fit7 con7 (K55 25) (HO (by kernel_rfl) (Zep 25 rfl)))
end Go.Vs.Tryz
namespace Go.Proofs.YtccmnfpbcmccpaaGreatDoor
open Go Go.ChangeShapes Go.WideShapes Go.ChangeAt Go.RowKit
theorem ZeT:∀t∈Tryz.f7.params.toList,Tryz.prog.readableRec t=true/\t<Tryz.prog.types.size:=by
 rw[Tryz.params7];intro t ht;simp only[List.mem_cons,List.not_mem_nil,or_false]at ht;rcases ht with rfl|rfl|rfl|rfl
 .exact⟨by kernel_rfl,of_decide_eq_true (by kernel_rfl)⟩
 .exact⟨by kernel_rfl,of_decide_eq_true (by kernel_rfl)⟩
 .exact⟨by kernel_rfl,of_decide_eq_true (by kernel_rfl)⟩
 .exact⟨by kernel_rfl,of_decide_eq_true (by kernel_rfl)⟩
theorem VA (os:Os)(started:os.Started)(H:Type)(enc:TypeId×Value->H):
 ReturnsInHanded {} Tryz.checked os 7 .any (fun w args=>(Rows.runSplitsSpec.pre enc Tryz.prog Tryz.f7 [] false w args/\laidMetH Tryz.prog HQ w)/\sizedMet enc Tryz.prog Tryz.f7 (OpenSpec.ofChange Rows.runSplitsSpec) false w args)
  (Rows.runSplitsSpec.post enc Tryz.prog Tryz.f7 false true false false):=by
 refine returnsInHanded_of_change_and (C:=Tryz.checked) (X:=fun w _=>laidMetH Tryz.prog HQ w) (fun _ _ _ hh h=>h.of_heap hh) own started (by kernel_rfl) Tryz.func7
  (ChangeSpec.witness_shaped (enc:=enc) (C:=Tryz.checked) (os:=os) (X:=fun w _=>laidMetH Tryz.prog HQ w) false (World.doorLaid Tryz.prog 400 os) #[.int .i64 0,.slice none 0 0,.int .i64 0,.int .i64 0] 8 rfl (World.shaped_of_RefB (by kernel_rfl) (by kernel_rfl)) (by kernel_rfl) (by kernel_rfl) (by kernel_rfl) (Zal os _)) ?_
 intro W base args ds gs before hval0 hW _ _ hL _;have hval:∀(j:Nat) t v,Tryz.f7.params[j]?=some t->args[j]?=some v->Value.okWide Tryz.prog W .any base t v:=hval0;have hW':=hW;obtain⟨p,q,hA0,hV,rfl,hfz,hnd⟩:=hW;have hA:DataW.TrodAll enc Tryz.prog W 0 (fun _=>true) true Tryz.f7.params.toList args.toList ds p:=hA0;rw[Tryz.params7]at hA hval
 obtain⟨v0,v1,v2,v3,d0,d1,d2,d3,p0,p1,p2,p3,rfl,rfl,rfl,h0,h1,h2,h3⟩:=trodAll_four hA;obtain⟨x0,hz0,_⟩:=Go.Vs.int_arg (β:=fun _=>none) (L:=Go.Vs.Lof []) Tryz.underlying3 (hval 0 3 v0 rfl rfl) h0;obtain⟨x1,hz1,_⟩:=Go.Vs.ints_arg (β:=fun _=>none) (L:=Go.Vs.Lof []) Tryz.underlying22 Tryz.underlying3 (by kernel_rfl) (hval 1 22 v1 rfl rfl) h1
 obtain⟨x2,hz2,_⟩:=Go.Vs.int_arg (β:=fun _=>none) (L:=Go.Vs.Lof []) Tryz.underlying3 (hval 2 3 v2 rfl rfl) h2;obtain⟨x3,hz3,_⟩:=Go.Vs.int_arg (β:=fun _=>none) (L:=Go.Vs.Lof []) Tryz.underlying3 (hval 3 3 v3 rfl rfl) h3;refine(Go.Vs.law_calls (Go.Vs.Tryz.runSplits_fn x0 x1 x2 x3) (ZaR hL) (args:=#[v0,v1,v2,v3]) ⟨hz0,hz1,hz2,hz3,trivial⟩).mono fun e W' ⟨he,hb⟩=>?_
 exact⟨_,he,Go.Vs.law_post (t:=4) Xx (f:=Tryz.f7) ZeT (by kernel_rfl) Tryz.underlying4 rfl hW' ⟨rfl,rfl,rfl⟩ hb⟩
theorem XA:Rows.RunSplitsSaid:=
 OpenClaim.holds_of_wide 7 Tryz.f7 rfl rfl rfl rfl rfl rfl rfl ⟨rfl,rfl,rfl,rfl,rfl⟩ rfl rfl rfl rfl rfl ZeB Tryz.func7 Zai
  Zej YX
  (fun os started H enc _=>VA os started H enc)
theorem runSplits_holds:Rows.RunSplitsCardSaid:=ZeJ XA
end Go.Proofs.YtccmnfpbcmccpaaGreatDoor
