/- Whatever it is given, RunWhole returns true and changes nothing: no condition beyond the laid variables, which the card ties. -/
import Derived.Test.YtccmnfpbcmccpaaGreatDoorF0w
import Derived.Test.YtccmnfpbcmccpaaGreatDoorRWw
import Derived.Test.YtccmnfpbcmccpaaGreatDoorS1w
import Derived.Test.YtccmnfpbcmccpaaGreatDoorREw
set_option linter.all false
set_option maxRecDepth 100000
namespace Go.Vs.Tryz
open Go Go.Vs
theorem runWhole_fn (x0:Int)(x1:List Int)(x2:Int):FnOk Go.Proofs.Tryz.prog gl0 9 [intV x0,.sc (.c (.sl (Bo x1))),intV x2] [] (Ac true) []:=
 K_ok (XY 25 Zfa) (Zge x0 x1 x2 ds7 rfl fit7 con7 (K55 25) (H4 (by kernel_rfl) (Ya 25 rfl)))
end Go.Vs.Tryz
namespace Go.Proofs.YtccmnfpbcmccpaaGreatDoor
open Go Go.ChangeShapes Go.WideShapes Go.ChangeAt Go.RowKit
theorem ZbY:∀t∈Tryz.f9.params.toList,Tryz.prog.readableRec t=true/\t<Tryz.prog.types.size:=by
 rw[Tryz.params9];intro t ht;simp only[List.mem_cons,List.not_mem_nil,or_false]at ht;rcases ht with rfl|rfl|rfl
 .exact⟨by kernel_rfl,of_decide_eq_true (by kernel_rfl)⟩
 .exact⟨by kernel_rfl,of_decide_eq_true (by kernel_rfl)⟩
 .exact⟨by kernel_rfl,of_decide_eq_true (by kernel_rfl)⟩
theorem ZaI (os:Os)(started:os.Started)(H:Type)(enc:TypeId×Value->H):
 ReturnsInHanded {} Tryz.checked os 9 .any (fun w args=>(Rows.runWholeSpec.pre enc Tryz.prog Tryz.f9 [] false w args/\laidMetH Tryz.prog IM w)/\sizedMet enc Tryz.prog Tryz.f9 (OpenSpec.ofChange Rows.runWholeSpec) false w args)
  (Rows.runWholeSpec.post enc Tryz.prog Tryz.f9 false true false false):=by
 refine returnsInHanded_of_change_and (C:=Tryz.checked) (X:=fun w _=>laidMetH Tryz.prog IM w) (fun _ _ _ hh h=>h.of_heap hh) own started (by kernel_rfl) Tryz.func9
  (ChangeSpec.witness_shaped (enc:=enc) (C:=Tryz.checked) (os:=os) (X:=fun w _=>laidMetH Tryz.prog IM w) false (World.doorLaid Tryz.prog 400 os) #[.int .i64 0,.slice none 0 0,.int .i64 0] 8 rfl (World.shaped_of_RefB (by kernel_rfl) (by kernel_rfl)) (by kernel_rfl) (by kernel_rfl) (by kernel_rfl) (Zb9 os _)) ?_
 intro W base args ds gs before hval0 hW _ _ hL _;have hval:∀(j:Nat) t v,Tryz.f9.params[j]?=some t->args[j]?=some v->Value.okWide Tryz.prog W .any base t v:=hval0;have hW':=hW;obtain⟨p,q,hA0,hV,rfl,hfz,hnd⟩:=hW;have hA:DataW.TrodAll enc Tryz.prog W 0 (fun _=>true) true Tryz.f9.params.toList args.toList ds p:=hA0;rw[Tryz.params9]at hA hval
 obtain⟨v0,v1,v2,d0,d1,d2,p0,p1,p2,rfl,rfl,rfl,h0,h1,h2⟩:=trodAll_three hA;obtain⟨x0,hz0,_⟩:=Go.Vs.int_arg (β:=fun _=>none) (L:=Go.Vs.Lof []) Tryz.underlying3 (hval 0 3 v0 rfl rfl) h0;obtain⟨x1,hz1,_⟩:=Go.Vs.ints_arg (β:=fun _=>none) (L:=Go.Vs.Lof []) Tryz.underlying22 Tryz.underlying3 (by kernel_rfl) (hval 1 22 v1 rfl rfl) h1
 obtain⟨x2,hz2,_⟩:=Go.Vs.int_arg (β:=fun _=>none) (L:=Go.Vs.Lof []) Tryz.underlying3 (hval 2 3 v2 rfl rfl) h2;refine(Go.Vs.law_calls (Go.Vs.Tryz.runWhole_fn x0 x1 x2) (XP hL) (args:=#[v0,v1,v2]) ⟨hz0,hz1,hz2,trivial⟩).mono fun e W' ⟨he,hb⟩=>?_;exact⟨_,he,Go.Vs.law_post (t:=4) Zb1 (f:=Tryz.f9) ZbY (by kernel_rfl) Tryz.underlying4 rfl hW' ⟨rfl,rfl,rfl⟩ hb⟩
theorem Zao:Rows.RunWholeSaid:=
 OpenClaim.holds_of_wide 9 Tryz.f9 rfl rfl rfl rfl rfl rfl rfl ⟨rfl,rfl,rfl,rfl,rfl⟩ rfl rfl rfl rfl rfl ZhJ Tryz.func9 Zdh
  ZcZ Xm
  (fun os started H enc _=>ZaI os started H enc)
theorem runWhole_holds:Rows.RunWholeCardSaid:=Xr Zao
end Go.Proofs.YtccmnfpbcmccpaaGreatDoor
