/- Whatever it is given, NamesSubstAlpha returns true and changes nothing: no condition beyond the laid variables, which the card ties. (Parts of one proof, put together.) -/
import Derived.Test.YtlcncicmkkelcaaGreatDoorF0a
import Derived.Test.YtlcncicmkkelcaaGreatDoorX0a
import Derived.Test.YtlcncicmkkelcaaGreatDoorS1a
import Derived.Test.YtlcncicmkkelcaaGreatDoorRWa
import Derived.Test.YtlcncicmkkelcaaGreatDoorRKa
set_option linter.unusedSimpArgs false
set_option linter.unusedVariables false
set_option linter.deprecated false
set_option maxRecDepth 100000
namespace Go.Vs.Tryz
open Go Go.Vs
theorem namesSubstAlpha_fn (x0:Int)(x1:List Int)(x2:Int):FnOk Go.Proofs.Tryz.prog gl0 8 [intV x0,.sc (.c (.sl (Zbd x1))),intV x2] [] (Zah true) [] :=
 K_ok (A7_ok 19 Ztt) (Zhs x0 x1 x2 ds7 rfl good7 (K55 19) (Zm5 (by kernel_rfl) (A7_at 19 rfl)))
end Go.Vs.Tryz
namespace Go.Proofs.YtlcncicmkkelcaaGreatDoor
open Go Go.ChangeShapes Go.WideShapes Go.ChangeAt Go.RowKit
theorem Zpr:∀ t∈Tryz.f8.params.toList,Tryz.prog.readableRec t=true∧t<Tryz.prog.types.size:=by
 rw [Tryz.params8]
 intro t ht
 simp only [List.mem_cons,List.not_mem_nil,or_false] at ht
 rcases ht with rfl|rfl|rfl
 ·exact ⟨by kernel_rfl,of_decide_eq_true (by kernel_rfl)⟩
 ·exact ⟨by kernel_rfl,of_decide_eq_true (by kernel_rfl)⟩
 ·exact ⟨by kernel_rfl,of_decide_eq_true (by kernel_rfl)⟩
theorem ZdM (os:Os)(started:os.Started)(H:Type)(enc:TypeId × Value→H) :
 ReturnsInHanded {} Tryz.checked os 8 .any (fun w args=>(Rows.namesSubstAlphaSpec.pre enc Tryz.prog Tryz.f8 [] false w args∧laidMetH Tryz.prog Zpa w)∧sizedMet enc Tryz.prog Tryz.f8 (OpenSpec.ofChange Rows.namesSubstAlphaSpec) false w args)
  (Rows.namesSubstAlphaSpec.post enc Tryz.prog Tryz.f8 false true false false):=by
 refine returnsInHanded_of_change_and (C:=Tryz.checked) (X:=fun w _=>laidMetH Tryz.prog Zpa w) (fun _ _ _ hh h=>h.of_heap hh) own started (by kernel_rfl) Tryz.func8
  (ChangeSpec.witness_shaped (enc:=enc) (C:=Tryz.checked) (os:=os) (X:=fun w _=>laidMetH Tryz.prog Zpa w) false (World.doorLaid Tryz.prog 400 os) #[.int .i64 0,.slice none 0 0,.int .i64 0] 8 rfl (World.shaped_of_RefB (by kernel_rfl) (by kernel_rfl)) (by kernel_rfl) (by kernel_rfl) (by kernel_rfl) (Zpw os _)) ?_
 intro W base args ds gs before hval0 hW _ _ hL _
 have hval:∀ (j:Nat) t v,Tryz.f8.params[j]?=some t→args[j]?=some v→Value.okWide Tryz.prog W .any base t v:=hval0
 have hW':=hW
 obtain ⟨p,q,hA0,hV,rfl,hfz,hnd⟩:=hW
 have hA:DataW.TrodAll enc Tryz.prog W 0 (fun _=>true) true Tryz.f8.params.toList args.toList ds p:=hA0
 rw [Tryz.params8] at hA hval
 obtain ⟨v0,v1,v2,d0,d1,d2,p0,p1,p2,rfl,rfl,rfl,h0,h1,h2⟩:=trodAll_three hA
 obtain ⟨x0,hz0,_⟩:=Go.Vs.int_arg (β:=fun _=>none) (L:=Go.Vs.Lof []) Tryz.underlying3 (hval 0 3 v0 rfl rfl) h0
 obtain ⟨x1,hz1,_⟩:=Go.Vs.ints_arg (β:=fun _=>none) (L:=Go.Vs.Lof []) Tryz.underlying22 Tryz.underlying3 (by kernel_rfl) (hval 1 22 v1 rfl rfl) h1
 obtain ⟨x2,hz2,_⟩:=Go.Vs.int_arg (β:=fun _=>none) (L:=Go.Vs.Lof []) Tryz.underlying3 (hval 2 3 v2 rfl rfl) h2
 refine (Go.Vs.law_calls (Go.Vs.Tryz.namesSubstAlpha_fn x0 x1 x2) (gl_ok hL) (args:=#[v0,v1,v2]) ⟨hz0,hz1,hz2,trivial⟩).mono fun e W' ⟨he,hb⟩ => ?_
 exact ⟨_,he,Go.Vs.law_post (t:=4) Ztq (f:=Tryz.f8) Zpr (by kernel_rfl) Tryz.underlying4 rfl hW' ⟨rfl,rfl,rfl⟩ hb⟩
theorem ZeR:Rows.NamesSubstAlphaSaid :=
 OpenClaim.holds_of_wide 8 Tryz.f8 rfl rfl rfl rfl rfl rfl rfl ⟨rfl,rfl,rfl,rfl,rfl⟩ rfl rfl rfl rfl rfl Zd2 Tryz.func8 Zec
  Zex Zey
  (fun os started H enc _=>ZdM os started H enc)
theorem namesSubstAlpha_holds:Rows.NamesSubstAlphaCardSaid :=
 Claim7.holds_tied_plain_at .later [] [.data, .data, .data, .sentinel, .sentinel] true (true, "08d4e829b029528a9e4c15bb7f9c4bcd42a745bc729a46cb9f7fe778b7ebb7dd") true
  ZeR (fun _ h=>by cases h) (by kernel_rfl) (fun _ h=>by cases h) namesSubstAlpha_row_tie rfl ⟨rfl,rfl⟩ (by kernel_rfl) rfl
  (fun f fn hf hfn=>by
    obtain rfl : f = 8 := Option.some.inj ((show Tryz.prog.funcNamed "typedholes/typedholeslaw11.NamesSubstAlpha" = some 8 by kernel_rfl).symm.trans hf) |>.symm
    obtain rfl:fn=Tryz.f8:=(Option.some.inj (Tryz.func8.symm.trans hfn)).symm
    exact ⟨by kernel_rfl,fun j t ht=>by
     rw [Tryz.params8] at ht
     have hm:t∈[3,22,3]:=by simpa using Array.mem_of_getElem? ht
     have hall:([3,22,3].all fun u=>!Tryz.prog.wantsStandIn u)=true:=by kernel_rfl
     exact (show Tryz.prog.wantsStandIn t=false by simpa using List.all_eq_true.1 hall t hm)⟩)
  (by kernel_rfl)
end Go.Proofs.YtlcncicmkkelcaaGreatDoor
