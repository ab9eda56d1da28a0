/- Whatever it is given, NamesSubst returns true and changes nothing: no condition beyond the laid variables, which the card ties. (Parts of one proof, put together.) -/
import Derived.Test.YtlcncicmkkelcaaGreatDoorF0b
import Derived.Test.YtlcncicmkkelcaaGreatDoorX0b
import Derived.Test.YtlcncicmkkelcaaGreatDoorS1b
import Derived.Test.YtlcncicmkkelcaaGreatDoorRWb
import Derived.Test.YtlcncicmkkelcaaGreatDoorRKb
set_option linter.unusedSimpArgs false
set_option linter.unusedVariables false
set_option linter.deprecated false
set_option maxRecDepth 100000
namespace Go.Vs.Tryz
open Go Go.Vs
theorem namesSubst_fn (x0:Int)(x1:List Int)(x2:Int):FnOk Go.Proofs.Tryz.prog gl0 9 [intV x0,.sc (.c (.sl (Zbg x1))),intV x2] [] (Zah true) [] :=
 K_ok (A7_ok 19 ZrS) (Zov x0 x1 x2 ds7 rfl good7 (K55 19) (ZnO (by kernel_rfl) (A7_at 19 rfl)))
end Go.Vs.Tryz
namespace Go.Proofs.YtlcncicmkkelcaaGreatDoor
open Go Go.ChangeShapes Go.WideShapes Go.ChangeAt Go.RowKit
theorem ZoZ:∀ t∈Tryz.f9.params.toList,Tryz.prog.readableRec t=true∧t<Tryz.prog.types.size:=by
 rw [Tryz.params9]
 intro t ht
 simp only [List.mem_cons,List.not_mem_nil,or_false] at ht
 rcases ht with rfl|rfl|rfl
 ·exact ⟨by kernel_rfl,of_decide_eq_true (by kernel_rfl)⟩
 ·exact ⟨by kernel_rfl,of_decide_eq_true (by kernel_rfl)⟩
 ·exact ⟨by kernel_rfl,of_decide_eq_true (by kernel_rfl)⟩
theorem Zfy (os:Os)(started:os.Started)(H:Type)(enc:TypeId × Value→H) :
 ReturnsInHanded {} Tryz.checked os 9 .any (fun w args=>(Rows.namesSubstSpec.pre enc Tryz.prog Tryz.f9 [] false w args∧laidMetH Tryz.prog ZnL w)∧sizedMet enc Tryz.prog Tryz.f9 (OpenSpec.ofChange Rows.namesSubstSpec) false w args)
  (Rows.namesSubstSpec.post enc Tryz.prog Tryz.f9 false true false false):=by
 refine returnsInHanded_of_change_and (C:=Tryz.checked) (X:=fun w _=>laidMetH Tryz.prog ZnL w) (fun _ _ _ hh h=>h.of_heap hh) own started (by kernel_rfl) Tryz.func9
  (ChangeSpec.witness_shaped (enc:=enc) (C:=Tryz.checked) (os:=os) (X:=fun w _=>laidMetH Tryz.prog ZnL w) false (World.doorLaid Tryz.prog 400 os) #[.int .i64 0,.slice none 0 0,.int .i64 0] 8 rfl (World.shaped_of_RefB (by kernel_rfl) (by kernel_rfl)) (by kernel_rfl) (by kernel_rfl) (by kernel_rfl) (Zps os _)) ?_
 intro W base args ds gs before hval0 hW _ _ hL _
 have hval:∀ (j:Nat) t v,Tryz.f9.params[j]?=some t→args[j]?=some v→Value.okWide Tryz.prog W .any base t v:=hval0
 have hW':=hW
 obtain ⟨p,q,hA0,hV,rfl,hfz,hnd⟩:=hW
 have hA:DataW.TrodAll enc Tryz.prog W 0 (fun _=>true) true Tryz.f9.params.toList args.toList ds p:=hA0
 rw [Tryz.params9] at hA hval
 obtain ⟨v0,v1,v2,d0,d1,d2,p0,p1,p2,rfl,rfl,rfl,h0,h1,h2⟩:=trodAll_three hA
 obtain ⟨x0,hz0,_⟩:=Go.Vs.int_arg (β:=fun _=>none) (L:=Go.Vs.Lof []) Tryz.underlying3 (hval 0 3 v0 rfl rfl) h0
 obtain ⟨x1,hz1,_⟩:=Go.Vs.ints_arg (β:=fun _=>none) (L:=Go.Vs.Lof []) Tryz.underlying22 Tryz.underlying3 (by kernel_rfl) (hval 1 22 v1 rfl rfl) h1
 obtain ⟨x2,hz2,_⟩:=Go.Vs.int_arg (β:=fun _=>none) (L:=Go.Vs.Lof []) Tryz.underlying3 (hval 2 3 v2 rfl rfl) h2
 refine (Go.Vs.law_calls (Go.Vs.Tryz.namesSubst_fn x0 x1 x2) (gl_ok hL) (args:=#[v0,v1,v2]) ⟨hz0,hz1,hz2,trivial⟩).mono fun e W' ⟨he,hb⟩ => ?_
 exact ⟨_,he,Go.Vs.law_post (t:=4) Zsy (f:=Tryz.f9) ZoZ (by kernel_rfl) Tryz.underlying4 rfl hW' ⟨rfl,rfl,rfl⟩ hb⟩
theorem Zho:Rows.NamesSubstSaid :=
 OpenClaim.holds_of_wide 9 Tryz.f9 rfl rfl rfl rfl rfl rfl rfl ⟨rfl,rfl,rfl,rfl,rfl⟩ rfl rfl rfl rfl rfl Zf5 Tryz.func9 Zf1
  ZgV ZgX
  (fun os started H enc _=>Zfy os started H enc)
theorem namesSubst_holds:Rows.NamesSubstCardSaid :=
 Claim7.holds_tied_plain_at .later [] [.data, .data, .data, .sentinel, .sentinel] true (true, "08d4e829b029528a9e4c15bb7f9c4bcd42a745bc729a46cb9f7fe778b7ebb7dd") true
  Zho (fun _ h=>by cases h) (by kernel_rfl) (fun _ h=>by cases h) namesSubst_row_tie rfl ⟨rfl,rfl⟩ (by kernel_rfl) rfl
  (fun f fn hf hfn=>by
    obtain rfl : f = 9 := Option.some.inj ((show Tryz.prog.funcNamed "typedholes/typedholeslaw11.NamesSubst" = some 9 by kernel_rfl).symm.trans hf) |>.symm
    obtain rfl:fn=Tryz.f9:=(Option.some.inj (Tryz.func9.symm.trans hfn)).symm
    exact ⟨by kernel_rfl,fun j t ht=>by
     rw [Tryz.params9] at ht
     have hm:t∈[3,22,3]:=by simpa using Array.mem_of_getElem? ht
     have hall:([3,22,3].all fun u=>!Tryz.prog.wantsStandIn u)=true:=by kernel_rfl
     exact (show Tryz.prog.wantsStandIn t=false by simpa using List.all_eq_true.1 hall t hm)⟩)
  (by kernel_rfl)
end Go.Proofs.YtlcncicmkkelcaaGreatDoor
