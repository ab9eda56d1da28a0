/- What the cards of several laws share: the given answers, and what is known of the declarations. -/
import Derived.Test.YtccmnfpbcmccpaaGreatDoorR3w
import Derived.Test.YtccmnfpbcmccpaaGreatDoorR4w
set_option linter.all false
namespace Go.Vs.Tryz
open Go Go.Vs
def A7 (k:Nat):Ag:=fun f args objs=>match args,objs with
 |[],[]=>bif f==k then some (Ac true,[]) else bif f==81 then some (Aw ds7,[]) else none
 |_,_=>none
theorem XY (k:Nat)(hk:FnOk Go.Proofs.Tryz.prog gl0 k [] [] (Ac true) []):∀f args objs rv objs',skip f=true->A7 k f args objs=some (rv,objs')->FnOk Go.Proofs.Tryz.prog gl0 f args objs rv objs':=by
 intro f args objs rv objs' _ h;unfold A7 at h;split at h
 .cases h15:f == k with
  |true=>
   rw[h15]at h;simp only[cond_true,Option.some.injEq,Prod.mk.injEq]at h;obtain⟨rfl,rfl⟩:=h;obtain rfl:f=k:=(by simpa using h15);exact hk
  |false=>
   rw[h15]at h;simp only[cond_false]at h;cases h55:f==81 with
   |true=>
    rw[h55]at h;simp only[cond_true,Option.some.injEq,Prod.mk.injEq]at h;obtain⟨rfl,rfl⟩:=h;obtain rfl:f=81:=(by simpa using h55);exact ZcD
   |false=>rw[h55]at h;cases h
 .cases h
theorem Ya (k:Nat)(hs:skip k=true):X2 (A7 k) k [] []=some (Ac true,[]):=by
 simp[X2,hs,A7]
theorem ZP:∀d∈ds7,Hm d:=by
 intro d hd;simp only[ds7,List.mem_cons,List.not_mem_nil,or_false]at hd;rcases hd with rfl|rfl|rfl|rfl|rfl|rfl|rfl<;>simp[Hm]
theorem K55 (k:Nat)(h:((81:Nat)==k)=false:=by rfl):(K (A7 k)).call 81 [] []=some (Aw ds7,[]):=by
 refine H4 (by kernel_rfl) ?_;simp[X2,show skip 81=true from rfl,A7,h]
end Go.Vs.Tryz
