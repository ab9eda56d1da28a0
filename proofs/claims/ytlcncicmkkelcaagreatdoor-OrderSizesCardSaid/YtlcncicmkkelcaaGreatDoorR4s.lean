/- The reference's canonical forms, walked. (Parts of one proof, put together.) -/
import Derived.Test.YtlcncicmkkelcaaGreatDoorR3s
import Derived.Test.YtlcncicmkkelcaaGreatDoorR1s
import Derived.Test.YtlcncicmkkelcaaGreatDoorR2s
set_option linter.unusedSimpArgs false
set_option linter.unusedVariables false
set_option linter.deprecated false
set_option maxHeartbeats 4000000
namespace Go.Vs.Tryz
open Go Go.Vs
variable {A:Oracle}
theorem canonical40 (e:Exp)(taken:List Str)(hw:e.wf)(ht:taken.length+e.weight≤500000) :
 (K A).call 40 [expV e,strsV taken] []=some (expV (canonT e taken),[]):=by
 refine fn_of (vf:=v40) (by kernel_rfl) rfl (by simp) ?_
 have h1:=strip97 (A:=A) e (by omega)
 have h2:=free20 (A:=A) e hw (by omega)
 have hl:=freeR_len e [] []
 rw [free_same e hw] at h2 hl
 have h3:=canonical96 (A:=A) (taken++freeP e) (by simp at hl ⊢;omega) (stripM e) [] [] (strip_wf e hw) rfl (by rw [strip_weight];simp;omega)
 simp [strsV] at h3
 simp at hl
 unfold v40 canonT
 simp (maxSteps:=4000000) (disch:=first|omega|(simp;done)|(simp;omega)) [h1,h2,h3,-getElem?_pos]
def renTo (k:Nat):List Str:=[[118,49],118::numS (k+2)]
variable {A:Oracle}
def charOk (c:UInt8):Bool:=(97≤c.toNat && c.toNat≤122) || (65≤c.toNat && c.toNat≤90) || (48≤c.toNat && c.toNat≤57) || c.toNat == 95
def keyWords:List Str:=[[100,97,116,97],[108,101,116],[114,101,99],[105,110],[99,97,115,101],[111,102],[101,110,100]]
def nameOk (lo hi:Nat)(s:Str):Prop:=s.length≤12∧(∃ c,s[0]?=some c∧lo≤c.toNat∧c.toNat≤hi)∧(∀ c∈s,charOk c=true)∧s∉keyWords
variable {A:Oracle}
def IffB (P:Prop)(r:V × List Obj):Prop:=∃ b:Bool,(b=true↔P)∧r=(boolV b,[])
theorem IffB.yes {P:Prop}(h:P):IffB P (boolV true,[]):=⟨true,by simp [h],rfl⟩
theorem IffB.no {P:Prop}(h:¬P):IffB P (boolV false,[]):=⟨false,by simp [h],rfl⟩
theorem Ty.ext {a b:Ty}(h1:a.kind=b.kind)(h2:a.name=b.name)(h3:a.id=b.id)(h4:a.home=b.home)(h5:a.args=b.args):a=b:=by
 cases a;cases b;simp only [Ty.kind,Ty.name,Ty.id,Ty.home,Ty.args] at *;subst h1 h2 h3 h4 h5;rfl
theorem list_eq {α:Type}{l m:List α}(hn:l.length=m.length)(h:∀ (i:Nat)(x y:α),l[i]?=some x→m[i]?=some y→x=y):l=m:=by
 refine List.ext_getElem? fun i => ?_
 by_cases hi:i<l.length
 ·rw [List.getElem?_eq_getElem hi,List.getElem?_eq_getElem (hn▸hi)]
  exact congrArg some (h i _ _ (List.getElem?_eq_getElem hi) (List.getElem?_eq_getElem (hn▸hi)))
 ·rw [List.getElem?_eq_none (by omega),List.getElem?_eq_none (by omega)]
theorem teq134 (l m:List Ty)(hl:l.length≤1073741824)(ih:∀ x∈l,∀ b,∃ r,IffB (x=b) r∧(K A).call 84 [tyV x,tyV b] []=some r):∃ r,IffB (l=m) r∧(K A).call 147 [tysV l,tysV m] []=some r:=by
 refine fn_ofE _ (vf:=v147) (by kernel_rfl) rfl (by simp) ?_
 unfold v147
 by_cases hn:l.length=m.length
 ·simp (disch:=first|omega|(simp;done)|(simp;omega)) [hn]
  refine wp_loopI (fun i s=>(∀ (j:Nat) x y,j<i→l[j]?=some x→m[j]?=some y→x=y)∧s=⟨[(0,tysV l),(1,tysV m),(5,intV i)],[]⟩) l.length ⟨by omega,by simp⟩ ?_ ?_
  ·rintro i s hi ⟨hs,rfl⟩
   obtain ⟨x,hx⟩:=get_of_lt hi
   obtain ⟨y,hy⟩:=get_of_lt (l:=m) (i:=i) (by omega)
   obtain ⟨_,⟨b,hb,rfl⟩,hc⟩:=ih x (List.mem_of_getElem? hx) y
   unfold l147_0
   cases b with
   | true =>
    have hxy:x=y:=hb.1 rfl
    simp (disch:=first|omega|(simp;done)|(simp;omega)) [hi,hx,hy,hc,-getElem?_pos]
    intro j x' y' hj hx' hy'
    by_cases hji:j=i
    ·subst hji
     rw [hx] at hx'
     rw [hy] at hy'
     cases hx'
     cases hy'
     exact hxy
    ·exact hs j x' y' (by omega) hx' hy'
   | false =>
    have hne:l≠m:=by
     rintro rfl
     rw [hx] at hy
     cases hy
     exact absurd (hb.2 rfl) (by simp)
    simp (disch:=first|omega|(simp;done)|(simp;omega)) [hi,hx,hy,hc,-getElem?_pos]
    exact IffB.no hne
  ·rintro s ⟨hs,rfl⟩
   have he:l=m:=list_eq hn fun i x y hx hy=>hs i x y (List.getElem?_eq_some_iff.1 hx).1 hx hy
   unfold l147_0
   simp (disch:=first|omega|(simp;done)|(simp;omega))
   exact IffB.yes he
 ·have hn':¬(l.length:Int)=m.length:=by omega
  have hne:l≠m:=fun h=>hn (by rw [h])
  simp (disch:=first|omega|(simp;done)|(simp;omega)) [hn,hn']
  exact IffB.no hne
theorem teq85:∀ (n:Nat)(a b:Ty),a.size≤n→n≤1073741824→∃ r,IffB (a=b) r∧(K A).call 84 [tyV a,tyV b] []=some r:=by
 intro n
 induction n with
 | zero =>
  intro a b ha
  have:=a.size_pos
  omega
 | succ n ih =>
  intro a b ha hn
  have hal:=a.args_lt
  obtain ⟨_,⟨v,hv,rfl⟩,hc⟩:=teq134 (A:=A) a.args b.args (by omega) (fun x hx b=>ih x b (by have:=Ty.arg_lt hx;omega) (by omega))
  refine fn_ofE _ (vf:=v84) (by kernel_rfl) rfl (by simp) ?_
  unfold v84
  by_cases h1:a.kind=b.kind
  ·by_cases h2:a.name=b.name
   ·by_cases h3:a.id=b.id
    ·by_cases h4:a.home=b.home
     ·simp (disch:=first|omega|(simp;done)|(simp;omega)) [h1,h2,h3,h4,hc]
      exact ⟨v,hv.trans ⟨fun h5=>Ty.ext h1 h2 h3 h4 h5,fun h=>by rw [h]⟩,rfl⟩
     ·simp (disch:=first|omega|(simp;done)|(simp;omega)) [h1,h2,h3,h4,hc]
      exact IffB.no fun h=>h4 (by rw [h])
    ·simp (disch:=first|omega|(simp;done)|(simp;omega)) [h1,h2,h3,hc]
     exact IffB.no fun h=>h3 (by rw [h])
   ·simp (disch:=first|omega|(simp;done)|(simp;omega)) [h1,h2,hc]
    exact IffB.no fun h=>h2 (by rw [h])
  ·simp (disch:=first|omega|(simp;done)|(simp;omega)) [h1,hc]
   exact IffB.no fun h=>h1 (by rw [h])
end Go.Vs.Tryz
