/- Equal types by both, walked: they answer whether the types are the same. (Parts of one proof, put together.) -/
import Derived.Test.YtccmnfpbcmccpaaGreatDoorR2c
import Derived.Test.YtccmnfpbcmccpaaGreatDoorM6c
import Derived.Test.YtccmnfpbcmccpaaGreatDoorR0c
set_option linter.unusedSimpArgs false
set_option linter.unusedVariables false
set_option linter.deprecated false
set_option maxHeartbeats 4000000
namespace Go.Vs.Tryz
open Go Go.Vs
variable {A:Zac}
def IffB (P:Prop)(r:V × List Obj):Prop:=∃ b:Bool,(b=true↔P)∧r=(ZaG b,[])
theorem IffB.yes {P:Prop}(h:P):IffB P (ZaG true,[]):=⟨true,by simp [h],rfl⟩
theorem IffB.no {P:Prop}(h:¬P):IffB P (ZaG false,[]):=⟨false,by simp [h],rfl⟩
theorem Ty.ext {a b:Ty}(h1:a.kind=b.kind)(h2:a.name=b.name)(h3:a.id=b.id)(h4:a.home=b.home)(h5:a.args=b.args):a=b:=by
 cases a;cases b;simp only [Ty.kind,Ty.name,Ty.id,Ty.home,Ty.args] at *;subst h1 h2 h3 h4 h5;rfl
theorem Zqd {α:Type}{l m:List α}(hn:l.length=m.length)(h:∀ (i:Nat)(x y:α),l[i]?=some x→m[i]?=some y→x=y):l=m:=by
 refine List.ext_getElem? fun i => ?_
 by_cases hi:i<l.length
 ·rw [List.getElem?_eq_getElem hi,List.getElem?_eq_getElem (hn▸hi)]
  exact congrArg some (h i _ _ (List.getElem?_eq_getElem hi) (List.getElem?_eq_getElem (hn▸hi)))
 ·rw [List.getElem?_eq_none (by omega),List.getElem?_eq_none (by omega)]
theorem teq134 (l m:List Ty)(hl:l.length≤1073741824)(ih:∀ x∈l,∀ b,∃ r,IffB (x=b) r∧(K A).call 52 [tyV x,tyV b] []=some r):∃ r,IffB (l=m) r∧(K A).call 107 [tysV l,tysV m] []=some r:=by
 refine Zap _ (vf:=v107) (by kernel_rfl) rfl (by simp) ?_
 unfold v107
 by_cases hn:l.length=m.length
 ·simp (disch:=first|omega|(simp;done)|(simp;omega)) [hn]
  refine Zaf (fun i s=>(∀ (j:Nat) x y,j<i→l[j]?=some x→m[j]?=some y→x=y)∧s=⟨[(0,tysV l),(1,tysV m),(5,intV i)],[]⟩) l.length ⟨by omega,by simp⟩ ?_ ?_
  ·rintro i s hi ⟨hs,rfl⟩
   obtain ⟨x,hx⟩:=Zaa hi
   obtain ⟨y,hy⟩:=Zaa (l:=m) (i:=i) (by omega)
   obtain ⟨_,⟨b,hb,rfl⟩,hc⟩:=ih x (List.mem_of_getElem? hx) y
   unfold ZhN
   cases b with
   | true =>
    have hxy:x=y:=hb.1 rfl
    simp (disch:=first|omega|(simp;done)|(simp;omega)) [hi,hx,hy,hc,-getElem?_pos]
    intro j x' y' hj hx' hy'
    by_cases hji:j=i
    ·subst hji
     rw [hx] at hx'
     rw [hy] at hy'
     cases hx'
     cases hy'
     exact hxy
    ·exact hs j x' y' (by omega) hx' hy'
   | false =>
    have hne:l≠m:=by
     rintro rfl
     rw [hx] at hy
     cases hy
     exact absurd (hb.2 rfl) (by simp)
    simp (disch:=first|omega|(simp;done)|(simp;omega)) [hi,hx,hy,hc,-getElem?_pos]
    exact IffB.no hne
  ·rintro s ⟨hs,rfl⟩
   have he:l=m:=Zqd hn fun i x y hx hy=>hs i x y (List.getElem?_eq_some_iff.1 hx).1 hx hy
   unfold ZhN
   simp (disch:=first|omega|(simp;done)|(simp;omega))
   exact IffB.yes he
 ·have hn':¬(l.length:Int)=m.length:=by omega
  have hne:l≠m:=fun h=>hn (by rw [h])
  simp (disch:=first|omega|(simp;done)|(simp;omega)) [hn,hn']
  exact IffB.no hne
theorem teq85:∀ (n:Nat)(a b:Ty),a.size≤n→n≤1073741824→∃ r,IffB (a=b) r∧(K A).call 52 [tyV a,tyV b] []=some r:=by
 intro n
 induction n with
 | zero =>
  intro a b ha
  have:=a.size_pos
  omega
 | succ n ih =>
  intro a b ha hn
  have hal:=a.args_lt
  obtain ⟨_,⟨v,hv,rfl⟩,hc⟩:=teq134 (A:=A) a.args b.args (by omega) (fun x hx b=>ih x b (by have:=Ty.arg_lt hx;omega) (by omega))
  refine Zap _ (vf:=v52) (by kernel_rfl) rfl (by simp) ?_
  unfold v52
  by_cases h1:a.kind=b.kind
  ·by_cases h2:a.name=b.name
   ·by_cases h3:a.id=b.id
    ·by_cases h4:a.home=b.home
     ·simp (disch:=first|omega|(simp;done)|(simp;omega)) [h1,h2,h3,h4,hc]
      exact ⟨v,hv.trans ⟨fun h5=>Ty.ext h1 h2 h3 h4 h5,fun h=>by rw [h]⟩,rfl⟩
     ·simp (disch:=first|omega|(simp;done)|(simp;omega)) [h1,h2,h3,h4,hc]
      exact IffB.no fun h=>h4 (by rw [h])
    ·simp (disch:=first|omega|(simp;done)|(simp;omega)) [h1,h2,h3,hc]
     exact IffB.no fun h=>h3 (by rw [h])
   ·simp (disch:=first|omega|(simp;done)|(simp;omega)) [h1,h2,hc]
    exact IffB.no fun h=>h2 (by rw [h])
  ·simp (disch:=first|omega|(simp;done)|(simp;omega)) [h1,hc]
   exact IffB.no fun h=>h1 (by rw [h])
variable {A:Zac}
theorem Zmf (l:List Int)(n:Int)(h:l.length≤1073741824):(K A).call 211 [Zci l,intV n] []=some (ZaG (decide (n∈l)),[]):=by
 refine ZaW (vf:=v211) (by kernel_rfl) rfl (by simp) ?_
 unfold v211
 simp (disch:=first|omega|(simp;done)|(simp;omega))
 refine Zaf (fun i s=>(∀ j:Nat,j<i→l[j]?≠some n)∧s=⟨[(0,Zci l),(1,intV n),(5,intV i)],[]⟩) l.length ⟨by simp,by simp⟩ ?_ ?_
 ·rintro i s hi ⟨hn,rfl⟩
  obtain ⟨x,hx⟩:=Zaa hi
  unfold Zmy
  by_cases hxn:x=n
  ·have hm:n∈l:=hxn▸List.mem_of_getElem? hx
   simp (disch:=first|omega|(simp;done)|(simp;omega)) [hi,hx,hxn,hm,-getElem?_pos]
  ·simp (disch:=first|omega|(simp;done)|(simp;omega)) [hi,hx,hxn,-getElem?_pos]
   intro j hj
   by_cases hji:j<i
   ·exact hn j hji
   ·obtain rfl:j=i:=by omega
    rw [hx]
    simpa using hxn
 ·rintro s ⟨hn,rfl⟩
  have hm:n∉l:=by
   intro hm
   obtain ⟨j,hj,he⟩:=List.getElem_of_mem hm
   exact hn j hj (by rw [List.getElem?_eq_getElem hj,he])
  unfold Zmy
  simp (disch:=first|omega|(simp;done)|(simp;omega)) [hm]
def LeafQ (k:Int)(t:Ty)(out o2:List Ty):Prop:=(∀ x∈out,x∈o2)∧leafIn k o2 t∧∀ p:Ty→Prop,Ty.all p t→∀ x∈o2,x∈out∨(p x∧x.kind=k)
def Zqg (k:Int)(t:Ty)(out:List Ty)(r:V × List Obj):Prop:=∃ o2:List Ty,out.length≤o2.length∧o2.length≤out.length+t.size∧(∀ x∈o2,x.size≤1073741824)∧LeafQ k t out o2∧r=(.sc (.arr 0 o2.length),[.arr 5 (wr (Ty.rows o2)) 0])
theorem ZhI (k:Int):∀ (n:Nat)(t:Ty)(out:List Ty),t.size≤n→(∀ x∈out,x.size≤1073741824)→out.length+t.size≤1073741824 →
 ∃ r,Zqg k t out r∧(K A).call 210 [.sc (.arr 0 out.length),tyV t,intV k] [.arr 5 (wr (Ty.rows out)) 0]=some r:=by
 intro n
 induction n with
 | zero =>
  intro t out ht
  have:=t.size_pos
  omega
 | succ n ih =>
  intro t out ht ho hn
  have hal:=t.args_lt
  have hpos:=t.size_pos
  have hts:=t.size_eq
  refine Zap _ (vf:=v210) (by kernel_rfl) rfl (by simp) ?_
  have kids:¬(t.kind=k∧t.args=[])→wp (K A) (.loop Zjm) (Zby 2 (Zcv (K A) (.seq (.region [] [o 51 (.mv (tv 0)),o 6 (.mv (tv 51))] [] [6]) .ret) (Zdy true 1 [.tmp 6] (Zqg k t out))))
   ⟨[(0,.sc (.arr 0 out.length)),(2,intV k),(4,.sc (.ptr 64 0)),(8,intV 0)],[(0,some (.arr 5 (wr (Ty.rows out)) 0)),(64,some (.box (wc t.row)))]⟩:=by
   intro hnl
   refine Zaf (fun i s=>∃ o2:List Ty,out.length≤o2.length∧o2.length≤out.length+((t.args.map Ty.size).take i).sum∧(∀ x∈o2,x.size≤1073741824) ∧
    (∀ x∈out,x∈o2)∧(∀ (j:Nat) y,j<i→t.args[j]?=some y→leafIn k o2 y)∧(∀ p:Ty→Prop,Ty.all p t→∀ x∈o2,x∈out∨(p x∧x.kind=k)) ∧
    s=⟨[(0,.sc (.arr 0 o2.length)),(2,intV k),(4,.sc (.ptr 64 0)),(8,intV i)],[(0,some (.arr 5 (wr (Ty.rows o2)) 0)),(64,some (.box (wc t.row)))]⟩) t.args.length
    ⟨out,by omega,by simp,ho,fun _ h=>h,by omega,fun p _ x hx=>.inl hx,by simp⟩ ?_ ?_
   ·rintro i s hi ⟨o2,h0,h1,h2,q1,q2,q3,rfl⟩
    obtain ⟨x,hx⟩:=Zaa hi
    have hxm':=List.mem_of_getElem? hx
    have hxs:=Ty.arg_lt hxm'
    have hxm:(t.args.map Ty.size)[i]?=some x.size:=by rw [List.getElem?_map,hx];rfl
    have hsum:((t.args.map Ty.size).take (i+1)).sum=((t.args.map Ty.size).take i).sum+x.size:=by rw [ZaQ hxm];simp
    have hle:((t.args.map Ty.size).take (i+1)).sum≤(t.args.map Ty.size).sum:=Zdq
    obtain ⟨_,⟨o3,h3,h4,h5,⟨r1,r2,r3⟩,rfl⟩,hc⟩:=ih x o2 (by omega) h2 (by omega)
    unfold Zjm
    simp (disch:=first|omega|(simp;done)|(simp;omega)) [hi,hx,hc,h3,-getElem?_pos]
    refine ⟨o3,by omega,by omega,h5,fun y hy=>r1 y (q1 y hy),?_,?_,by simp⟩
    ·intro j y hj hy
     by_cases hji:j<i
     ·exact (q2 j y hji hy).mono r1
     ·obtain rfl:j=i:=by omega
      rw [hx] at hy
      cases hy
      exact r2
    ·intro p hp y hy
     rcases r3 p (hp.arg hxm') y hy with h|h
     ·exact q3 p hp y h
     ·exact .inr h
   ·rintro s ⟨o2,h0,h1,h2,q1,q2,q3,rfl⟩
    rw [List.take_of_length_le (by simp)] at h1
    unfold Zjm
    simp (disch:=first|omega|(simp;done)|(simp;omega))
    refine ⟨o2,h0,by omega,h2,⟨q1,Ty.all_iff.2 ⟨fun a b=>absurd ⟨a,b⟩ hnl,fun y hy => ?_⟩,q3⟩,rfl⟩
    obtain ⟨j,hj,he⟩:=List.getElem_of_mem hy
    exact q2 j y hj (by rw [List.getElem?_eq_getElem hj,he])
  unfold v210
  by_cases h1:t.kind=k
  ·by_cases h2:t.args=[]
   ·simp (disch:=first|omega|(simp;done)|(simp;omega)) [h1,h2]
    refine Zaf (fun i s=>(∀ j:Nat,j<i→out[j]?≠some t)∧s=⟨[(0,.sc (.arr 0 out.length)),(4,.sc (.ptr 64 0)),(7,intV i)],[(0,some (.arr 5 (wr (Ty.rows out)) 0)),(64,some (.box (wc t.row)))]⟩) out.length ⟨by simp,by simp⟩ ?_ ?_
    ·rintro i s hi ⟨hno,rfl⟩
     obtain ⟨x,hx⟩:=Zaa hi
     obtain ⟨_,⟨b,hb,rfl⟩,hc⟩:=teq85 (A:=A) 1073741824 x t (ho x (List.mem_of_getElem? hx)) (by omega)
     unfold ZlS
     cases b with
     | true =>
      have hxt:x=t:=hb.1 rfl
      simp (disch:=first|omega|(simp;done)|(simp;omega)) [hi,hx,hc,-getElem?_pos]
      refine ⟨out,by omega,by omega,ho,⟨fun _ h=>h,Ty.all_iff.2 ⟨fun _ _=>hxt▸List.mem_of_getElem? hx,fun y hy=>by rw [h2] at hy;cases hy⟩,fun p _ y hy=>.inl hy⟩,rfl⟩
     | false =>
      have hxt:x≠t:=fun h=>absurd (hb.2 h) (by simp)
      simp (disch:=first|omega|(simp;done)|(simp;omega)) [hi,hx,hc,-getElem?_pos]
      intro j hj
      by_cases hji:j<i
      ·exact hno j hji
      ·obtain rfl:j=i:=by omega
       rw [hx]
       simpa using hxt
    ·rintro s ⟨hno,rfl⟩
     unfold ZlS
     have fin:Zqg k t out (.sc (.arr 0 (out++[t]).length),[.arr 5 (wr (Ty.rows (out++[t]))) 0]):=by
      refine ⟨out++[t],by simp,by simp;omega,?_,⟨fun x hx=>by simp [hx],Ty.all_iff.2 ⟨fun _ _=>by simp,fun y hy=>by rw [h2] at hy;cases hy⟩,?_⟩,rfl⟩
      ·intro x hx
       rcases List.mem_append.1 hx with hx|hx
       ·exact ho x hx
       ·simp only [List.mem_singleton] at hx
        subst hx
        omega
      ·intro p hp x hx
       rcases List.mem_append.1 hx with hx|hx
       ·exact .inl hx
       ·simp only [List.mem_singleton] at hx
        subst hx
        exact .inr ⟨hp.one,h1⟩
     simp (disch:=first|omega|(simp;done)|(simp;omega))
     simpa using fin
   ·have h3:¬t.args.length=0:=fun h=>h2 (List.length_eq_zero_iff.1 h)
    simp (disch:=first|omega|(simp;done)|(simp;omega)) [h1,h2,h3]
    exact kids fun h=>h2 h.2
  ·simp (disch:=first|omega|(simp;done)|(simp;omega)) [h1]
   exact kids fun h=>h1 h.1
variable {A:Zac}
theorem Zco {l:List Ty}{i:Nat}{x:Ty}(h:l[i]?=some x):((l.take (i+1)).map Ty.size).sum=((l.take i).map Ty.size).sum+x.size:=by
 rw [ZaQ h]
 simp
theorem ZdY (l:List Ty)(i:Nat):((l.take i).map Ty.size).sum≤(l.map Ty.size).sum:=by
 rw [List.map_take]
 exact Zdq
def Zpr (k:Int)(l:List Ty)(o2:List Ty):Prop:=o2.length≤(l.map Ty.size).sum∧(∀ x∈o2,x.size≤1073741824)∧(∀ t∈l,leafIn k o2 t)∧∀ p:Ty→Prop,(∀ t∈l,Ty.all p t)→∀ x∈o2,p x∧x.kind=k
def LeafsI (k:Int)(l:List Ty)(i:Nat)(o2:List Ty):Prop:=o2.length≤((l.take i).map Ty.size).sum∧(∀ x∈o2,x.size≤1073741824)∧(∀ (j:Nat) t,j<i→l[j]?=some t→leafIn k o2 t)∧∀ p:Ty→Prop,(∀ t∈l,Ty.all p t)→∀ x∈o2,p x∧x.kind=k
theorem LeafsI.next {k:Int}{l:List Ty}{i:Nat}{x:Ty}{o2 o3:List Ty}(h:LeafsI k l i o2)(hx:l[i]?=some x)(h2:o3.length≤o2.length+x.size)(h3:∀ x∈o3,x.size≤1073741824)(q:LeafQ k x o2 o3):LeafsI k l (i+1) o3:=by
 obtain ⟨a1,a2,a3,a4⟩:=h
 obtain ⟨r1,r2,r3⟩:=q
 refine ⟨by rw [Zco hx];omega,h3,?_,?_⟩
 ·intro j y hj hy
  by_cases hji:j<i
  ·exact (a3 j y hji hy).mono r1
  ·obtain rfl:j=i:=by omega
   rw [hx] at hy
   cases hy
   exact r2
 ·intro p hp y hy
  rcases r3 p (hp x (List.mem_of_getElem? hx)) y hy with h|h
  ·exact a4 p hp y h
  ·exact h
theorem LeafsI.all {k:Int}{l:List Ty}{o2:List Ty}(h:LeafsI k l l.length o2):Zpr k l o2:=by
 obtain ⟨a1,a2,a3,a4⟩:=h
 rw [List.take_of_length_le (Nat.le_refl _)] at a1
 refine ⟨a1,a2,fun t ht => ?_,a4⟩
 obtain ⟨j,hj,he⟩:=List.getElem_of_mem ht
 exact a3 j t hj (by rw [List.getElem?_eq_getElem hj,he])
def IdsQ (n:Nat)(l:List Ty)(ids:List Int):Prop:=ids.length≤(l.map Ty.size).sum∧(∀ t∈l,ZdU ids t)∧∀ i∈ids,0≤i∧i<n
def VarsR (n:Nat)(l:List Ty)(r:V × List Obj):Prop:=∃ ids,IdsQ n l ids∧r=(Zci ids,[])
theorem Zhl {n c:Nat}(l:List Ty)(h:(l.map Ty.size).sum≤1073741824)(hS:∀ t∈l,tyB n c t):∃ r,VarsR n l r∧(K A).call 195 [tysV l] []=some r:=by
 have hlen:=Ty.len_le l
 refine Zap _ (vf:=v195) (by kernel_rfl) rfl (by simp) ?_
 unfold v195
 simp (disch:=first|omega|(simp;done)|(simp;omega))
 refine Zaf (fun i s=>∃ o2,LeafsI 1 l i o2∧s=⟨[(0,tysV l),(3,.sc (.arr 129 o2.length)),(4,intV i)],[(129,some (.arr 5 (wr (Ty.rows o2)) 0))]⟩) l.length
  ⟨[],⟨by simp,by simp,by omega,by simp⟩,by simp⟩ ?_ ?_
 ·rintro i s hi ⟨o2,hI,rfl⟩
  obtain ⟨x,hx⟩:=Zaa hi
  have hs1:=Zco hx
  have hs2:=ZdY l (i+1)
  obtain ⟨_,⟨o3,h1,h2,h3,hq,rfl⟩,hc⟩:=ZhI (A:=A) 1 x.size x o2 (Nat.le_refl _) hI.2.1 (by have:=hI.1;omega)
  unfold ZmF
  simp (disch:=first|omega|(simp;done)|(simp;omega)) [hi,hx,hc,h1,-getElem?_pos]
  exact ⟨o3,hI.next hx h2 h3 hq,by simp⟩
 ·rintro s ⟨o1,hI,rfl⟩
  obtain ⟨b1,b2,b3,b4⟩:=hI.all
  unfold ZmF
  simp (disch:=first|omega|(simp;done)|(simp;omega)) [-getElem?_pos]
  refine Zaf (fun i s=>∃ ids:List Int,ids.length≤i∧(∀ (j:Nat) y,j<i→o1[j]?=some y→y.id∈ids)∧(∀ a∈ids,0≤a∧a<n)∧s=⟨[(3,.sc (.arr 129 o1.length)),(5,.sc (.arr 1153 ids.length)),(6,intV i)],[(129,some (.arr 5 (wr (Ty.rows o1)) 0)),(1153,some (.arr 1 (wr (Zao ids)) 0))]⟩) o1.length ⟨[],by simp,by omega,by simp,by simp [Zao]⟩ ?_ ?_
  ·rintro i s hi ⟨ids,hi2,q1,q2,rfl⟩
   obtain ⟨x,hx⟩:=Zaa hi
   have hc:=Zmf (A:=A) ids x.id (by omega)
   obtain ⟨hp,hk⟩:=b4 (tyN n c) hS x (List.mem_of_getElem? hx)
   obtain ⟨hp1,hp2,_⟩:=hp.1 hk
   unfold ZmM
   by_cases hm:x.id∈ids
   ·simp (disch:=first|omega|(simp;done)|(simp;omega)) [hi,hx,hc,hm,elOk,-getElem?_pos]
    refine ⟨ids,by omega,?_,q2,by simp⟩
    intro j y hj hy
    by_cases hji:j<i
    ·exact q1 j y hji hy
    ·obtain rfl:j=i:=by omega
     rw [hx] at hy
     cases hy
     exact hm
   ·simp (disch:=first|omega|(simp;done)|(simp;omega)) [hi,hx,hc,hm,elOk,-getElem?_pos]
    refine ⟨ids++[x.id],by simp;omega,?_,?_,by simp [Zao,ZcJ,wr]⟩
    ·intro j y hj hy
     by_cases hji:j<i
     ·exact List.mem_append.2 (.inl (q1 j y hji hy))
     ·obtain rfl:j=i:=by omega
      rw [hx] at hy
      cases hy
      simp
    ·intro a ha
     rcases List.mem_append.1 ha with ha|ha
     ·exact q2 a ha
     ·simp only [List.mem_singleton] at ha
      subst ha
      exact ⟨hp1,hp2⟩
  ·rintro s ⟨ids,hi2,q1,q2,rfl⟩
   unfold ZmM
   simp (disch:=first|omega|(simp;done)|(simp;omega)) [-getElem?_pos]
   refine ⟨ids,⟨by omega,fun t ht => ?_,q2⟩,rfl⟩
   have hcov:∀ u:Ty,leafIn 1 o1 u→tyB n c u→ZdU ids u:=by
    intro u
    induction u using Ty.ind with
    | h u ih =>
     intro g1 g2
     refine Ty.all_iff.2 ⟨fun hk => ?_,fun y hy=>ih y hy (Ty.all.arg g1 hy) (g2.arg hy)⟩
     have hmem:=Ty.all.one g1 hk (g2.one.1 hk).2.2
     obtain ⟨j,hj,he⟩:=List.getElem_of_mem hmem
     exact q1 j u hj (by rw [List.getElem?_eq_getElem hj,he])
   exact hcov t (b3 t ht) (hS t ht)
def RigsR (l:List Ty)(r:V × List Obj):Prop:=∃ o2,Zpr 3 l o2∧r=(tysV o2,[])
theorem ZhG (l:List Ty)(h:(l.map Ty.size).sum≤1073741824):∃ r,RigsR l r∧(K A).call 186 [tysV l] []=some r:=by
 have hlen:=Ty.len_le l
 refine Zap _ (vf:=v186) (by kernel_rfl) rfl (by simp) ?_
 unfold v186
 simp (disch:=first|omega|(simp;done)|(simp;omega))
 refine Zaf (fun i s=>∃ o2,LeafsI 3 l i o2∧s=⟨[(0,tysV l),(3,.sc (.arr 129 o2.length)),(4,intV i)],[(129,some (.arr 5 (wr (Ty.rows o2)) 0))]⟩) l.length
  ⟨[],⟨by simp,by simp,by omega,by simp⟩,by simp⟩ ?_ ?_
 ·rintro i s hi ⟨o2,hI,rfl⟩
  obtain ⟨x,hx⟩:=Zaa hi
  have hs1:=Zco hx
  have hs2:=ZdY l (i+1)
  obtain ⟨_,⟨o3,h1,h2,h3,hq,rfl⟩,hc⟩:=ZhI (A:=A) 3 x.size x o2 (Nat.le_refl _) hI.2.1 (by have:=hI.1;omega)
  unfold ZmQ
  simp (disch:=first|omega|(simp;done)|(simp;omega)) [hi,hx,hc,h1,-getElem?_pos]
  exact ⟨o3,hI.next hx h2 h3 hq,by simp⟩
 ·rintro s ⟨o1,hI,rfl⟩
  unfold ZmQ
  simp (disch:=first|omega|(simp;done)|(simp;omega)) [-getElem?_pos]
  exact ⟨o1,hI.all,rfl⟩
variable {A:Zac}
theorem Zot {s:List AssD}{t:Ty}{i:Nat}{x:AssD}(h:s[i]?=some x)(hx:x.id=t.id)(hn:∀ (j:Nat) y,j<i→s[j]?=some y→y.id≠t.id):Zie s t=x.ty:=by
 unfold Zie
 have:s.find? (fun a=>decide (a.id=t.id))=some x:=by
  rw [List.find?_eq_some_iff_getElem]
  obtain ⟨hi,he⟩:=List.getElem?_eq_some_iff.1 h
  refine ⟨by simpa using hx,i,hi,he,fun j hj => ?_⟩
  have:=hn j _ hj (List.getElem?_eq_getElem (by omega))
  simpa using this
 rw [this]
theorem ZkF {s:List AssD}{t:Ty}(hn:∀ (j:Nat) y,j<s.length→s[j]?=some y→y.id≠t.id):Zie s t=t:=by
 unfold Zie
 have:s.find? (fun a=>decide (a.id=t.id))=none:=by
  rw [List.find?_eq_none]
  intro x hx
  obtain ⟨j,hj,rfl⟩:=List.getElem_of_mem hx
  simpa using hn j _ hj (List.getElem?_eq_getElem hj)
 rw [this]
theorem ZcI (s:List AssD)(hs:s.length≤1073741824)(t:Ty):t.size≤1073741824→(K A).call 191 [tyV t,ZdI s] []=some (tyV (ZbW s t),[]):=by
 induction t using Ty.ind with
 | h t ih =>
 intro ht
 have hal:=t.args_lt
 refine ZaW (vf:=v191) (by kernel_rfl) rfl (by simp) ?_
 unfold v191
 by_cases h1:t.kind=1
 ·have hm:ZbW s t=Zie s t:=Ty.map_some (by unfold Zfq;rw [if_pos h1])
  simp (disch:=first|omega|(simp;done)|(simp;omega)) [h1]
  refine Zaf (fun i st=>(∀ (j:Nat) y,j<i→s[j]?=some y→y.id≠t.id)∧st=⟨[(1,ZdI s),(2,.sc (.ptr 64 0)),(4,.sc (.ptr 128 0)),(5,intV i)],[(64,some (.box (wc t.row))),(128,some (.box [zi,zs,zi,zi,.nil]))]⟩) s.length ⟨by omega,by simp⟩ ?_ ?_
  ·rintro i st hi ⟨hn,rfl⟩
   obtain ⟨x,hx⟩:=Zaa hi
   unfold Zlx
   by_cases hxt:x.id=t.id
   ·have hf:=Zot hx hxt hn
    simp (disch:=first|omega|(simp;done)|(simp;omega)) [hi,hx,hxt,hm,hf,-getElem?_pos]
   ·simp (disch:=first|omega|(simp;done)|(simp;omega)) [hi,hx,hxt,-getElem?_pos]
    intro j y hj hy
    by_cases hji:j<i
    ·exact hn j y hji hy
    ·obtain rfl:j=i:=by omega
     rw [hx] at hy
     cases hy
     exact hxt
  ·rintro st ⟨hn,rfl⟩
   have hf:=ZkF hn
   unfold Zlx
   simp (disch:=first|omega|(simp;done)|(simp;omega)) [hm,hf,-getElem?_pos]
 ·have hm:ZbW s t=.mk t.kind t.name t.id t.home (t.args.map (ZbW s)):=Ty.map_none (by unfold Zfq;rw [if_neg h1])
  simp (disch:=first|omega|(simp;done)|(simp;omega)) [h1]
  simp (disch:=first|omega|(simp;done)|(simp;omega)) [Ty.row_eq t]
  refine Zaf (fun i st=>st=⟨[(1,ZdI s),(2,.sc (.ptr 64 0)),(4,.sc (.ptr 128 0)),(6,.sc (.ptr 1984 0)),(7,intV i)],
   [(64,some (.box [.c (.int .i64 t.kind),.c (.str t.name),.c (.int .i64 t.id),.c (.int .i64 t.home),.c (.sl (Ty.rows t.args))])),(128,some (.box [zi,zs,zi,zi,.nil])),
     (1984,some (.box [.c (.int .i64 t.kind),.c (.str t.name),.c (.int .i64 t.id),.c (.int .i64 t.home),.arr 2177 i])),(2177,some (.arr 5 (wr (Ty.rows ((t.args.map (ZbW s)).take i))) 0))]⟩) t.args.length (by simp) ?_ ?_
  ·rintro i st hi rfl
   obtain ⟨x,hx⟩:=Zaa hi
   have hxs:=Ty.arg_lt (List.mem_of_getElem? hx)
   have hc:=ih x (List.mem_of_getElem? hx) (by omega)
   have hmx:(t.args.map (ZbW s))[i]?=some (ZbW s x):=by rw [List.getElem?_map,hx];rfl
   have hlen:((t.args.map (ZbW s)).take i).length=i:=by simp;omega
   unfold ZnD
   simp (disch:=first|omega|(simp;done)|(simp;omega)) [hi,hx,hc,hlen,ZaQ hmx,-getElem?_pos]
  ·rintro st rfl
   have htk:(t.args.map (ZbW s)).take t.args.length=t.args.map (ZbW s):=List.take_of_length_le (by simp)
   unfold ZnD
   simp (disch:=first|omega|(simp;done)|(simp;omega)) [htk,hm,Zd6,-getElem?_pos]
theorem Zhm {l m:List Int}(t:Ty):ZdU l t→ZdU m t→ZdU (l.filter fun i=>decide (i∈m)) t:=by
 induction t using Ty.ind with
 | h t ih =>
  intro h1 h2
  exact Ty.all_iff.2 ⟨fun hk=>List.mem_filter.2 ⟨Ty.all.one h1 hk,by simpa using Ty.all.one h2 hk⟩,fun x hx=>ih x hx (Ty.all.arg h1 hx) (Ty.all.arg h2 hx)⟩
def SchR (m:Nat)(r:V × List Obj):Prop:=∃ (c:Nat)(t:Ty),c≤m∧tyB 0 c t∧t.size≤m∧r=(schV c t,[])
theorem ZoB {n:Nat}(t:Ty)(ids:List Int)(h:t.size≤1073741824)(hi:ids.length≤1073741824)(hS:tyS n t)(hv:ZdU ids t):∃ r,SchR t.size r∧(K A).call 187 [tyV t,Zci ids] []=some r:=by
 refine Zap _ (vf:=v187) (by kernel_rfl) rfl (by simp) ?_
 obtain ⟨_,⟨v,⟨g1,g2,g3⟩,rfl⟩,hc⟩:=Zhl (A:=A) (n:=n) (c:=0) [t] (by simpa using h) (fun u hu=>by rw [List.mem_singleton.1 hu];exact hS)
 have hn:Ty.rows [t]=[t.row]:=by simp [Ty.rows]
 have hc:(K A).call 195 [.sc (.c (.sl [t.row]))] []=some (Zci v,[]):=by rw [←hn];exact hc
 have g1':v.length≤t.size:=by simpa using g1
 unfold v187
 simp (disch:=first|omega|(simp;done)|(simp;omega)) [hc]
 refine Zaf (fun i st=>∃ s:List AssD,s.length≤i∧(∀ (j:Nat) x,j<i→v[j]?=some x→x∈ids→∃ a∈s,a.id=x)∧(∀ a∈s,tyB 0 s.length a.ty∧a.ty.size≤1) ∧
  st=⟨[(1,Zci ids),(2,.sc (.ptr 64 0)),(4,.sc (.ptr 128 0)),(5,Zci v),(6,.sc (.arr 449 s.length)),(7,intV i)],[(64,some (.box (wc t.row))),(128,some (.box [zi,zi,zs,zi,zi,.nil])),(449,some (.arr 6 (wr (ZbK s)) 0))]⟩) v.length ⟨[],by simp,by omega,by simp,by simp⟩ ?_ ?_
 ·rintro i st hi2 ⟨s,hs,q1,q2,rfl⟩
  obtain ⟨x,hx⟩:=Zaa hi2
  have hc2:=Zmf (A:=A) ids x hi
  have hb:=ZgM (A:=A) s.length
  have he:(W.c (.int .i64 x)::wc (Ty.mk 2 [] s.length 0 []).row)=wc (Zbn ⟨x,.mk 2 [] s.length 0 []⟩):=rfl
  unfold Zla
  by_cases hm:x∈ids
  ·simp (disch:=first|omega|(simp;done)|(simp;omega)) [hi2,hx,hc2,hm,hb,he,-getElem?_pos]
   refine ⟨s++[⟨x,.mk 2 [] s.length 0 []⟩],by simp;omega,?_,?_,by simp⟩
   ·intro j y hj hy hyi
    by_cases hji:j<i
    ·obtain ⟨a,ha,hai⟩:=q1 j y hji hy hyi
     exact ⟨a,by simp [ha],hai⟩
    ·obtain rfl:j=i:=by omega
     rw [hx] at hy
     cases hy
     exact ⟨_,List.mem_append.2 (.inr (List.mem_singleton.2 rfl)),rfl⟩
   ·intro a ha
    rcases List.mem_append.1 ha with ha|ha
    ·exact ⟨(q2 a ha).1.mono (Nat.le_refl 0) (by simp),(q2 a ha).2⟩
    ·simp only [List.mem_singleton] at ha
     subst ha
     exact ⟨ZfP (by simp),by simp [Ty.size_leaf]⟩
  ·simp (disch:=first|omega|(simp;done)|(simp;omega)) [hi2,hx,hc2,hm,-getElem?_pos]
   refine ⟨s,by omega,?_,q2,by simp⟩
   intro j y hj hy hyi
   by_cases hji:j<i
   ·exact q1 j y hji hy hyi
   ·obtain rfl:j=i:=by omega
    rw [hx] at hy
    cases hy
    exact absurd hyi hm
 ·rintro st ⟨s,hs,q1,q2,rfl⟩
  have hc3:=ZcI (A:=A) s (by omega) t h
  have hS0:tyB 0 s.length (ZbW s t):=ZiY (l:=v.filter fun i=>decide (i∈ids)) (fun i hi=>by
   obtain ⟨hi1,hi2⟩:=List.mem_filter.1 hi
   obtain ⟨j,hj,he⟩:=List.getElem_of_mem hi1
   exact q1 j i hj (by rw [List.getElem?_eq_getElem hj,he]) (by simpa using hi2)) (fun a ha=>(q2 a ha).1) hS (Zhm t (g2 t (by simp)) hv)
  have hsz:=Zex (Nat.le_refl 1) (fun a ha=>(q2 a ha).2) t
  unfold Zla
  simp (disch:=first|omega|(simp;done)|(simp;omega)) [hc3,-getElem?_pos]
  exact ⟨s.length,ZbW s t,by omega,hS0,by omega,by simp [ZaI,Ty.row_eq]⟩
theorem rig_of {ids:List Int}{o2:List Ty}(h:∀ x∈o2,x.home=99→900+x.id∈ids)(t:Ty):tyS 0 t→rigB t→leafIn 3 o2 t→ZrE ids t:=by
 induction t using Ty.ind with
 | h t ih =>
  intro h1 h2 h3
  refine Ty.all_iff.2 ⟨fun hk=>⟨(Ty.all.one h2 hk).1,h t (Ty.all.one h3 hk.1 (h1.one.2.2.1 hk.1)) hk.2⟩,fun x hx=>ih x hx (h1.arg hx) (Ty.all.arg h2 hx) (Ty.all.arg h3 hx)⟩
theorem ZnH (t:Ty)(h:t.size≤1073741824)(hS:tyS 0 t)(hB:rigB t):∃ r,SchR t.size r∧(K A).call 137 [tyV t] []=some r:=by
 refine Zap _ (vf:=v137) (by kernel_rfl) rfl (by simp) ?_
 obtain ⟨_,⟨v,⟨g1,g2,g3,g4⟩,rfl⟩,hc⟩:=ZhG (A:=A) [t] (by simpa using h)
 have hn:Ty.rows [t]=[t.row]:=by simp [Ty.rows]
 have hc:(K A).call 186 [.sc (.c (.sl [t.row]))] []=some (tysV v,[]):=by rw [←hn];exact hc
 have g1':v.length≤t.size:=by simpa using g1
 have hth:=ZrD (A:=A) t h hB
 unfold v137
 simp (disch:=first|omega|(simp;done)|(simp;omega)) [hc]
 refine Zaf (fun i st=>∃ ids:List Int,ids.length≤i∧(∀ (j:Nat) x,j<i→v[j]?=some x→x.home=99→900+x.id∈ids)∧(∀ a∈ids,a<2000) ∧
  st=⟨[(1,.sc (.ptr 64 0)),(2,.sc (.ptr 128 0)),(3,.sc (.arr 193 ids.length)),(4,tysV v),(5,intV i)],[(64,some (.box (wc t.row))),(128,some (.box [zi,zi,zs,zi,zi,.nil])),(193,some (.arr 1 (wr (Zao ids)) 0))]⟩) v.length ⟨[],by simp,by omega,by simp,by simp [Zao]⟩ ?_ ?_
 ·rintro i st hi2 ⟨ids,hs,q1,q2,rfl⟩
  obtain ⟨x,hx⟩:=Zaa hi2
  unfold ZmZ
  by_cases hm:x.home=99
  ·have hxk:=g4 (fun u=>u.kind=3∧u.home=99→0≤u.id∧u.id≤1000) (fun u hu=>by rw [List.mem_singleton.1 hu];exact hB) x (List.mem_of_getElem? hx)
   obtain ⟨ha,hb⟩:=hxk.1 ⟨hxk.2,hm⟩
   simp (disch:=first|omega|(simp;done)|(simp;omega)) [hi2,hx,hm,-getElem?_pos]
   refine ⟨ids++[900+x.id],by simp;omega,?_,?_,by simp [Zao,ZcJ,wr]⟩
   ·intro j y hj hy hyi
    by_cases hji:j<i
    ·exact List.mem_append.2 (.inl (q1 j y hji hy hyi))
    ·obtain rfl:j=i:=by omega
     rw [hx] at hy
     cases hy
     simp
   ·intro a ha
    rcases List.mem_append.1 ha with ha|ha
    ·exact q2 a ha
    ·simp only [List.mem_singleton] at ha
     omega
  ·simp (disch:=first|omega|(simp;done)|(simp;omega)) [hi2,hx,hm,-getElem?_pos]
   refine ⟨ids,by omega,?_,q2,by simp⟩
   intro j y hj hy hyi
   by_cases hji:j<i
   ·exact q1 j y hji hy hyi
   ·obtain rfl:j=i:=by omega
    rw [hx] at hy
    cases hy
    exact absurd hyi hm
 ·rintro st ⟨ids,hs,q1,q2,rfl⟩
  have hrig:ZrE ids t:=rig_of (o2:=v) (fun x hx hh=>by
   obtain ⟨j,hj,he⟩:=List.getElem_of_mem hx
   exact q1 j x hj (by rw [List.getElem?_eq_getElem hj,he]) hh) t hS hB (g3 t (by simp))
  have hts:=Zkl t
  obtain ⟨k1,k2⟩:=Zrv (l:=ids) (n:=2000) q2 t hS hrig
  obtain ⟨_,⟨c,u,hcm,hu,hus,rfl⟩,hcl⟩:=ZoB (A:=A) (Zc5 t) ids (by omega) (by omega) k1 k2
  unfold ZmZ
  simp (disch:=first|omega|(simp;done)|(simp;omega)) [hth,hcl,-getElem?_pos]
  exact ⟨c,u,by omega,hu,by omega,rfl⟩
variable {A:Zac}
def fitD (d:DataD):Prop:=Zko d∧(∀ c∈d.cons,∀ f∈c.fields,tyS 0 f∧f.size≤20)∧ZeS d.name d.params.length∧∀ c∈d.cons,c.fields.length≤2
def fitDs (ds:List DataD):Prop:=ds.length≤100∧∀ d∈ds,fitD d
theorem fitDs.good {ds:List DataD}(h:fitDs ds):Zdz ds:=⟨h.1,fun d hd=>(h.2 d hd).1⟩
theorem Znj {l:List Ty}(h:∀ x∈l,x.size≤1):(l.map Ty.size).sum≤l.length:=by
 have:=ZcZ h
 omega
def TyR (n m:Nat)(r:V × List Obj):Prop:=∃ t:Ty,tyS n t∧t.size≤m∧r=(tyV t,[])
def TyC (c m:Nat)(r:V × List Obj):Prop:=∃ t:Ty,tyB 0 c t∧t.size≤m∧r=(tyV t,[])
theorem Znp (d:DataD)(hp:d.params.length≤100)(hcn:ZeS d.name d.params.length):∃ r,TyC d.params.length (1+d.params.length) r∧(K A).call 217 [.ag (wc (Zau d))] []=some r:=by
 refine Zap _ (vf:=v217) (by kernel_rfl) rfl (by simp) ?_
 unfold v217
 simp (disch:=first|omega|(simp;done)|(simp;omega))
 refine Zaf (fun i st=>∃ l:List Ty,l.length=i∧(∀ x∈l,tyB 0 d.params.length x∧x.size≤1)∧st=⟨[(1,.sc (.ptr 64 0)),(2,.sc (.ptr 128 0)),(3,.sc (.arr 193 i)),(4,intV i)],[(64,some (.box (wc (Zau d)))),(128,some (.box [zi,zs,zi,zi,.nil])),(193,some (.arr 5 (wr (Ty.rows l)) 0))]⟩) d.params.length ⟨[],rfl,by simp,by simp⟩ ?_ ?_
 ·rintro i st hi ⟨l,hl,q,rfl⟩
  have hb:=ZgM (A:=A) i
  unfold Zng
  simp (disch:=first|omega|(simp;done)|(simp;omega)) [hi,hb,hl,-getElem?_pos]
  refine ⟨l++[.mk 2 [] i 0 []],by simp [hl],?_,by simp⟩
  intro x hx
  rcases List.mem_append.1 hx with hx|hx
  ·exact q x hx
  ·simp only [List.mem_singleton] at hx
   subst hx
   exact ⟨ZfP hi,by simp [Ty.size_leaf]⟩
 ·rintro st ⟨l,hl,q,rfl⟩
  have hc:=ZiP (A:=A) d.name l (by omega)
  have hs:=Znj fun x hx=>(q x hx).2
  unfold Zng
  simp (disch:=first|omega|(simp;done)|(simp;omega)) [hl,hc,-getElem?_pos]
  refine ⟨_,ZiS (by rw [hl];exact hcn) fun x hx=>(q x hx).1,?_,rfl⟩
  rw [Ty.size_eq]
  show 1+(l.map Ty.size).sum≤_
  omega
def Zlu (ds:List DataD)(s:Str):Prop:=∃ d∈ds,∃ c∈d.cons,c.name=s
def FindR (ds:List DataD)(s:Str)(r:V × List Obj):Prop:=∃ (i k:Nat)(d:DataD)(c:ConD),ds[i]?=some d∧d.cons[k]?=some c∧c.name=s∧r=(.tu [intV i,intV k,ZaG true],[])
theorem Zm9 (ds:List DataD)(hds:Zdz ds)(s:Str)(hex:Zlu ds s):∃ r,FindR ds s r∧(K A).call 189 [Zal ds,strV s] []=some r:=by
 have hds1:=hds.1
 refine Zap _ (vf:=v189) (by kernel_rfl) rfl (by simp) ?_
 unfold v189
 simp (disch:=first|omega|(simp;done)|(simp;omega))
 refine Zaf (fun i st=>(∀ (j:Nat) d,j<i→ds[j]?=some d→∀ c∈d.cons,c.name≠s)∧st=⟨[(0,Zal ds),(1,strV s),(7,intV i)],[]⟩) ds.length ⟨by omega,by simp⟩ ?_ ?_
 ·rintro i st hi ⟨hno,rfl⟩
  obtain ⟨d,hd⟩:=Zaa hi
  have hg:=hds.2 d (List.mem_of_getElem? hd)
  have hg3:=hg.2.2.1
  unfold ZpH
  simp (disch:=first|omega|(simp;done)|(simp;omega)) [hi,hd,-getElem?_pos]
  refine Zaf (fun k st=>(∀ (j:Nat) c,j<k→d.cons[j]?=some c→c.name≠s)∧st=⟨[(0,Zal ds),(1,strV s),(7,intV i),(8,intV k)],[]⟩) d.cons.length ⟨by omega,by simp⟩ ?_ ?_
  ·rintro k st hk ⟨hnk,rfl⟩
   obtain ⟨c,hc⟩:=Zaa hk
   unfold Zk9
   by_cases hcs:c.name=s
   ·simp (disch:=first|omega|(simp;done)|(simp;omega)) [hi,hd,hk,hc,hcs,-getElem?_pos]
    exact ⟨i,k,d,c,hd,hc,hcs,rfl⟩
   ·simp (disch:=first|omega|(simp;done)|(simp;omega)) [hi,hd,hk,hc,hcs,-getElem?_pos]
    intro j y hj hy
    by_cases hjk:j<k
    ·exact hnk j y hjk hy
    ·obtain rfl:j=k:=by omega
     rw [hc] at hy
     cases hy
     exact hcs
  ·rintro st ⟨hnk,rfl⟩
   unfold Zk9
   simp (disch:=first|omega|(simp;done)|(simp;omega)) [hi,hd,-getElem?_pos]
   intro j y hj hy c hc
   by_cases hji:j<i
   ·exact hno j y hji hy c hc
   ·obtain rfl:j=i:=by omega
    rw [hd] at hy
    cases hy
    obtain ⟨k,hk,he⟩:=List.getElem_of_mem hc
    exact hnk k c hk (by rw [List.getElem?_eq_getElem hk,he])
 ·rintro st ⟨hno,rfl⟩
  exfalso
  obtain ⟨d,hd,c,hc,hcs⟩:=hex
  obtain ⟨i,hi,he⟩:=List.getElem_of_mem hd
  exact hno i d hi (by rw [List.getElem?_eq_getElem hi,he]) c hc hcs
def ConsR (r:V × List Obj):Prop:=∃ (c:Nat)(t:Ty)(b:Bool),c≤4∧tyB 0 c t∧t.size≤1000∧r=(.tu [schV c t,ZaG b],[])
theorem Zf1 (ds:List DataD)(hds:fitDs ds)(s:Str)(hex:Zlu ds s):∃ r,ConsR r∧(K A).call 194 [Zal ds,strV s] []=some r:=by
 refine Zap _ (vf:=v194) (by kernel_rfl) rfl (by simp) ?_
 obtain ⟨_,⟨i,k,d,c,hd,hc,_,rfl⟩,hf⟩:=Zm9 (A:=A) ds hds.good s hex
 have hds1:=hds.1
 unfold v194
 obtain ⟨⟨hg1,hg2,hg3,hg4⟩,hff,hcn,hc2⟩:=hds.2 d (List.mem_of_getElem? hd)
 have hcm:=List.mem_of_getElem? hc
 have hfl:=hg4 c hcm
 have hi:=(List.getElem?_eq_some_iff.1 hd).1
 have hk:=(List.getElem?_eq_some_iff.1 hc).1
 obtain ⟨_,⟨u,hu1,hu2,rfl⟩,hr⟩:=Znp (A:=A) d (by omega) hcn
 simp (disch:=first|omega|(simp;done)|(simp;omega)) [hf,hd,hc,hr,hi,hk,-getElem?_pos]
 refine Zaf (fun j st=>∃ u:Ty,tyB 0 d.params.length u∧u.size≤5+j*30∧st=⟨[(0,Zal ds),(4,.sc (.ptr 64 0)),(6,intV i),(9,.sc (.ptr 1472 0)),(10,tysV c.fields),(11,intV (((c.fields.length-j:Nat):Int)-1))],
  [(64,some (.box [zi,zi,zs,zi,zi,.nil])),(1472,some (.box (wc u.row)))]⟩) c.fields.length ⟨u,hu1,by omega,by simp⟩ ?_ ?_
 ·rintro j st hj ⟨v,hv1,hv2,rfl⟩
  obtain ⟨a,ha⟩:∃ a,c.fields.length-j=a+1:=⟨c.fields.length-j-1,by omega⟩
  obtain ⟨f,hf2⟩:=Zaa (l:=c.fields) (i:=a) (by omega)
  obtain ⟨hfs,hfz⟩:=hff c hcm f (List.mem_of_getElem? hf2)
  have hbd:=Zjg (A:=A) d.params (by omega) f (by omega)
  have har:=Zep (A:=A) (Zcz d.params f) v
  have e1:((a+1:Nat):Int)-1=a:=by omega
  rw [ha,e1]
  have hbs:=ZeH d.params f
  unfold Zmp
  simp (disch:=first|omega|(simp;done)|(simp;omega)) [hi,hd,hf2,hbd,har,-getElem?_pos]
  refine ⟨_,ZiS (s:=[45,62]) (l:=[Zcz d.params f,v]) Zcq ?_,?_,?_⟩
  ·intro x hx
   simp only [List.mem_cons,List.not_mem_nil,or_false] at hx
   rcases hx with rfl|rfl
   ·exact Zjb hfs
   ·exact hv1
  ·rw [Ty.size_eq]
   show 1+([Zcz d.params f,v].map Ty.size).sum≤_
   simp
   omega
  ·have e3:(a:Int)=((c.fields.length-(j+1):Nat):Int):=by omega
   simp [e3]
 ·rintro st ⟨v,hv1,hv2,rfl⟩
  rw [Nat.sub_self]
  unfold Zmp
  simp (disch:=first|omega|(simp;done)|(simp;omega)) [hi,hd,-getElem?_pos]
  exact ⟨d.params.length,v,true,hg1,hv1,by omega,by simp [ZaI,Ty.row_eq]⟩
def Zqm (n m:Nat)(r:V × List Obj):Prop:=∃ (l:List Ty)(b:Bool),l.length≤2∧(∀ x∈l,tyS n x∧x.size≤m)∧r=(.tu [tysV l,ZaG b],[])
theorem Zmh {n m:Nat}(hm:m≤10000000)(hm1:1≤m)(ds:List DataD)(hds:fitDs ds)(s:Str)(hex:Zlu ds s)(args:List Ty)(hl:args.length≤1000)(ha:∀ x∈args,tyS n x∧x.size≤m):∃ r,Zqm n (20*m) r∧(K A).call 138 [Zal ds,strV s,tysV args] []=some r:=by
 refine Zap _ (vf:=v138) (by kernel_rfl) rfl (by simp) ?_
 obtain ⟨_,⟨i,k,d,c,hd,hc,_,rfl⟩,hf⟩:=Zm9 (A:=A) ds hds.good s hex
 have hds1:=hds.1
 unfold v138
 obtain ⟨⟨hg1,hg2,hg3,hg4⟩,hff,hcn,hc2⟩:=hds.2 d (List.mem_of_getElem? hd)
 have hcm:=List.mem_of_getElem? hc
 have hfl:=hc2 c hcm
 have hi:=(List.getElem?_eq_some_iff.1 hd).1
 have hk:=(List.getElem?_eq_some_iff.1 hc).1
 by_cases hn:args.length=d.params.length
 ·simp (disch:=first|omega|(simp;done)|(simp;omega)) [hf,hd,hc,hi,hk,hn,-getElem?_pos]
  refine Zaf (fun j st=>∃ l:List Ty,l.length=j∧(∀ x∈l,tyS n x∧x.size≤20*m)∧st=⟨[(0,Zal ds),(2,tysV args),(8,intV i),(11,.sc (.arr 1793 j)),(12,tysV c.fields),(13,intV j)],[(1793,some (.arr 5 (wr (Ty.rows l)) 0))]⟩) c.fields.length ⟨[],rfl,by simp,by simp⟩ ?_ ?_
  ·rintro j st hj ⟨l,hlj,hq,rfl⟩
   obtain ⟨f,hf2⟩:=Zaa hj
   obtain ⟨hfs,hfz⟩:=hff c hcm f (List.mem_of_getElem? hf2)
   have hbs:=ZeH d.params f
   have hbd:=Zjg (A:=A) d.params (by omega) f (by omega)
   have hop:=ZiZ (A:=A) args (by omega) (Zcz d.params f) (by omega)
   have hos:=ZeD hm1 (fun x hx=>(ha x hx).2) (Zcz d.params f)
   have hos2:(Zcz d.params f).size*m≤20*m:=Nat.mul_le_mul_right m (by omega)
   unfold ZnO
   simp (disch:=first|omega|(simp;done)|(simp;omega)) [hj,hd,hf2,hbd,hop,hlj,hi,-getElem?_pos]
   refine ⟨l++[Zdf args (Zcz d.params f)],by simp [hlj],?_,by simp⟩
   intro x hx
   rcases List.mem_append.1 hx with hx|hx
   ·exact hq x hx
   ·simp only [List.mem_singleton] at hx
    subst hx
    exact ⟨Zi4 (fun x hx=>(ha x hx).1) (by rw [hn];exact (Zjb hfs).mono (Nat.zero_le _) (Nat.le_refl _)),by omega⟩
  ·rintro st ⟨l,hlj,hq,rfl⟩
   unfold ZnO
   simp (disch:=first|omega|(simp;done)|(simp;omega)) [hlj,-getElem?_pos]
   exact ⟨l,true,by omega,hq,rfl⟩
 ·have hn':¬(args.length:Int)=d.params.length:=by omega
  simp (disch:=first|omega|(simp;done)|(simp;omega)) [hf,hd,hi,hn,hn',-getElem?_pos]
  exact ⟨[],false,by simp,by simp,by simp⟩
def numS (n:Nat):Str:=if h:n<10 then [UInt8.ofNat (48+n)] else numS (n / 10)++[UInt8.ofNat (48+n % 10)]
termination_by n
decreasing_by omega
def ZhX (k:Nat):Str:=118::numS k
noncomputable def vCount (l:List Str)(k:Nat):Nat:=match l with
 | []=>0
 | s::r=>(open Classical in if ∃ j,k≤j∧s=ZhX j then 1 else 0)+vCount r k
def Zl2 (taken:List Str):Nat→Nat→Nat→Nat
 | 0,k,_=>k
 | f+1,k,n=>if ZhX k∈taken then Zl2 taken f (k+1) n else if n=0 then k else Zl2 taken f (k+1) (n-1)
def freshK (n:Nat)(taken:List Str):Nat:=Zl2 taken (n+taken.length+1) 1 n
def Zde (n:Nat)(taken:List Str):Str:=ZhX (freshK n taken)
end Go.Vs.Tryz
namespace Go.Vs
open Go
section
variable {C:Ctx}{E:Nat→Option V}{L:Nat→Option Obj}{oid:Nat}
@[simp] theorem b_quo {k:IntKind} {a b:Int} (h:b≠0):binV .quo 0 (.sc (.c (.int k a))) (.sc (.c (.int k b)))=some (.sc (.c (.int k (k.wrap (a.tdiv b)))),[]):=by simp [binV,binW,ZaY,ZbS,h,Zc4]
@[simp] theorem x_slS {x:Opd} {lo hi:Option Opd}:Zae C E L oid (.slS x lo hi)=(match x.val C E with
 | .sc (.c (.str s))=>match Zax (hi.map (·.val C E)) s.length s.length with
  | none=>none
  | some h=>(Zax (lo.map (·.val C E)) 0 h).map fun l=>(.sc (.c (.str ((s.take h).drop l))),[])
 | _=>none):=rfl
end
end Go.Vs
namespace Go.Vs.Tryz
open Go Go.Vs
variable {A:Zac}
def digits:Str:=[48,49,50,51,52,53,54,55,56,57]
end Go.Vs.Tryz
