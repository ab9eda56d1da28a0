/- Types, walked: Has, leaves, Vars, Rigids, Replace, Close: what they find. -/
import Derived.Test.YtccmnfpbcmccpaaGreatDoorR5s
set_option linter.unusedSimpArgs false
set_option linter.unusedVariables false
set_option linter.deprecated false
set_option maxRecDepth 9999
set_option maxHeartbeats 4000000
namespace Go.Vs.Tryz
open Go Go.Vs
variable {A:Zab}
theorem ZrX (l:List Int)(n:Int)(h:l.length<=1073741824):(K A).call 211 [ZeQ l,intV n] []=some (Zae (decide (n∈l)),[]):=by
 refine fnO v211 ?_;unfold v211;simp(disch:=first|exact zd|fail);refine Zad (fun i s=>(∀j:Nat,j<i->l[j]?≠some n)/\s=⟨[(0,ZeQ l),(1,intV n),(5,intV i)],[]⟩) l.length ⟨by simp,by simp⟩ ?_ ?_
 .rintro i s hi ⟨hn,rfl⟩
  obtain⟨x,hx⟩:=Zaa hi;unfold Zuh;by_cases hxn:x=n
  .have hm:n∈l:=hxn▸qa hx
   simp(disch:=first|exact zd|fail) [hi,hx,hxn,hm,-getElem?_pos]
  .simp (disch:=first|exact zd|fail) [hi,hx,hxn,-getElem?_pos]
   intro j hj;by_cases hji:j<i
   .exact hn j hji
   .obtain rfl:j=i:=by omega
    rw[hx];simpa using hxn
 .rintro s ⟨hn,rfl⟩
  have hm:n∉l:=by
   intro hm;obtain⟨j,hj,he⟩:=qM hm;exact hn j hj (by rw[qh hj,he])
  unfold Zuh;simp(disch:=first|exact zd|fail) [hm]
def LeafQ (k:Int)(t:Ty)(out o2:List Ty):Prop:=(∀x∈out,x∈o2)/\leafIn k o2 t/\∀p:Ty->Prop,Ty.all p t->∀x∈o2,x∈out\/(p x/\x.kind=k)
def Zzx (k:Int)(t:Ty)(out:List Ty)(r:V×List Obj):Prop:=∃o2:List Ty,out.length<=o2.length/\o2.length<=out.length+t.size/\(∀x∈o2,x.size<=1073741824)/\LeafQ k t out o2/\r=(.sc (.arr 0 o2.length),[.arr 5 (wr (Ty.rows o2)) 0])
theorem ZlB (k:Int):∀(n:Nat)(t:Ty)(out:List Ty),t.size<=n->(∀x∈out,x.size<=1073741824)->out.length+t.size<=1073741824->
 ∃r,Zzx k t out r/\(K A).call 210 [.sc (.arr 0 out.length),tyV t,intV k] [.arr 5 (wr (Ty.rows out)) 0]=some r:=by
 intro n
 induction n with
 |zero=>
  intro t out ht;have:=t.size_pos;omega
 |succ n ih=>
  intro t out ht ho hn;have hal:=t.args_lt;have hpos:=t.size_pos;have hts:=t.size_eq;refine fnE v210 ?_;have kids:¬(t.kind=k/\t.args=[])->wp (K A) (.loop ZoT) (Zb5 2 (Zdt (K A) (.seq (.region [] [o 51 (.mv (tv 0)),o 6 (.mv (tv 51))] [] [6]) .ret) (Zeo true 1 [.tmp 6] (Zzx k t out))))
   ⟨[(0,.sc (.arr 0 out.length)),(2,intV k),(4,.sc (.ptr 64 0)),(8,intV 0)],[(0,some (.arr 5 (wr (Ty.rows out)) 0)),(64,some (.box (wc t.row)))]⟩:=by
   intro hnl;refine Zad (fun i s=>∃o2:List Ty,out.length<=o2.length/\o2.length<=out.length+((t.args.map Ty.size).take i).sum/\(∀x∈o2,x.size<=1073741824)/\
    (∀x∈out,x∈o2)/\(∀(j:Nat) y,j<i->t.args[j]?=some y->leafIn k o2 y)/\(∀p:Ty->Prop,Ty.all p t->∀x∈o2,x∈out\/(p x/\x.kind=k))/\
    s=⟨[(0,.sc (.arr 0 o2.length)),(2,intV k),(4,.sc (.ptr 64 0)),(8,intV i)],[(0,some (.arr 5 (wr (Ty.rows o2)) 0)),(64,some (.box (wc t.row)))]⟩) t.args.length
    ⟨out,by omega,by simp,ho,fun _ h=>h,by omega,fun p _ x hx=>.inl hx,by simp⟩ ?_ ?_
   .rintro i s hi ⟨o2,h0,h1,h2,q1,q2,q3,rfl⟩
    obtain⟨x,hx⟩:=Zaa hi;have hxm':=qa hx;have hxs:=Ty.arg_lt hxm';have hxm:(t.args.map Ty.size)[i]?=some x.size:=(by rw[qi,hx];rfl);have hsum:((t.args.map Ty.size).take (i+1)).sum=((t.args.map Ty.size).take i).sum+x.size:=(by rw[Zam hxm];simp);have hle:((t.args.map Ty.size).take (i+1)).sum<=(t.args.map Ty.size).sum:=ZcS;obtain⟨_,⟨o3,h3,h4,h5,⟨r1,r2,r3⟩,rfl⟩,hc⟩:=ih x o2 (by omega) h2 (by omega)
    unfold ZoT;simp(disch:=first|exact zd|fail) [hi,hx,hc,h3,-getElem?_pos];refine⟨o3,by omega,by omega,h5,fun y hy=>r1 y (q1 y hy),?_,?_,by simp⟩
    .intro j y hj hy
     by_cases hji:j<i
     .exact(q2 j y hji hy).mono r1
     .obtain rfl:j=i:=by omega
      rw[hx]at hy;cases hy;exact r2
    .intro p hp y hy
     rcases r3 p (hp.arg hxm') y hy with h|h
     .exact q3 p hp y h
     .exact .inr h
   .rintro s ⟨o2,h0,h1,h2,q1,q2,q3,rfl⟩
    rw[qf (by simp)]at h1;unfold ZoT;simp(disch:=first|exact zd|fail);refine⟨o2,h0,by omega,h2,⟨q1,Ty.all_iff.2 ⟨fun a b=>absurd ⟨a,b⟩ hnl,fun y hy=>?_⟩,q3⟩,rfl⟩;obtain⟨j,hj,he⟩:=qM hy;exact q2 j y hj (by rw[qh hj,he])
  unfold v210;by_cases h1:t.kind=k
  .by_cases h2:t.args=[]
   .simp (disch:=first|exact zd|fail) [h1,h2]
    refine Zad (fun i s=>(∀j:Nat,j<i->out[j]?≠some t)/\s=⟨[(0,.sc (.arr 0 out.length)),(4,.sc (.ptr 64 0)),(7,intV i)],[(0,some (.arr 5 (wr (Ty.rows out)) 0)),(64,some (.box (wc t.row)))]⟩) out.length ⟨by simp,by simp⟩ ?_ ?_
    .rintro i s hi ⟨hno,rfl⟩
     obtain⟨x,hx⟩:=Zaa hi;obtain⟨_,⟨b,hb,rfl⟩,hc⟩:=teq85 (A:=A) 1073741824 x t (ho x (qa hx)) (by omega);unfold Zpc;cases b with
     |true=>
      have hxt:x=t:=hb.1 rfl;simp(disch:=first|exact zd|fail) [hi,hx,hc,-getElem?_pos];refine⟨out,by omega,by omega,ho,⟨fun _ h=>h,Ty.all_iff.2 ⟨fun _ _=>hxt▸qa hx,fun y hy=>by rw[h2]at hy;cases hy⟩,fun p _ y hy=>.inl hy⟩,rfl⟩
     |false=>
      have hxt:x≠t:=fun h=>absurd (hb.2 h) (by simp);simp(disch:=first|exact zd|fail) [hi,hx,hc,-getElem?_pos];intro j hj;by_cases hji:j<i
      .exact hno j hji
      .obtain rfl:j=i:=by omega
       rw[hx];simpa using hxt
    .rintro s ⟨hno,rfl⟩
     unfold Zpc;have fin:Zzx k t out (.sc (.arr 0 (out++[t]).length),[.arr 5 (wr (Ty.rows (out++[t]))) 0]):=by
      refine⟨out++[t],by simp,by simp;omega,?_,⟨fun x hx=>by simp[hx],Ty.all_iff.2 ⟨fun _ _=>by simp,fun y hy=>by rw[h2]at hy;cases hy⟩,?_⟩,rfl⟩
      .intro x hx
       rcases ql.1 hx with hx|hx
       .exact ho x hx
       .simp only [qj] at hx
        subst hx;omega
      .intro p hp x hx
       rcases ql.1 hx with hx|hx
       .exact .inl hx
       .simp only [qj] at hx
        subst hx;exact .inr ⟨hp.one,h1⟩
     simp(disch:=first|exact zd|fail);simpa using fin
   .have h3:¬t.args.length=0:=fun h=>h2 (qL.1 h)
    simp(disch:=first|exact zd|fail) [h1,h2,h3];exact kids fun h=>h2 h.2
  .simp (disch:=first|exact zd|fail) [h1]
   exact kids fun h=>h1 h.1
variable {A:Zab}
theorem Zdk {l:List Ty}{i:Nat}{x:Ty}(h:l[i]?=some x):((l.take (i+1)).map Ty.size).sum=((l.take i).map Ty.size).sum+x.size:=by
 rw[Zam h];simp
theorem Zgs (l:List Ty)(i:Nat):((l.take i).map Ty.size).sum<=(l.map Ty.size).sum:=by
 rw[qau];exact ZcS
def ZyC (k:Int)(l:List Ty)(o2:List Ty):Prop:=o2.length<=(l.map Ty.size).sum/\(∀x∈o2,x.size<=1073741824)/\(∀t∈l,leafIn k o2 t)/\∀p:Ty->Prop,(∀t∈l,Ty.all p t)->∀x∈o2,p x/\x.kind=k
def LeafsI (k:Int)(l:List Ty)(i:Nat)(o2:List Ty):Prop:=o2.length<=((l.take i).map Ty.size).sum/\(∀x∈o2,x.size<=1073741824)/\(∀(j:Nat) t,j<i->l[j]?=some t->leafIn k o2 t)/\∀p:Ty->Prop,(∀t∈l,Ty.all p t)->∀x∈o2,p x/\x.kind=k
theorem LeafsI.next {k:Int}{l:List Ty}{i:Nat}{x:Ty}{o2 o3:List Ty}(h:LeafsI k l i o2)(hx:l[i]?=some x)(h2:o3.length<=o2.length+x.size)(h3:∀x∈o3,x.size<=1073741824)(q:LeafQ k x o2 o3):LeafsI k l (i+1) o3:=by
 obtain⟨a1,a2,a3,a4⟩:=h;obtain⟨r1,r2,r3⟩:=q;refine⟨by rw[Zdk hx];omega,h3,?_,?_⟩
 .intro j y hj hy
  by_cases hji:j<i
  .exact(a3 j y hji hy).mono r1
  .obtain rfl:j=i:=by omega
   rw[hx]at hy;cases hy;exact r2
 .intro p hp y hy
  rcases r3 p (hp x (qa hx)) y hy with h|h
  .exact a4 p hp y h
  .exact h
theorem LeafsI.all {k:Int}{l:List Ty}{o2:List Ty}(h:LeafsI k l l.length o2):ZyC k l o2:=by
 obtain⟨a1,a2,a3,a4⟩:=h;rw[qf (qe _)]at a1;refine⟨a1,a2,fun t ht=>?_,a4⟩;obtain⟨j,hj,he⟩:=qM ht;exact a3 j t hj (by rw[qh hj,he])
def IdsQ (n:Nat)(l:List Ty)(ids:List Int):Prop:=ids.length<=(l.map Ty.size).sum/\(∀t∈l,Zf0 ids t)/\∀i∈ids,0<=i/\i<n
def VarsR (n:Nat)(l:List Ty)(r:V×List Obj):Prop:=∃ids,IdsQ n l ids/\r=(ZeQ ids,[])
theorem ZkY {n c:Nat}(l:List Ty)(h:(l.map Ty.size).sum<=1073741824)(hS:∀t∈l,tyB n c t):∃r,VarsR n l r/\(K A).call 195 [tysV l] []=some r:=by
 have hlen:=Ty.len_le l;refine fnE v195 ?_;unfold v195;simp(disch:=first|exact zd|fail);refine Zad (fun i s=>∃o2,LeafsI 1 l i o2/\s=⟨[(0,tysV l),(3,.sc (.arr 129 o2.length)),(4,intV i)],[(129,some (.arr 5 (wr (Ty.rows o2)) 0))]⟩) l.length
  ⟨[],⟨by simp,by simp,by omega,by simp⟩,by simp⟩ ?_ ?_
 .rintro i s hi ⟨o2,hI,rfl⟩
  obtain⟨x,hx⟩:=Zaa hi;have hs1:=Zdk hx;have hs2:=Zgs l (i+1);obtain⟨_,⟨o3,h1,h2,h3,hq,rfl⟩,hc⟩:=ZlB (A:=A) 1 x.size x o2 (qe _) hI.2.1 (by have:=hI.1;omega);unfold Zob;simp(disch:=first|exact zd|fail) [hi,hx,hc,h1,-getElem?_pos];exact⟨o3,hI.next hx h2 h3 hq,by simp⟩
 .rintro s ⟨o1,hI,rfl⟩
  obtain⟨b1,b2,b3,b4⟩:=hI.all;unfold Zob;simp(disch:=first|exact zd|fail) [-getElem?_pos]
  refine Zad (fun i s=>∃ids:List Int,ids.length<=i/\(∀(j:Nat) y,j<i->o1[j]?=some y->y.id∈ids)/\(∀a∈ids,0<=a/\a<n)/\s=⟨[(3,.sc (.arr 129 o1.length)),(5,.sc (.arr 1153 ids.length)),(6,intV i)],[(129,some (.arr 5 (wr (Ty.rows o1)) 0)),(1153,some (.arr 1 (wr (Za0 ids)) 0))]⟩) o1.length ⟨[],by simp,by omega,by simp,by simp[Za0]⟩ ?_ ?_
  .rintro i s hi ⟨ids,hi2,q1,q2,rfl⟩
   obtain⟨x,hx⟩:=Zaa hi;have hc:=ZrX (A:=A) ids x.id (by omega);obtain⟨hp,hk⟩:=b4 (tyN n c) hS x (qa hx);obtain⟨hp1,hp2,_⟩:=hp.1 hk;unfold Zvm;by_cases hm:x.id∈ids
   .simp (disch:=first|exact zd|fail) [hi,hx,hc,hm,elOk,-getElem?_pos]
    refine⟨ids,by omega,?_,q2,by simp⟩;intro j y hj hy;by_cases hji:j<i
    .exact q1 j y hji hy
    .obtain rfl:j=i:=by omega
     rw[hx]at hy;cases hy;exact hm
   .simp (disch:=first|exact zd|fail) [hi,hx,hc,hm,elOk,-getElem?_pos]
    refine⟨ids++[x.id],by simp;omega,?_,?_,by simp[Za0,Zhi,wr]⟩
    .intro j y hj hy
     by_cases hji:j<i
     .exact ql.2 (.inl (q1 j y hji hy))
     .obtain rfl:j=i:=by omega
      rw[hx]at hy;cases hy;simp
    .intro a ha
     rcases ql.1 ha with ha|ha
     .exact q2 a ha
     .simp only [qj] at ha
      subst ha;exact⟨hp1,hp2⟩
  .rintro s ⟨ids,hi2,q1,q2,rfl⟩
   unfold Zvm;simp(disch:=first|exact zd|fail) [-getElem?_pos];refine⟨ids,⟨by omega,fun t ht=>?_,q2⟩,rfl⟩;have hcov:∀u:Ty,leafIn 1 o1 u->tyB n c u->Zf0 ids u:=by
    intro u
    induction u using Ty.ind with
    |h u ih=>
     intro g1 g2;refine Ty.all_iff.2 ⟨fun hk=>?_,fun y hy=>ih y hy (Ty.all.arg g1 hy) (g2.arg hy)⟩;have hmem:=Ty.all.one g1 hk (g2.one.1 hk).2.2;obtain⟨j,hj,he⟩:=qM hmem;exact q1 j u hj (by rw[qh hj,he])
   exact hcov t (b3 t ht) (hS t ht)
def RigsR (l:List Ty)(r:V×List Obj):Prop:=∃o2,ZyC 3 l o2/\r=(tysV o2,[])
theorem ZlG (l:List Ty)(h:(l.map Ty.size).sum<=1073741824):∃r,RigsR l r/\(K A).call 186 [tysV l] []=some r:=by
 have hlen:=Ty.len_le l;refine fnE v186 ?_;unfold v186;simp(disch:=first|exact zd|fail);refine Zad (fun i s=>∃o2,LeafsI 3 l i o2/\s=⟨[(0,tysV l),(3,.sc (.arr 129 o2.length)),(4,intV i)],[(129,some (.arr 5 (wr (Ty.rows o2)) 0))]⟩) l.length
  ⟨[],⟨by simp,by simp,by omega,by simp⟩,by simp⟩ ?_ ?_
 .rintro i s hi ⟨o2,hI,rfl⟩
  obtain⟨x,hx⟩:=Zaa hi;have hs1:=Zdk hx;have hs2:=Zgs l (i+1);obtain⟨_,⟨o3,h1,h2,h3,hq,rfl⟩,hc⟩:=ZlB (A:=A) 3 x.size x o2 (qe _) hI.2.1 (by have:=hI.1;omega);unfold Zur;simp(disch:=first|exact zd|fail) [hi,hx,hc,h1,-getElem?_pos];exact⟨o3,hI.next hx h2 h3 hq,by simp⟩
 .rintro s ⟨o1,hI,rfl⟩
  unfold Zur;simp(disch:=first|exact zd|fail) [-getElem?_pos];exact⟨o1,hI.all,rfl⟩
variable {A:Zab}
theorem Zw7 {s:List AssD}{t:Ty}{i:Nat}{x:AssD}(h:s[i]?=some x)(hx:x.id=t.id)(hn:∀(j:Nat) y,j<i->s[j]?=some y->y.id≠t.id):ZlA s t=x.ty:=by
 unfold ZlA;have:s.find? (fun a=>decide (a.id=t.id))=some x:=by
  rw[List.find?_eq_some_iff_getElem];obtain⟨hi,he⟩:=qd.1 h;refine⟨by simpa using hx,i,hi,he,fun j hj=>?_⟩;have:=hn j _ hj (qh (by omega));simpa using this
 rw[this]
theorem Zre {s:List AssD}{t:Ty}(hn:∀(j:Nat) y,j<s.length->s[j]?=some y->y.id≠t.id):ZlA s t=t:=by
 unfold ZlA;have:s.find? (fun a=>decide (a.id=t.id))=none:=by
  rw[List.find?_eq_none];intro x hx;obtain⟨j,hj,rfl⟩:=qM hx;simpa using hn j _ hj (qh hj)
 rw[this]
theorem ZdV (s:List AssD)(hs:s.length<=1073741824)(t:Ty):t.size<=1073741824->(K A).call 191 [tyV t,ZfA s] []=some (tyV (ZcI s t),[]):=by
 induction t using Ty.ind with
 |h t ih=>
 intro ht;have hal:=t.args_lt;refine fnO v191 ?_;unfold v191;by_cases h1:t.kind=1
 .have hm:ZcI s t=ZlA s t:=Ty.map_some (by unfold Zgl;rw [if_pos h1])
  simp(disch:=first|exact zd|fail) [h1];refine Zad (fun i st=>(∀(j:Nat) y,j<i->s[j]?=some y->y.id≠t.id)/\st=⟨[(1,ZfA s),(2,.sc (.ptr 64 0)),(4,.sc (.ptr 128 0)),(5,intV i)],[(64,some (.box (wc t.row))),(128,some (.box [zi,zs,zi,zi,.nil]))]⟩) s.length ⟨by omega,by simp⟩ ?_ ?_
  .rintro i st hi ⟨hn,rfl⟩
   obtain⟨x,hx⟩:=Zaa hi;unfold Zoy;by_cases hxt:x.id=t.id
   .have hf:=Zw7 hx hxt hn
    simp(disch:=first|exact zd|fail) [hi,hx,hxt,hm,hf,-getElem?_pos]
   .simp (disch:=first|exact zd|fail) [hi,hx,hxt,-getElem?_pos]
    intro j y hj hy;by_cases hji:j<i
    .exact hn j y hji hy
    .obtain rfl:j=i:=by omega
     rw[hx]at hy;cases hy;exact hxt
  .rintro st ⟨hn,rfl⟩
   have hf:=Zre hn;unfold Zoy;simp(disch:=first|exact zd|fail) [hm,hf,-getElem?_pos]
 .have hm:ZcI s t=.mk t.kind t.name t.id t.home (t.args.map (ZcI s)):=Ty.map_none (by unfold Zgl;rw [if_neg h1])
  simp(disch:=first|exact zd|fail) [h1];simp(disch:=first|exact zd|fail) [Ty.row_eq t];refine Zad (fun i st=>st=⟨[(1,ZfA s),(2,.sc (.ptr 64 0)),(4,.sc (.ptr 128 0)),(6,.sc (.ptr 1984 0)),(7,intV i)],
   [(64,some (.box [.c (.int .i64 t.kind),.c (.str t.name),.c (.int .i64 t.id),.c (.int .i64 t.home),.c (.sl (Ty.rows t.args))])),(128,some (.box [zi,zs,zi,zi,.nil])),
     (1984,some (.box [.c (.int .i64 t.kind),.c (.str t.name),.c (.int .i64 t.id),.c (.int .i64 t.home),.arr 2177 i])),(2177,some (.arr 5 (wr (Ty.rows ((t.args.map (ZcI s)).take i))) 0))]⟩) t.args.length (by simp) ?_ ?_
  .rintro i st hi rfl
   obtain⟨x,hx⟩:=Zaa hi;have hxs:=Ty.arg_lt (qa hx);have hc:=ih x (qa hx) (by omega);have hmx:(t.args.map (ZcI s))[i]?=some (ZcI s x):=(by rw[qi,hx];rfl);have hlen:((t.args.map (ZcI s)).take i).length=i:=(by simp;omega);unfold Zue;simp(disch:=first|exact zd|fail) [hi,hx,hc,hlen,Zam hmx,-getElem?_pos]
  .rintro st rfl
   have htk:(t.args.map (ZcI s)).take t.args.length=t.args.map (ZcI s):=qf (by simp);unfold Zue;simp(disch:=first|exact zd|fail) [htk,hm,Zgq,-getElem?_pos]
theorem Zku {l m:List Int}(t:Ty):Zf0 l t->Zf0 m t->Zf0 (l.filter fun i=>decide (i∈m)) t:=by
 induction t using Ty.ind with
 |h t ih=>
  intro h1 h2;exact Ty.all_iff.2 ⟨fun hk=>qaJ.2 ⟨Ty.all.one h1 hk,by simpa using Ty.all.one h2 hk⟩,fun x hx=>ih x hx (Ty.all.arg h1 hx) (Ty.all.arg h2 hx)⟩
def SchR (m:Nat)(r:V×List Obj):Prop:=∃(c:Nat)(t:Ty),c<=m/\tyB 0 c t/\t.size<=m/\r=(schV c t,[])
theorem ZwW {n:Nat}(t:Ty)(ids:List Int)(h:t.size<=1073741824)(hi:ids.length<=1073741824)(hS:tyS n t)(hv:Zf0 ids t):∃r,SchR t.size r/\(K A).call 187 [tyV t,ZeQ ids] []=some r:=by
 refine fnE v187 ?_;obtain⟨_,⟨v,⟨g1,g2,g3⟩,rfl⟩,hc⟩:=ZkY (A:=A) (n:=n) (c:=0) [t] (by simpa using h) (fun u hu=>by rw[qj.1 hu];exact hS);have hn:Ty.rows [t]=[t.row]:=by simp[Ty.rows]
 have hc:(K A).call 195 [.sc (.c (.sl [t.row]))] []=some (ZeQ v,[]):=by rw[<-hn];exact hc
 have g1':v.length<=t.size:=by simpa using g1
 unfold v187;simp(disch:=first|exact zd|fail) [hc];refine Zad (fun i st=>∃s:List AssD,s.length<=i/\(∀(j:Nat) x,j<i->v[j]?=some x->x∈ids->∃a∈s,a.id=x)/\(∀a∈s,tyB 0 s.length a.ty/\a.ty.size<=1)/\
  st=⟨[(1,ZeQ ids),(2,.sc (.ptr 64 0)),(4,.sc (.ptr 128 0)),(5,ZeQ v),(6,.sc (.arr 449 s.length)),(7,intV i)],[(64,some (.box (wc t.row))),(128,some (.box [zi,zi,zs,zi,zi,.nil])),(449,some (.arr 6 (wr (Zcw s)) 0))]⟩) v.length ⟨[],by simp,by omega,by simp,by simp⟩ ?_ ?_
 .rintro i st hi2 ⟨s,hs,q1,q2,rfl⟩
  obtain⟨x,hx⟩:=Zaa hi2;have hc2:=ZrX (A:=A) ids x hi;have hb:=Zk7 (A:=A) s.length;have he:(W.c (.int .i64 x)::wc (Ty.mk 2 [] s.length 0 []).row)=wc (ZbY ⟨x,.mk 2 [] s.length 0 []⟩):=rfl;unfold Zuq;by_cases hm:x∈ids
  .simp (disch:=first|exact zd|fail) [hi2,hx,hc2,hm,hb,he,-getElem?_pos]
   refine⟨s++[⟨x,.mk 2 [] s.length 0 []⟩],by simp;omega,?_,?_,by simp⟩
   .intro j y hj hy hyi
    by_cases hji:j<i
    .obtain ⟨a,ha,hai⟩:=q1 j y hji hy hyi
     exact⟨a,by simp[ha],hai⟩
    .obtain rfl:j=i:=by omega
     rw[hx]at hy;cases hy;exact⟨_,ql.2 (.inr (qj.2 rfl)),rfl⟩
   .intro a ha
    rcases ql.1 ha with ha|ha
    .exact⟨(q2 a ha).1.mono (qe 0) (by simp),(q2 a ha).2⟩
    .simp only [qj] at ha
     subst ha;exact⟨Ziu (by simp),by simp[Ty.size_leaf]⟩
  .simp (disch:=first|exact zd|fail) [hi2,hx,hc2,hm,-getElem?_pos]
   refine⟨s,by omega,?_,q2,by simp⟩;intro j y hj hy hyi;by_cases hji:j<i
   .exact q1 j y hji hy hyi
   .obtain rfl:j=i:=by omega
    rw[hx]at hy;cases hy;exact absurd hyi hm
 .rintro st ⟨s,hs,q1,q2,rfl⟩
  have hc3:=ZdV (A:=A) s (by omega) t h;have hS0:tyB 0 s.length (ZcI s t):=ZmW (l:=v.filter fun i=>decide (i∈ids)) (fun i hi=>by
   obtain⟨hi1,hi2⟩:=qaJ.1 hi;obtain⟨j,hj,he⟩:=qM hi1;exact q1 j i hj (by rw[qh hj,he]) (by simpa using hi2)) (fun a ha=>(q2 a ha).1) hS (Zku t (g2 t (by simp)) hv)
  have hsz:=Zgx (qe 1) (fun a ha=>(q2 a ha).2) t;unfold Zuq;simp(disch:=first|exact zd|fail) [hc3,-getElem?_pos];exact⟨s.length,ZcI s t,by omega,hS0,by omega,by simp[Zbu,Ty.row_eq]⟩
theorem rig_of {ids:List Int}{o2:List Ty}(h:∀x∈o2,x.home=99->900+x.id∈ids)(t:Ty):tyS 0 t->rigB t->leafIn 3 o2 t->ZzA ids t:=by
 induction t using Ty.ind with
 |h t ih=>
  intro h1 h2 h3;refine Ty.all_iff.2 ⟨fun hk=>⟨(Ty.all.one h2 hk).1,h t (Ty.all.one h3 hk.1 (h1.one.2.2.1 hk.1)) hk.2⟩,fun x hx=>ih x hx (h1.arg hx) (Ty.all.arg h2 hx) (Ty.all.arg h3 hx)⟩
theorem ZvV (t:Ty)(h:t.size<=1073741824)(hS:tyS 0 t)(hB:rigB t):∃r,SchR t.size r/\(K A).call 137 [tyV t] []=some r:=by
 refine fnE v137 ?_;obtain⟨_,⟨v,⟨g1,g2,g3,g4⟩,rfl⟩,hc⟩:=ZlG (A:=A) [t] (by simpa using h);have hn:Ty.rows [t]=[t.row]:=by simp[Ty.rows]
 have hc:(K A).call 186 [.sc (.c (.sl [t.row]))] []=some (tysV v,[]):=by rw[<-hn];exact hc
 have g1':v.length<=t.size:=by simpa using g1
 have hth:=ZAH (A:=A) t h hB;unfold v137;simp(disch:=first|exact zd|fail) [hc];refine Zad (fun i st=>∃ids:List Int,ids.length<=i/\(∀(j:Nat) x,j<i->v[j]?=some x->x.home=99->900+x.id∈ids)/\(∀a∈ids,a<2000)/\
  st=⟨[(1,.sc (.ptr 64 0)),(2,.sc (.ptr 128 0)),(3,.sc (.arr 193 ids.length)),(4,tysV v),(5,intV i)],[(64,some (.box (wc t.row))),(128,some (.box [zi,zi,zs,zi,zi,.nil])),(193,some (.arr 1 (wr (Za0 ids)) 0))]⟩) v.length ⟨[],by simp,by omega,by simp,by simp[Za0]⟩ ?_ ?_
 .rintro i st hi2 ⟨ids,hs,q1,q2,rfl⟩
  obtain⟨x,hx⟩:=Zaa hi2;unfold ZrH;by_cases hm:x.home=99
  .have hxk:=g4 (fun u=>u.kind=3/\u.home=99->0<=u.id/\u.id<=1000) (fun u hu=>by rw [qj.1 hu];exact hB) x (qa hx)
   obtain⟨ha,hb⟩:=hxk.1 ⟨hxk.2,hm⟩;simp(disch:=first|exact zd|fail) [hi2,hx,hm,-getElem?_pos];refine⟨ids++[900+x.id],by simp;omega,?_,?_,by simp[Za0,Zhi,wr]⟩
   .intro j y hj hy hyi
    by_cases hji:j<i
    .exact ql.2 (.inl (q1 j y hji hy hyi))
    .obtain rfl:j=i:=by omega
     rw[hx]at hy;cases hy;simp
   .intro a ha
    rcases ql.1 ha with ha|ha
    .exact q2 a ha
    .simp only [qj] at ha
     omega
  .simp (disch:=first|exact zd|fail) [hi2,hx,hm,-getElem?_pos]
   refine⟨ids,by omega,?_,q2,by simp⟩;intro j y hj hy hyi;by_cases hji:j<i
   .exact q1 j y hji hy hyi
   .obtain rfl:j=i:=by omega
    rw[hx]at hy;cases hy;exact absurd hyi hm
 .rintro st ⟨ids,hs,q1,q2,rfl⟩
  have hrig:ZzA ids t:=rig_of (o2:=v) (fun x hx hh=>by
   obtain⟨j,hj,he⟩:=qM hx;exact q1 j x hj (by rw[qh hj,he]) hh) t hS hB (g3 t (by simp))
  have hts:=Zp8 t;obtain⟨k1,k2⟩:=ZzU (l:=ids) (n:=2000) q2 t hS hrig;obtain⟨_,⟨c,u,hcm,hu,hus,rfl⟩,hcl⟩:=ZwW (A:=A) (ZeA t) ids (by omega) (by omega) k1 k2;unfold ZrH;simp(disch:=first|exact zd|fail) [hth,hcl,-getElem?_pos];exact⟨c,u,by omega,hu,by omega,rfl⟩
variable {A:Zab}
def fitD (d:DataD):Prop:=Zqp d/\(∀c∈d.cons,∀f∈c.fields,tyS 0 f/\f.size<=20)/\ZfI d.name d.params.length/\∀c∈d.cons,c.fields.length<=2
def fitDs (ds:List DataD):Prop:=ds.length<=100/\∀d∈ds,fitD d
theorem fitDs.good {ds:List DataD}(h:fitDs ds):ZjQ ds:=⟨h.1,fun d hd=>(h.2 d hd).1⟩
theorem Zs0 {l:List Ty}(h:∀x∈l,x.size<=1):(l.map Ty.size).sum<=l.length:=by
 have:=Zfd h;omega
def TyR (n m:Nat)(r:V×List Obj):Prop:=∃t:Ty,tyS n t/\t.size<=m/\r=(tyV t,[])
def TyC (c m:Nat)(r:V×List Obj):Prop:=∃t:Ty,tyB 0 c t/\t.size<=m/\r=(tyV t,[])
theorem Zro (d:DataD)(hp:d.params.length<=100)(hcn:ZfI d.name d.params.length):∃r,TyC d.params.length (1+d.params.length) r/\(K A).call 217 [.ag (wc (ZaF d))] []=some r:=by
 refine fnE v217 ?_;unfold v217;simp(disch:=first|exact zd|fail);refine Zad (fun i st=>∃l:List Ty,l.length=i/\(∀x∈l,tyB 0 d.params.length x/\x.size<=1)/\st=⟨[(1,.sc (.ptr 64 0)),(2,.sc (.ptr 128 0)),(3,.sc (.arr 193 i)),(4,intV i)],[(64,some (.box (wc (ZaF d)))),(128,some (.box [zi,zs,zi,zi,.nil])),(193,some (.arr 5 (wr (Ty.rows l)) 0))]⟩) d.params.length ⟨[],rfl,by simp,by simp⟩ ?_ ?_
 .rintro i st hi ⟨l,hl,q,rfl⟩
  have hb:=Zk7 (A:=A) i;unfold ZuQ;simp(disch:=first|exact zd|fail) [hi,hb,hl,-getElem?_pos];refine⟨l++[.mk 2 [] i 0 []],by simp[hl],?_,by simp⟩;intro x hx;rcases ql.1 hx with hx|hx
  .exact q x hx
  .simp only [qj] at hx
   subst hx;exact⟨Ziu hi,by simp[Ty.size_leaf]⟩
 .rintro st ⟨l,hl,q,rfl⟩
  have hc:=Zrc (A:=A) d.name l (by omega);have hs:=Zs0 fun x hx=>(q x hx).2;unfold ZuQ;simp(disch:=first|exact zd|fail) [hl,hc,-getElem?_pos];refine⟨_,ZnX (by rw[hl];exact hcn) fun x hx=>(q x hx).1,?_,rfl⟩;rw[Ty.size_eq];show 1+(l.map Ty.size).sum<=_;omega
def ZrL (ds:List DataD)(s:Str):Prop:=∃d∈ds,∃c∈d.cons,c.name=s
def FindR (ds:List DataD)(s:Str)(r:V×List Obj):Prop:=∃(i k:Nat)(d:DataD)(c:ConD),ds[i]?=some d/\d.cons[k]?=some c/\c.name=s/\r=(.tu [intV i,intV k,Zae true],[])
theorem Zsp (ds:List DataD)(hds:ZjQ ds)(s:Str)(hex:ZrL ds s):∃r,FindR ds s r/\(K A).call 189 [Zar ds,strV s] []=some r:=by
 have hds1:=hds.1;refine fnE v189 ?_;unfold v189;simp(disch:=first|exact zd|fail);refine Zad (fun i st=>(∀(j:Nat) d,j<i->ds[j]?=some d->∀c∈d.cons,c.name≠s)/\st=⟨[(0,Zar ds),(1,strV s),(7,intV i)],[]⟩) ds.length ⟨by omega,by simp⟩ ?_ ?_
 .rintro i st hi ⟨hno,rfl⟩
  obtain⟨d,hd⟩:=Zaa hi;have hg:=hds.2 d (qa hd);have hg3:=hg.2.2.1;unfold Zyv;simp(disch:=first|exact zd|fail) [hi,hd,-getElem?_pos];refine Zad (fun k st=>(∀(j:Nat) c,j<k->d.cons[j]?=some c->c.name≠s)/\st=⟨[(0,Zar ds),(1,strV s),(7,intV i),(8,intV k)],[]⟩) d.cons.length ⟨by omega,by simp⟩ ?_ ?_
  .rintro k st hk ⟨hnk,rfl⟩
   obtain⟨c,hc⟩:=Zaa hk;unfold Zoh;by_cases hcs:c.name=s
   .simp (disch:=first|exact zd|fail) [hi,hd,hk,hc,hcs,-getElem?_pos]
    exact⟨i,k,d,c,hd,hc,hcs,rfl⟩
   .simp (disch:=first|exact zd|fail) [hi,hd,hk,hc,hcs,-getElem?_pos]
    intro j y hj hy;by_cases hjk:j<k
    .exact hnk j y hjk hy
    .obtain rfl:j=k:=by omega
     rw[hc]at hy;cases hy;exact hcs
  .rintro st ⟨hnk,rfl⟩
   unfold Zoh;simp(disch:=first|exact zd|fail) [hi,hd,-getElem?_pos];intro j y hj hy c hc;by_cases hji:j<i
   .exact hno j y hji hy c hc
   .obtain rfl:j=i:=by omega
    rw[hd]at hy;cases hy;obtain⟨k,hk,he⟩:=qM hc;exact hnk k c hk (by rw[qh hk,he])
 .rintro st ⟨hno,rfl⟩
  exfalso;obtain⟨d,hd,c,hc,hcs⟩:=hex;obtain⟨i,hi,he⟩:=qM hd;exact hno i d hi (by rw[qh hi,he]) c hc hcs
def ConsR (r:V×List Obj):Prop:=∃(c:Nat)(t:Ty)(b:Bool),c<=4/\tyB 0 c t/\t.size<=1000/\r=(.tu [schV c t,Zae b],[])
theorem Zjf (ds:List DataD)(hds:fitDs ds)(s:Str)(hex:ZrL ds s):∃r,ConsR r/\(K A).call 194 [Zar ds,strV s] []=some r:=by
 refine fnE v194 ?_;obtain⟨_,⟨i,k,d,c,hd,hc,_,rfl⟩,hf⟩:=Zsp (A:=A) ds hds.good s hex;have hds1:=hds.1;unfold v194;obtain⟨⟨hg1,hg2,hg3,hg4⟩,hff,hcn,hc2⟩:=hds.2 d (qa hd);have hcm:=qa hc;have hfl:=hg4 c hcm;have hi:=(qd.1 hd).1;have hk:=(qd.1 hc).1;obtain⟨_,⟨u,hu1,hu2,rfl⟩,hr⟩:=Zro (A:=A) d (by omega) hcn;simp(disch:=first|exact zd|fail) [hf,hd,hc,hr,hi,hk,-getElem?_pos]
 refine Zad (fun j st=>∃u:Ty,tyB 0 d.params.length u/\u.size<=5+j*30/\st=⟨[(0,Zar ds),(4,.sc (.ptr 64 0)),(6,intV i),(9,.sc (.ptr 1472 0)),(10,tysV c.fields),(11,intV (((c.fields.length-j:Nat):Int)-1))],
  [(64,some (.box [zi,zi,zs,zi,zi,.nil])),(1472,some (.box (wc u.row)))]⟩) c.fields.length ⟨u,hu1,by omega,by simp⟩ ?_ ?_
 .rintro j st hj ⟨v,hv1,hv2,rfl⟩
  obtain⟨a,ha⟩:∃a,c.fields.length-j=a+1:=⟨c.fields.length-j-1,by omega⟩;obtain⟨f,hf2⟩:=Zaa (l:=c.fields) (i:=a) (by omega);obtain⟨hfs,hfz⟩:=hff c hcm f (qa hf2);have hbd:=Zun (A:=A) d.params (by omega) f (by omega);have har:=ZiX (A:=A) (ZdZ d.params f) v;have e1:((a+1:Nat):Int)-1=a:=by omega
  rw[ha,e1];have hbs:=ZjW d.params f;unfold Zvd;simp(disch:=first|exact zd|fail) [hi,hd,hf2,hbd,har,-getElem?_pos];refine⟨_,ZnX (s:=[45,62]) (l:=[ZdZ d.params f,v]) Zdm ?_,?_,?_⟩
  .intro x hx
   simp only[qz,qU,or_false]at hx;rcases hx with rfl|rfl
   .exact ZvC hfs
   .exact hv1
  .rw [Ty.size_eq]
   show 1+([ZdZ d.params f,v].map Ty.size).sum<=_;simp;omega
  .have e3:(a:Int)=((c.fields.length-(j+1):Nat):Int):=by omega
   simp[e3]
 .rintro st ⟨v,hv1,hv2,rfl⟩
  rw[qaV];unfold Zvd;simp(disch:=first|exact zd|fail) [hi,hd,-getElem?_pos];exact⟨d.params.length,v,true,hg1,hv1,by omega,by simp[Zbu,Ty.row_eq]⟩
def Zzo (n m:Nat)(r:V×List Obj):Prop:=∃(l:List Ty)(b:Bool),l.length<=2/\(∀x∈l,tyS n x/\x.size<=m)/\r=(.tu [tysV l,Zae b],[])
theorem ZvU {n m:Nat}(hm:m<=10000000)(hm1:1<=m)(ds:List DataD)(hds:fitDs ds)(s:Str)(hex:ZrL ds s)(args:List Ty)(hl:args.length<=1000)(ha:∀x∈args,tyS n x/\x.size<=m):∃r,Zzo n (20*m) r/\(K A).call 138 [Zar ds,strV s,tysV args] []=some r:=by
 refine fnE v138 ?_;obtain⟨_,⟨i,k,d,c,hd,hc,_,rfl⟩,hf⟩:=Zsp (A:=A) ds hds.good s hex;have hds1:=hds.1;unfold v138;obtain⟨⟨hg1,hg2,hg3,hg4⟩,hff,hcn,hc2⟩:=hds.2 d (qa hd);have hcm:=qa hc;have hfl:=hc2 c hcm;have hi:=(qd.1 hd).1;have hk:=(qd.1 hc).1;by_cases hn:args.length=d.params.length
 .simp (disch:=first|exact zd|fail) [hf,hd,hc,hi,hk,hn,-getElem?_pos]
  refine Zad (fun j st=>∃l:List Ty,l.length=j/\(∀x∈l,tyS n x/\x.size<=20*m)/\st=⟨[(0,Zar ds),(2,tysV args),(8,intV i),(11,.sc (.arr 1793 j)),(12,tysV c.fields),(13,intV j)],[(1793,some (.arr 5 (wr (Ty.rows l)) 0))]⟩) c.fields.length ⟨[],rfl,by simp,by simp⟩ ?_ ?_
  .rintro j st hj ⟨l,hlj,hq,rfl⟩
   obtain⟨f,hf2⟩:=Zaa hj;obtain⟨hfs,hfz⟩:=hff c hcm f (qa hf2);have hbs:=ZjW d.params f;have hbd:=Zun (A:=A) d.params (by omega) f (by omega);have hop:=Zsv (A:=A) args (by omega) (ZdZ d.params f) (by omega);have hos:=Zj4 hm1 (fun x hx=>(ha x hx).2) (ZdZ d.params f);have hos2:(ZdZ d.params f).size*m<=20*m:=qA m (by omega);unfold ZuM
   simp(disch:=first|exact zd|fail) [hj,hd,hf2,hbd,hop,hlj,hi,-getElem?_pos];refine⟨l++[Zfo args (ZdZ d.params f)],by simp[hlj],?_,by simp⟩;intro x hx;rcases ql.1 hx with hx|hx
   .exact hq x hx
   .simp only [qj] at hx
    subst hx;exact⟨Zs5 (fun x hx=>(ha x hx).1) (by rw[hn];exact(ZvC hfs).mono (qad _) (qe _)),by omega⟩
  .rintro st ⟨l,hlj,hq,rfl⟩
   unfold ZuM;simp(disch:=first|exact zd|fail) [hlj,-getElem?_pos];exact⟨l,true,by omega,hq,rfl⟩
 .have hn':¬(args.length:Int)=d.params.length:=by omega
  simp(disch:=first|exact zd|fail) [hf,hd,hi,hn,hn',-getElem?_pos];exact⟨[],false,by simp,by simp,by simp⟩
def numS (n:Nat):Str:=if h:n<10 then [UInt8.ofNat (48+n)] else numS (n / 10)++[UInt8.ofNat (48+n % 10)]
termination_by n
decreasing_by omega
theorem ZdQ {n:Nat}(h:n<10):numS n=[UInt8.ofNat (48+n)]:=by rw[numS,dif_pos h]
theorem ZdF {n:Nat}(h:¬n<10):numS n=numS (n / 10)++[UInt8.ofNat (48+n % 10)]:=by rw[numS,dif_neg h]
theorem ZoC (n:Nat):1<=(numS n).length:=by
 grind[ZdQ,ZdF]
theorem ZvX {a b:Nat}(ha:a<10)(hb:b<10)(h:UInt8.ofNat (48+a)=UInt8.ofNat (48+b)):a=b:=by
 grind[UInt8.toNat_ofNat']
theorem ZwG:∀(n m:Nat),numS n=numS m->n=m:=by
 intro n
 induction n using Nat.strongRecOn with
 |ind n ih=>
  intro m h;by_cases hn:n<10;grind[ZdQ,ZvX,ZdF,qv]
  .by_cases hm:m<10
   grind
   .rw [ZdF hn,ZdF hm] at h
    obtain⟨h1,h2⟩:=List.append_inj' h (by simp);have h3:=ih (n / 10) (by omega) _ h1;have h4:=ZvX (Nat.mod_lt _ (by omega)) (Nat.mod_lt _ (by omega)) (by simpa using h2);omega
theorem Zkk (n:Nat):∀c∈numS n,48<=c.toNat/\c.toNat<=57:=by
 induction n using Nat.strongRecOn<;>grind[ZdQ,UInt8.toNat_ofNat',ZdF]
theorem Zfi (n:Nat):∀k,n<10 ^ k->1<=k->(numS n).length<=k:=by
 induction n using Nat.strongRecOn with
 |ind n ih=>
  intro k hk h1;by_cases hn:n<10;grind[ZdQ]
  .obtain ⟨k,rfl⟩:∃ j,k=j+1:=⟨k-1,by omega⟩
   have hk1:1<=k:=by
    grind
   have:=ih (n / 10) (by omega) k (by omega) hk1;grind[ZdF]
def Zbj (k:Nat):Str:=118::numS k
theorem Zt5 {a b:Nat}(h:Zbj a=Zbj b):a=b:=ZwG a b (by simpa[Zbj]using h)
noncomputable def ZdE (l:List Str)(k:Nat):Nat:=match l with
 |[]=>0
 |s::r=>(open Classical in if ∃j,k<=j/\s=Zbj j then 1 else 0)+ZdE r k
theorem ZeU (l:List Str)(k:Nat):ZdE l k<=l.length:=by
 induction l with
 |nil=>simp[ZdE]
 |cons s r ih=>simp only[ZdE,qG];split<;>omega
theorem Zem (l:List Str)(k:Nat):ZdE l (k+1)<=ZdE l k:=by
 induction l with
 |nil=>simp[ZdE]
 |cons s r ih=>
  simp only[ZdE];split
  .rename_i h
   obtain⟨j,h1,h2⟩:=h;rw[if_pos ⟨j,by omega,h2⟩];omega
  omega
theorem Zip {l:List Str}{k:Nat}(h:Zbj k∈l):ZdE l (k+1)<ZdE l k:=by
 induction l with
 |nil=>grind
 |cons s r ih=>
  have hm:=Zem r k;simp only[ZdE];rcases qz.1 h with rfl|h
  .rw[if_neg,if_pos ⟨k,qe _,rfl⟩]<;>grind[Zt5]
  .have:=ih h
   split
   .rename_i h3
    obtain⟨j,h1,h2⟩:=h3;rw[if_pos ⟨j,by omega,h2⟩];omega
   omega
def Zc8 (taken:List Str):Nat->Nat->Nat->Nat
 |0,k,_=>k
 |f+1,k,n=>if Zbj k∈taken then Zc8 taken f (k+1) n else if n=0 then k else Zc8 taken f (k+1) (n-1)
theorem Zcx (taken:List Str):∀f k n,k<=Zc8 taken f k n
 |0,k,n=>qe _
 |f+1,k,n=>by
  simp only[Zc8];split
  .exact qu (by omega) (Zcx taken f (k+1) n)
  .split
   simp
   .exact qu (by omega) (Zcx taken f (k+1) (n-1))
theorem Zit (taken:List Str):∀f k n,Zc8 taken f k n<=k+f
 |0,k,n=>by simp[Zc8]
 |f+1,k,n=>by
  simp only[Zc8];have h1:=Zit taken f (k+1) n;have h2:=Zit taken f (k+1) (n-1);grind
theorem ZgQ (taken:List Str):∀f k n,n+ZdE taken k<f->Zbj (Zc8 taken f k n)∉taken
 |0,k,n,h=>by omega
 |f+1,k,n,h=>by
  simp only[Zc8];split
  .rename_i hm
   exact ZgQ taken f (k+1) n (by grind[Zip])
  .rename_i hm
   split;omega
   .exact ZgQ taken f (k+1) (n-1) (by grind[Zem])
def ZaW (n:Nat)(taken:List Str):Nat:=Zc8 taken (n+taken.length+1) 1 n
def Zat (n:Nat)(taken:List Str):Str:=Zbj (ZaW n taken)
theorem ZfU (n:Nat)(taken:List Str):ZaW n taken<=n+taken.length+2:=by
 grind[Zit,ZaW]
theorem Zbn (n:Nat)(taken:List Str):Zat n taken∉taken:=ZgQ taken _ _ _ (by grind[ZeU])
end Go.Vs.Tryz
namespace Go.Vs
open Go
section
variable {C:Ctx}{E:Nat->Option V}{L:Nat->Option Obj}{oid:Nat}
@[simp] theorem b_quo {k:IntKind} {a b:Int} (h:b≠0):binV .quo 0 (.sc (.c (.int k a))) (.sc (.c (.int k b)))=some (.sc (.c (.int k (k.wrap (a.tdiv b)))),[]):=by simp[binV,binW,Zbq,Zc6,h,Zft]
@[simp] theorem x_slS {x:Opd} {lo hi:Option Opd}:Zah C E L oid (.slS x lo hi)=(match x.val C E with
 |.sc (.c (.str s))=>match Zaz (hi.map (·.val C E)) s.length s.length with
  |none=>none
  |some h=>(Zaz (lo.map (·.val C E)) 0 h).map fun l=>(.sc (.c (.str ((s.take h).drop l))),[])
 |_=>none):=rfl
end
end Go.Vs
namespace Go.Vs.Tryz
open Go Go.Vs
variable {A:Zab}
def digits:Str:=[48,49,50,51,52,53,54,55,56,57]
theorem ZpF (n:Nat)(h0:n≠0)(h:n<=1073741824):(K A).call 73 [intV n] []=some (strV (numS n),[]):=by
 refine fnO v73 ?_;have h0':¬(n:Int)=0:=by omega
 have hneg:¬(n:Int)<0:=by omega
 have hlen:=Zfi n 10 (by omega) (by omega);unfold v73;simp(disch:=first|exact zd|fail) [h0,h0',-getElem?_pos];refine Zad (fun i s=>∃(k:Nat) (t:Str),k<=n/\t.length=i/\(if k=0 then numS n=t else numS n=numS k++t)/\s=⟨[(0,intV n),(3,strV t),(4,intV k)],[]⟩) (numS n).length ⟨n,[],qe _,rfl,by simp[h0],by first | rfl | simp⟩ ?_ ?_
 .rintro i s hi ⟨k,t,hk,ht,he,rfl⟩
  have hk0:k≠0:=by
   rintro rfl;rw[if_pos rfl]at he;rw[he]at hi;omega
  rw[if_neg hk0]at he;have hk0':¬(k:Int)=0:=by omega
  obtain⟨d,hd,hd10⟩:∃d,d=k % 10/\d<10:=⟨k % 10,rfl,Nat.mod_lt _ (by omega)⟩;have hmod:(k:Int).tmod 10=(d:Int):=by rw[qB (by omega)];omega
  have hdiv:(k:Int).tdiv 10=((k / 10:Nat):Int):=by rw[qt (by omega)];omega
  have hb1:Zaz (some (intV ((d:Int)+1))) 10 10=some (d+1):=natBelow_cast (k:=.i64) (n:=d+1) (by omega);have hb2:Zaz (some (intV (d:Int))) 0 (d+1)=some d:=natBelow_cast (k:=.i64) (n:=d) (by omega);have hdr:∀d:Nat,d<10->List.drop d (48::List.take d [49,50,51,52,53,54,55,56,57])=[UInt8.ofNat (48+d)]:=by decide
  have hdd:=hdr d hd10;have hnd:¬(d:Int)<0:=by omega
  have hnext:if k / 10=0 then numS n=UInt8.ofNat (48+d)::t else numS n=numS (k / 10)++UInt8.ofNat (48+d)::t:=by
   by_cases h10:k<10
   .rw [if_pos (by omega),he,ZdQ h10,hd,qQ h10]
    rfl
   .rw [if_neg (by omega),he,ZdF h10,hd]
    simp
  have htl:t.length<=10:=by omega
  unfold ZBa;simp(disch:=first|exact zd|fail) [hk0,hk0',hnd,hmod,hdiv,hb1,hb2,hdd,-getElem?_pos];exact⟨k / 10,by omega,UInt8.ofNat (48+d)::t,by simp[ht],hnext,by simp⟩
 .rintro s ⟨k,t,hk,ht,he,rfl⟩
  have hk0:k=0:=by
   by_cases hk0:k=0
   .exact hk0
   .rw [if_neg hk0] at he
    have:=ZoC k;rw[he]at ht;simp at ht;rw[ht]at this;simp at this
  subst hk0;rw[if_pos rfl]at he;unfold ZBa;simp(disch:=first|exact zd|fail) [hneg,he,-getElem?_pos]
theorem Zrs (n:Nat)(taken:List Str)(hn:n<=268435456)(ht:taken.length<=268435456):(K A).call 110 [intV n,Za3 taken] []=some (strV (Zat n taken),[]):=by
 refine fnO v110 ?_;have hmx:(if (0:Int)>(n:Int) then (0:Int) else (n:Int))=n:=by rw[if_neg (by omega)]
 have hge:=Zcx taken (n+taken.length+1) 1 n;have hle:=ZfU n taken;have hnot:=Zbn n taken;have hkdef:ZaW n taken=Zc8 taken (n+taken.length+1) 1 n:=rfl;unfold v110;simp(disch:=first|exact zd|fail) [hmx,-getElem?_pos]
 refine Zad (fun i s=>∃j:Nat,j<=n/\i<=n+taken.length/\Zc8 taken (n+taken.length+1-i) (1+i) j=ZaW n taken/\j+ZdE taken (1+i)<n+taken.length+1-i/\s=⟨[(0,intV j),(1,Za3 taken),(5,intV ((i:Int)+1))],[]⟩) (ZaW n taken-1)
  ⟨n,qe _,by omega,rfl,by have:=ZeU taken 1;simp only[qa7,qa8];omega,by simp⟩ ?_ ?_
 .rintro i s hi ⟨j,hj,hin,hf,hlt,rfl⟩
  have hnum:=ZpF (A:=A) (i+1) (by omega) (by omega);have hlen:=Zfi (i+1) 10 (by omega) (by omega);have hhas:=ZmU (A:=A) taken (Zbj (i+1)) (by omega);have hv:Zbj (i+1)=118::numS (i+1):=rfl;obtain⟨f,hfe⟩:∃f,n+taken.length+1-i=f+1:=⟨n+taken.length-i,by omega⟩;rw[hfe,qbk 1 i,Zc8]at hf;rw[hfe,qbk 1 i]at hlt;rw[show(((i+1:Nat):Int))=(i:Int)+1 by omega]at hnum;rw[hv]at hhas;unfold Zu9
  by_cases hm:Zbj (i+1)∈taken
  .rw [if_pos hm] at hf
   have hm':=hm;rw[hv]at hm';have hcl:=Zip hm;simp(disch:=first|exact zd|fail) [hnum,hhas,hm',-getElem?_pos];exact⟨j,hj,by omega,by rw[show n+taken.length-i=f by omega,show 1+(i+1)=i+1+1 by omega];exact hf,by rw[show 1+(i+1)=i+1+1 by omega];omega,by simp⟩
  .rw [if_neg hm] at hf
   have hm':=hm;rw[hv]at hm';have hj0:j≠0:=by
    rintro rfl;rw[if_pos rfl]at hf;omega
   rw[if_neg hj0]at hf;have hj0':¬(j:Int)=0:=(by omega);have hcm:=Zem taken (i+1);have hsub:IntKind.i64.wrap ((j:Int)-1)=((j-1:Nat):Int):=(by rw[ZgJ _ (by omega)];omega);simp(disch:=first|exact zd|fail) [hnum,hhas,hm',hj0,hj0',hsub,-getElem?_pos];exact⟨j-1,by omega,by omega,by rw[show n+taken.length-i=f by omega,show 1+(i+1)=i+1+1 by omega];exact hf,by rw[show 1+(i+1)=i+1+1 by omega];omega,by simp⟩
 .rintro s ⟨j,hj,hin,hf,hlt,rfl⟩
  have hk1:ZaW n taken-1+1=ZaW n taken:=by omega
  have hnum:=ZpF (A:=A) (ZaW n taken) (by omega) (by omega);have hlen:=Zfi (ZaW n taken) 10 (by omega) (by omega);have hhas:=ZmU (A:=A) taken (Zbj (ZaW n taken)) (by omega);have hv:Zbj (ZaW n taken)=118::numS (ZaW n taken):=rfl;have hm:Zbj (ZaW n taken)∉taken:=hnot;obtain⟨f,hfe⟩:∃f,n+taken.length+1-(ZaW n taken-1)=f+1:=⟨n+taken.length-(ZaW n taken-1),by omega⟩;rw[hfe,qbk 1 _,hk1,Zc8,if_neg hm]at hf
  have hj0:j=0:=by
   by_cases hj0:j=0
   .exact hj0
   .rw [if_neg hj0] at hf
    have:=Zcx taken f (ZaW n taken+1) (j-1);omega
  subst hj0;rw[hv]at hhas hm;rw[show(((ZaW n taken-1:Nat):Int))+1=(ZaW n taken:Int) by omega];unfold Zu9;simp(disch:=first|exact zd|fail) [hnum,hhas,hm,Zat,Zbj,-getElem?_pos]
def headEq (a b:Exp):Prop:=a.kind=b.kind/\a.num=b.num/\a.ty=b.ty/\a.kids.length=b.kids.length/\a.arms.length=b.arms.length
def ZiC (a b:Exp):Prop:=∀(i:Nat) p q,a.arms[i]?=some p->b.arms[i]?=some q->p.1.con=q.1.con/\p.1.vars.length=q.1.vars.length
def varEq (left right:List Str)(s t:Str):Prop:=rlast left s=rlast right t/\(0<=rlast left s\/s=t)
def alphaF (a:Exp)(l:List (Exp->List Str->List Str->Prop))(b:Exp)(left right:List Str):Prop:=
 headEq a b/\(a.kind=1->varEq left right a.name b.name)/\(a.kind=2->a.name=b.name)/\
  (a.kind≠1->a.kind≠2->ZiC a b/\∀(i:Nat) f y,l[i]?=some f->b.children[i]?=some y->f y (left++a.bound i) (right++b.bound i))
def alphaP (a:Exp):Exp->List Str->List Str->Prop:=a.fold alphaF
def news (taken:List Str)(n k:Nat):List Str:=(List.range k).map fun j=>Zat (n+j) taken
@[simp] theorem news_len (taken:List Str) (n k:Nat):(news taken n k).length=k:=by simp[news]
def canonF (taken:List Str)(e:Exp)(l:List (List Str->List Str->Exp))(old names:List Str):Exp:=
 if e.kind=1 then (if 0<=rlast old e.name then .mk e.kind e.pos ((names[(rlast old e.name).toNat]?).getD []) e.num e.kids e.arms e.ty else e)
 else
  let cs:=l.zipIdx.map fun p=>p.1 (old++e.bound p.2) (names++news taken old.length (e.bound p.2).length)
  .mk e.kind e.pos (if e.kind=4\/e.kind=6\/e.kind=7 then Zat old.length taken else e.name) e.num (cs.take e.kids.length)
   (List.zipWith (fun a c=>(⟨a.1.pos,a.1.con,news taken old.length a.1.vars.length⟩,c)) e.arms (cs.drop e.kids.length)) e.ty
def ZyG (taken:List Str)(e:Exp):List Str->List Str->Exp:=e.fold (canonF taken)
def Zys (taken:List Str)(e:Exp)(old names:List Str):List Exp:=e.children.zipIdx.map fun p=>ZyG taken p.1 (old++e.bound p.2) (names++news taken old.length (e.bound p.2).length)
@[simp] theorem canonC_len (taken:List Str) (e:Exp) (old names:List Str):(Zys taken e old names).length=e.kids.length+e.arms.length:=by simp[Zys]
theorem ZqW {e x:Exp}{i:Nat}(hk:e.kind≠1)(hx:e.children[i]?=some x){s:Str}(hs:s∈Zaf x):s∈e.bound i\/s∈Zaf e:=by
 by_cases hb:s∈e.bound i;grind
 .refine .inr ?_
  rw[ZcP,if_neg hk,<-Zli];have key:∀n,n<=e.children.length->i<n->s∈outP e n:=by
   intro n
   induction n with
   |zero=>simp
   |succ n ih=>
    intro hn hi;obtain⟨y,hy⟩:=Zaa (l:=e.children) (i:=n) (by omega);rw[ZiE hy,Zeu];grind
  grind
theorem ZaM {e:Exp}{i:Nat}:e.bound i=if e.kind=4\/e.kind=7\/(e.kind=6/\i=1) then [e.name] else if e.kind=8/\0<i then ((e.arms[i-1]?).map fun a=>a.1.vars).getD [] else []:=rfl
section
variable (k p:Int)(n:Str)(m:Int)(ks:List Exp)(l:List (ArmH×Exp))(t:Ty)
theorem Znd:(Exp.mk k p n m ks l t).kind=k:=rfl
theorem Zyy:(Exp.mk k p n m ks l t).pos=p:=rfl
theorem ZnR:(Exp.mk k p n m ks l t).name=n:=rfl
theorem Zyp:(Exp.mk k p n m ks l t).num=m:=rfl
theorem Ze2:(Exp.mk k p n m ks l t).kids=ks:=rfl
theorem ZcL:(Exp.mk k p n m ks l t).arms=l:=rfl
theorem ty_mk:(Exp.mk k p n m ks l t).ty=t:=rfl
theorem Zfj (i:Nat):(Exp.mk k p n m ks l t).bound i=if k=4\/k=7\/(k=6/\i=1) then [n] else if k=8/\0<i then ((l[i-1]?).map fun a=>a.1.vars).getD [] else []:=rfl
theorem ZaC:(Exp.mk k p n m ks l t).children=ks++l.map (·.2):=rfl
end
theorem headEq.symm {a b:Exp}(h:headEq a b):headEq b a:=⟨h.1.symm,h.2.1.symm,h.2.2.1.symm,h.2.2.2.1.symm,h.2.2.2.2.symm⟩
theorem headEq.children {a b:Exp}(h:headEq a b):a.children.length=b.children.length:=by
 rw[a.children_len,b.children_len,h.2.2.2.1,h.2.2.2.2]
def Zha (e:Exp)(cs:List Exp):Exp:=.mk e.kind 0 e.name e.num (cs.take e.kids.length) (List.zipWith (fun(a:ArmH×Exp) c=>((⟨0,a.1.con,a.1.vars⟩:ArmH),c)) e.arms (cs.drop e.kids.length)) e.ty
def Zan (e:Exp):Exp:=e.fold Zha
theorem ZdT (e:Exp):Zan e=Zha e (e.children.map Zan):=Exp.fold_eq _ e
theorem ZtB {α β γ:Type}{f:α->β->γ}{l:List α}{m:List β}(h:l.length=m.length)(g:γ->β)(hg:∀a b,g (f a b)=b):(List.zipWith f l m).map g=m:=by
 refine qC fun j=>?_;rw[qi,qah];by_cases hj:j<l.length
 .rw [qh hj,qh (show j<m.length by omega)]
  simp[hg]
 .rw [qY (by omega),qY (by omega)]
  rfl
theorem ZbM (e:Exp):(Zan e).kind=e.kind/\(Zan e).name=e.name/\(Zan e).num=e.num/\(Zan e).ty=e.ty/\(Zan e).kids.length=e.kids.length/\(Zan e).arms.length=e.arms.length/\
 (Zan e).children=e.children.map Zan/\(∀i:Nat,(Zan e).arms[i]?=(e.arms[i]?).map fun(a:ArmH×Exp)=>((⟨0,a.1.con,a.1.vars⟩:ArmH),Zan a.2)):=by
 have hl:(e.children.map Zan).length=e.kids.length+e.arms.length:=by simp
 have hkl:((e.children.map Zan).take e.kids.length).length=e.kids.length:=by rw[qK,hl];omega
 have hdl:((e.children.map Zan).drop e.kids.length).length=e.arms.length:=by rw[qV,hl];omega
 have hal:(List.zipWith (fun(a:ArmH×Exp) (c:Exp)=>((⟨0,a.1.con,a.1.vars⟩:ArmH),c)) e.arms ((e.children.map Zan).drop e.kids.length)).length=e.arms.length:=by
  rw[List.length_zipWith,hdl];omega
 rw[ZdT];refine⟨rfl,rfl,rfl,rfl,by simp only[Zha,Ze2,hkl],by simp only[Zha,ZcL,hal],?_,?_⟩
 .simp only [Zha,ZaC]
  rw[ZtB (g:=fun(x:ArmH×Exp)=>x.2) (by rw[hdl]) (fun _ _=>rfl),qaY]
 .intro i
  simp only[Zha,ZcL,qah];have hd:(e.children.map Zan).drop e.kids.length=e.arms.map fun a=>Zan a.2:=by
   simp[Exp.children]
  rw[hd,qi];cases e.arms[i]?<;>rfl
theorem ZmH (e:Exp):(Zan e).weight=e.weight:=by
 induction e using Exp.ind with
 |h e ih=>
  obtain⟨h1,h2,h3,h4,h5,h6,h7,h8⟩:=ZbM e;rw[Exp.weight_eq,e.weight_eq,h7,qam];have ha:((Zan e).arms.map fun a=>a.1.vars.length)=e.arms.map fun a=>a.1.vars.length:=by
   refine qC fun i=>?_;rw[qi,qi,h8];cases e.arms[i]?<;>rfl
  have hc:e.children.map (Exp.weight∘Zan)=e.children.map Exp.weight:=qJ fun x hx=>ih x hx;rw[ha,hc]
def canonT (e:Exp)(taken:List Str):Exp:=ZyG (taken++Zaf e) (Zan e) [] []
end Go.Vs.Tryz
