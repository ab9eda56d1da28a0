/- Types, walked: Has, leaves, Vars, Rigids, Replace, Close: what they find. -/
import Derived.Test.YtccmnfpbcmccpaaGreatDoorR4p
set_option linter.unusedSimpArgs false
set_option linter.unusedVariables false
set_option linter.deprecated false
set_option maxHeartbeats 4000000
set_option maxRecDepth 10000
namespace Go.Vs.Tryz
open Go Go.Vs
variable {A:Af}
theorem Ls (l:List Int)(n:Int)(h:l.length<=687194767360):(K A).call 211 [Cl l,intV n] []=some (Ac (decide (n∈l)),[]):=by
 refine fnO v211 ?_;unfold v211;simp(disch:=try exact zd);refine Ak (fun i s=>(∀j:Nat,j<i->l[j]?≠some n)/\s=⟨[(0,Cl l),(1,intV n),(5,intV i)],[]⟩) l.length ⟨by simp,by simp⟩ ?_ ?_
 .rintro i s hi ⟨hn,rfl⟩
  obtain⟨x,hx⟩:=Ae hi;unfold MT;by_cases hxn:x=n
  .have hm:n∈l:=hxn▸qc hx
   simp(disch:=try exact zd) [hi,hx,hxn,hm,-getElem?_pos]
  .simp (disch:=try exact zd) [hi,hx,hxn,-getElem?_pos]
   intro j hj;by_cases hji:j<i
   .exact hn j hji
   .obtain rfl:j=i:=by omega
    rw[hx];simpa using hxn
 .rintro s ⟨hn,rfl⟩
  have hm:n∉l:=by
   intro hm;obtain⟨j,hj,he⟩:=qO hm;exact hn j hj (by rw[qi hj,he])
  unfold MT;simp(disch:=try exact zd) [hm]
def TX (k:Int)(t:Ty)(out o2:List Ty):Prop:=(∀x∈out,x∈o2)/\leafIn k o2 t/\∀p:Ty->Prop,Ty.all p t->∀x∈o2,x∈out\/(p x/\x.kind=k)
def Ll (k:Int)(t:Ty)(out:List Ty)(r:V×List Obj):Prop:=∃o2:List Ty,out.length<=o2.length/\o2.length<=out.length+t.size/\(∀x∈o2,x.size<=687194767360)/\TX k t out o2/\r=(.sc (.arr 0 o2.length),[.arr 5 (wr (Ty.rows o2)) 0])
theorem UK (k:Int):∀(n:Nat)(t:Ty)(out:List Ty),t.size<=n->(∀x∈out,x.size<=687194767360)->out.length+t.size<=687194767360->
 ∃r,Ll k t out r/\(K A).call 210 [.sc (.arr 0 out.length),tyV t,intV k] [.arr 5 (wr (Ty.rows out)) 0]=some r:=by
 intro n
 induction n with
 |zero=>
  intro t out ht;have:=t.size_pos;omega
 |succ n ih=>
  intro t out ht ho hn;have hal:=t.args_lt;have hpos:=t.size_pos;have hts:=t.size_eq;refine fnE v210 ?_;have kids:¬(t.kind=k/\t.args=[])->wp (K A) (.loop IS) (Bx 2 (BN (K A) (.seq (.region [] [o 51 (.mv (tv 0)),o 6 (.mv (tv 51))] [] [6]) .ret) (BP true 1 [.tmp 6] (Ll k t out))))
   ⟨[(0,.sc (.arr 0 out.length)),(2,intV k),(4,.sc (.ptr 64 0)),(8,intV 0)],[(0,some (.arr 5 (wr (Ty.rows out)) 0)),(64,some (.box (wc t.row)))]⟩:=by
   intro hnl;refine Ak (fun i s=>∃o2:List Ty,out.length<=o2.length/\o2.length<=out.length+((t.args.map Ty.size).take i).sum/\(∀x∈o2,x.size<=687194767360)/\
    (∀x∈out,x∈o2)/\(∀(j:Nat) y,j<i->t.args[j]?=some y->leafIn k o2 y)/\(∀p:Ty->Prop,Ty.all p t->∀x∈o2,x∈out\/(p x/\x.kind=k))/\
    s=⟨[(0,.sc (.arr 0 o2.length)),(2,intV k),(4,.sc (.ptr 64 0)),(8,intV i)],[(0,some (.arr 5 (wr (Ty.rows o2)) 0)),(64,some (.box (wc t.row)))]⟩) t.args.length
    ⟨out,by omega,by simp,ho,fun _ h=>h,by omega,fun p _ x hx=>.inl hx,by simp⟩ ?_ ?_
   .rintro i s hi ⟨o2,h0,h1,h2,q1,q2,q3,rfl⟩
    obtain⟨x,hx⟩:=Ae hi;have hxm':=qc hx;have hxs:=Ty.arg_lt hxm';have hxm:(t.args.map Ty.size)[i]?=some x.size:=(by rw[qq,hx];rfl);have hsum:((t.args.map Ty.size).take (i+1)).sum=((t.args.map Ty.size).take i).sum+x.size:=(by rw[Bh hxm];simp);have hle:((t.args.map Ty.size).take (i+1)).sum<=(t.args.map Ty.size).sum:=DS;obtain⟨_,⟨o3,h3,h4,h5,⟨r1,r2,r3⟩,rfl⟩,hc⟩:=ih x o2 (by omega) h2 (by omega);unfold IS
    simp(disch:=try exact zd) [hi,hx,hc,h3,-getElem?_pos];refine⟨o3,by omega,by omega,h5,fun y hy=>r1 y (q1 y hy),?_,?_,by simp⟩
    .intro j y hj hy
     by_cases hji:j<i
     .exact(q2 j y hji hy).mono r1
     .obtain rfl:j=i:=by omega
      rw[hx]at hy;cases hy;exact r2
    .intro p hp y hy
     rcases r3 p (hp.arg hxm') y hy with h|h
     .exact q3 p hp y h
     .exact .inr h
   .rintro s ⟨o2,h0,h1,h2,q1,q2,q3,rfl⟩
    rw[qj (by simp)]at h1;unfold IS;simp(disch:=try exact zd);refine⟨o2,h0,by omega,h2,⟨q1,Ty.all_iff.2 ⟨fun a b=>absurd ⟨a,b⟩ hnl,fun y hy=>?_⟩,q3⟩,rfl⟩;obtain⟨j,hj,he⟩:=qO hy;exact q2 j y hj (by rw[qi hj,he])
  unfold v210;by_cases h1:t.kind=k
  .by_cases h2:t.args=[]
   .simp (disch:=try exact zd) [h1,h2]
    refine Ak (fun i s=>(∀j:Nat,j<i->out[j]?≠some t)/\s=⟨[(0,.sc (.arr 0 out.length)),(4,.sc (.ptr 64 0)),(7,intV i)],[(0,some (.arr 5 (wr (Ty.rows out)) 0)),(64,some (.box (wc t.row)))]⟩) out.length ⟨by simp,by simp⟩ ?_ ?_
    .rintro i s hi ⟨hno,rfl⟩
     obtain⟨x,hx⟩:=Ae hi;obtain⟨_,⟨b,hb,rfl⟩,hc⟩:=SM (A:=A) 687194767360 x t (ho x (qc hx)) (by omega);unfold JX;cases b with
     |true=>
      have hxt:x=t:=hb.1 rfl;simp(disch:=try exact zd) [hi,hx,hc,-getElem?_pos];refine⟨out,by omega,by omega,ho,⟨fun _ h=>h,Ty.all_iff.2 ⟨fun _ _=>hxt▸qc hx,fun y hy=>by rw[h2]at hy;cases hy⟩,fun p _ y hy=>.inl hy⟩,rfl⟩
     |false=>
      have hxt:x≠t:=fun h=>absurd (hb.2 h) (by simp);simp(disch:=try exact zd) [hi,hx,hc,-getElem?_pos];intro j hj;by_cases hji:j<i
      .exact hno j hji
      .obtain rfl:j=i:=by omega
       rw[hx];simpa using hxt
    .rintro s ⟨hno,rfl⟩
     unfold JX;have fin:Ll k t out (.sc (.arr 0 (out++[t]).length),[.arr 5 (wr (Ty.rows (out++[t]))) 0]):=by
      refine⟨out++[t],by simp,by simp;omega,?_,⟨fun x hx=>by simp[hx],Ty.all_iff.2 ⟨fun _ _=>by simp,fun y hy=>by rw[h2]at hy;cases hy⟩,?_⟩,rfl⟩
      .intro x hx
       rcases qp.1 hx with hx|hx
       .exact ho x hx
       .simp only [qk] at hx
        subst hx;omega
      .intro p hp x hx
       rcases qp.1 hx with hx|hx
       .exact .inl hx
       .simp only [qk] at hx
        subst hx;exact .inr ⟨hp.one,h1⟩
     simp(disch:=try exact zd);simpa using fin
   .have h3:¬t.args.length=0:=fun h=>h2 (qN.1 h)
    simp(disch:=try exact zd) [h1,h2,h3];exact kids fun h=>h2 h.2
  .simp (disch:=try exact zd) [h1]
   exact kids fun h=>h1 h.1
variable {A:Af}
theorem Lk {l:List Ty}{i:Nat}{x:Ty}(h:l[i]?=some x):((l.take (i+1)).map Ty.size).sum=((l.take i).map Ty.size).sum+x.size:=by
 rw[Bh h];simp
theorem Sm (l:List Ty)(i:Nat):((l.take i).map Ty.size).sum<=(l.map Ty.size).sum:=by
 rw[qaE];exact DS
def UF (k:Int)(l:List Ty)(o2:List Ty):Prop:=o2.length<=(l.map Ty.size).sum/\(∀x∈o2,x.size<=687194767360)/\(∀t∈l,leafIn k o2 t)/\∀p:Ty->Prop,(∀t∈l,Ty.all p t)->∀x∈o2,p x/\x.kind=k
def LeafsI (k:Int)(l:List Ty)(i:Nat)(o2:List Ty):Prop:=o2.length<=((l.take i).map Ty.size).sum/\(∀x∈o2,x.size<=687194767360)/\(∀(j:Nat) t,j<i->l[j]?=some t->leafIn k o2 t)/\∀p:Ty->Prop,(∀t∈l,Ty.all p t)->∀x∈o2,p x/\x.kind=k
theorem LeafsI.next {k:Int}{l:List Ty}{i:Nat}{x:Ty}{o2 o3:List Ty}(h:LeafsI k l i o2)(hx:l[i]?=some x)(h2:o3.length<=o2.length+x.size)(h3:∀x∈o3,x.size<=687194767360)(q:TX k x o2 o3):LeafsI k l (i+1) o3:=by
 obtain⟨a1,a2,a3,a4⟩:=h;obtain⟨r1,r2,r3⟩:=q;refine⟨by rw[Lk hx];omega,h3,?_,?_⟩
 .intro j y hj hy
  by_cases hji:j<i
  .exact(a3 j y hji hy).mono r1
  .obtain rfl:j=i:=by omega
   rw[hx]at hy;cases hy;exact r2
 .intro p hp y hy
  rcases r3 p (hp x (qc hx)) y hy with h|h
  .exact a4 p hp y h
  .exact h
theorem LeafsI.all {k:Int}{l:List Ty}{o2:List Ty}(h:LeafsI k l l.length o2):UF k l o2:=by
 obtain⟨a1,a2,a3,a4⟩:=h;rw[qj (qg _)]at a1;refine⟨a1,a2,fun t ht=>?_,a4⟩;obtain⟨j,hj,he⟩:=qO ht;exact a3 j t hj (by rw[qi hj,he])
def IdsQ (n:Nat)(l:List Ty)(ids:List Int):Prop:=ids.length<=(l.map Ty.size).sum/\(∀t∈l,Ee ids t)/\∀i∈ids,0<=i/\i<n
def Ve (n:Nat)(l:List Ty)(r:V×List Obj):Prop:=∃ids,IdsQ n l ids/\r=(Cl ids,[])
theorem IH {n c:Nat}(l:List Ty)(h:(l.map Ty.size).sum<=687194767360)(hS:∀t∈l,tyB n c t):∃r,Ve n l r/\(K A).call 195 [tysV l] []=some r:=by
 have hlen:=Ty.len_le l;refine fnE v195 ?_;unfold v195;simp(disch:=try exact zd);refine Ak (fun i s=>∃o2,LeafsI 1 l i o2/\s=⟨[(0,tysV l),(3,.sc (.arr 129 o2.length)),(4,intV i)],[(129,some (.arr 5 (wr (Ty.rows o2)) 0))]⟩) l.length
  ⟨[],⟨by simp,by simp,by omega,by simp⟩,by simp⟩ ?_ ?_
 .rintro i s hi ⟨o2,hI,rfl⟩
  obtain⟨x,hx⟩:=Ae hi;have hs1:=Lk hx;have hs2:=Sm l (i+1);obtain⟨_,⟨o3,h1,h2,h3,hq,rfl⟩,hc⟩:=UK (A:=A) 1 x.size x o2 (qg _) hI.2.1 (by have:=hI.1;omega);unfold I1;simp(disch:=try exact zd) [hi,hx,hc,h1,-getElem?_pos];exact⟨o3,hI.next hx h2 h3 hq,by simp⟩
 .rintro s ⟨o1,hI,rfl⟩
  obtain⟨b1,b2,b3,b4⟩:=hI.all;unfold I1;simp(disch:=try exact zd) [-getElem?_pos];refine Ak (fun i s=>∃ids:List Int,ids.length<=i/\(∀(j:Nat) y,j<i->o1[j]?=some y->y.id∈ids)/\(∀a∈ids,0<=a/\a<n)/\s=⟨[(3,.sc (.arr 129 o1.length)),(5,.sc (.arr 1153 ids.length)),(6,intV i)],[(129,some (.arr 5 (wr (Ty.rows o1)) 0)),(1153,some (.arr 1 (wr (Bn ids)) 0))]⟩) o1.length ⟨[],by simp,by omega,by simp,by simp[Bn]⟩ ?_ ?_
  .rintro i s hi ⟨ids,hi2,q1,q2,rfl⟩
   obtain⟨x,hx⟩:=Ae hi;have hc:=Ls (A:=A) ids x.id (by omega);obtain⟨hp,hk⟩:=b4 (tyN n c) hS x (qc hx);obtain⟨hp1,hp2,_⟩:=hp.1 hk;unfold Ok;by_cases hm:x.id∈ids
   .simp (disch:=try exact zd) [hi,hx,hc,hm,elOk,-getElem?_pos]
    refine⟨ids,by omega,?_,q2,by simp⟩;intro j y hj hy;by_cases hji:j<i
    .exact q1 j y hji hy
    .obtain rfl:j=i:=by omega
     rw[hx]at hy;cases hy;exact hm
   .simp (disch:=try exact zd) [hi,hx,hc,hm,elOk,-getElem?_pos]
    refine⟨ids++[x.id],by simp;omega,?_,?_,by simp[Bn,Fs,wr]⟩
    .intro j y hj hy
     by_cases hji:j<i
     .exact qp.2 (.inl (q1 j y hji hy))
     .obtain rfl:j=i:=by omega
      rw[hx]at hy;cases hy;simp
    .intro a ha
     rcases qp.1 ha with ha|ha
     .exact q2 a ha
     .simp only [qk] at ha
      subst ha;exact⟨hp1,hp2⟩
  .rintro s ⟨ids,hi2,q1,q2,rfl⟩
   unfold Ok;simp(disch:=try exact zd) [-getElem?_pos];refine⟨ids,⟨by omega,fun t ht=>?_,q2⟩,rfl⟩;have hcov:∀u:Ty,leafIn 1 o1 u->tyB n c u->Ee ids u:=by
    intro u
    induction u using Ty.ind with
    |h u ih=>
     intro g1 g2;refine Ty.all_iff.2 ⟨fun hk=>?_,fun y hy=>ih y hy (Ty.all.arg g1 hy) (g2.arg hy)⟩;have hmem:=Ty.all.one g1 hk (g2.one.1 hk).2.2;obtain⟨j,hj,he⟩:=qO hmem;exact q1 j u hj (by rw[qi hj,he])
   exact hcov t (b3 t ht) (hS t ht)
def Zfg (l:List Ty)(r:V×List Obj):Prop:=∃o2,UF 3 l o2/\r=(tysV o2,[])
theorem S8 (l:List Ty)(h:(l.map Ty.size).sum<=687194767360):∃r,Zfg l r/\(K A).call 186 [tysV l] []=some r:=by
 have hlen:=Ty.len_le l;refine fnE v186 ?_;unfold v186;simp(disch:=try exact zd);refine Ak (fun i s=>∃o2,LeafsI 3 l i o2/\s=⟨[(0,tysV l),(3,.sc (.arr 129 o2.length)),(4,intV i)],[(129,some (.arr 5 (wr (Ty.rows o2)) 0))]⟩) l.length
  ⟨[],⟨by simp,by simp,by omega,by simp⟩,by simp⟩ ?_ ?_
 .rintro i s hi ⟨o2,hI,rfl⟩
  obtain⟨x,hx⟩:=Ae hi;have hs1:=Lk hx;have hs2:=Sm l (i+1);obtain⟨_,⟨o3,h1,h2,h3,hq,rfl⟩,hc⟩:=UK (A:=A) 3 x.size x o2 (qg _) hI.2.1 (by have:=hI.1;omega);unfold Mo;simp(disch:=try exact zd) [hi,hx,hc,h1,-getElem?_pos];exact⟨o3,hI.next hx h2 h3 hq,by simp⟩
 .rintro s ⟨o1,hI,rfl⟩
  unfold Mo;simp(disch:=try exact zd) [-getElem?_pos];exact⟨o1,hI.all,rfl⟩
variable {A:Af}
theorem V5 {s:List AssD}{t:Ty}{i:Nat}{x:AssD}(h:s[i]?=some x)(hx:x.id=t.id)(hn:∀(j:Nat) y,j<i->s[j]?=some y->y.id≠t.id):E6 s t=x.ty:=by
 unfold E6;have:s.find? (fun a=>decide (a.id=t.id))=some x:=by
  rw[List.find?_eq_some_iff_getElem];obtain⟨hi,he⟩:=qf.1 h;refine⟨by simpa using hx,i,hi,he,fun j hj=>?_⟩;have:=hn j _ hj (qi (by omega));simpa using this
 rw[this]
theorem Xb {s:List AssD}{t:Ty}(hn:∀(j:Nat) y,j<s.length->s[j]?=some y->y.id≠t.id):E6 s t=t:=by
 unfold E6;have:s.find? (fun a=>decide (a.id=t.id))=none:=by
  rw[List.find?_eq_none];intro x hx;obtain⟨j,hj,rfl⟩:=qO hx;simpa using hn j _ hj (qi hj)
 rw[this]
theorem HF (s:List AssD)(hs:s.length<=687194767360)(t:Ty):t.size<=687194767360->(K A).call 191 [tyV t,CM s] []=some (tyV (Bp s t),[]):=by
 induction t using Ty.ind with
 |h t ih=>
 intro ht;have hal:=t.args_lt;refine fnO v191 ?_;unfold v191;by_cases h1:t.kind=1
 .have hm:Bp s t=E6 s t:=Ty.map_some (by unfold CT;rw [if_pos h1])
  simp(disch:=try exact zd) [h1];refine Ak (fun i st=>(∀(j:Nat) y,j<i->s[j]?=some y->y.id≠t.id)/\st=⟨[(1,CM s),(2,.sc (.ptr 64 0)),(4,.sc (.ptr 128 0)),(5,intV i)],[(64,some (.box (wc t.row))),(128,some (.box [zi,zs,zi,zi,.nil]))]⟩) s.length ⟨by omega,by simp⟩ ?_ ?_
  .rintro i st hi ⟨hn,rfl⟩
   obtain⟨x,hx⟩:=Ae hi;unfold IX;by_cases hxt:x.id=t.id
   .have hf:=V5 hx hxt hn
    simp(disch:=try exact zd) [hi,hx,hxt,hm,hf,-getElem?_pos]
   .simp (disch:=try exact zd) [hi,hx,hxt,-getElem?_pos]
    intro j y hj hy;by_cases hji:j<i
    .exact hn j y hji hy
    .obtain rfl:j=i:=by omega
     rw[hx]at hy;cases hy;exact hxt
  .rintro st ⟨hn,rfl⟩
   have hf:=Xb hn;unfold IX;simp(disch:=try exact zd) [hm,hf,-getElem?_pos]
 .have hm:Bp s t=.mk t.kind t.name t.id t.home (t.args.map (Bp s)):=Ty.map_none (by unfold CT;rw [if_neg h1])
  simp(disch:=try exact zd) [h1];simp(disch:=try exact zd) [Ty.row_eq t];refine Ak (fun i st=>st=⟨[(1,CM s),(2,.sc (.ptr 64 0)),(4,.sc (.ptr 128 0)),(6,.sc (.ptr 1984 0)),(7,intV i)],
   [(64,some (.box [.c (.int .i64 t.kind),.c (.str t.name),.c (.int .i64 t.id),.c (.int .i64 t.home),.c (.sl (Ty.rows t.args))])),(128,some (.box [zi,zs,zi,zi,.nil])),
     (1984,some (.box [.c (.int .i64 t.kind),.c (.str t.name),.c (.int .i64 t.id),.c (.int .i64 t.home),.arr 2177 i])),(2177,some (.arr 5 (wr (Ty.rows ((t.args.map (Bp s)).take i))) 0))]⟩) t.args.length (by simp) ?_ ?_
  .rintro i st hi rfl
   obtain⟨x,hx⟩:=Ae hi;have hxs:=Ty.arg_lt (qc hx);have hc:=ih x (qc hx) (by omega);have hmx:(t.args.map (Bp s))[i]?=some (Bp s x):=(by rw[qq,hx];rfl);have hlen:((t.args.map (Bp s)).take i).length=i:=(by simp;omega);unfold Ln;simp(disch:=try exact zd) [hi,hx,hc,hlen,Bh hmx,-getElem?_pos]
  .rintro st rfl
   have htk:(t.args.map (Bp s)).take t.args.length=t.args.map (Bp s):=qj (by simp);unfold Ln;simp(disch:=try exact zd) [htk,hm,Ic,-getElem?_pos]
theorem UW {l m:List Int}(t:Ty):Ee l t->Ee m t->Ee (l.filter fun i=>decide (i∈m)) t:=by
 induction t using Ty.ind with
 |h t ih=>
  intro h1 h2;exact Ty.all_iff.2 ⟨fun hk=>qaI.2 ⟨Ty.all.one h1 hk,by simpa using Ty.all.one h2 hk⟩,fun x hx=>ih x hx (Ty.all.arg h1 hx) (Ty.all.arg h2 hx)⟩
def SchR (m:Nat)(r:V×List Obj):Prop:=∃(c:Nat)(t:Ty),c<=m/\tyB 0 c t/\t.size<=m/\r=(schV c t,[])
theorem VX {n:Nat}(t:Ty)(ids:List Int)(h:t.size<=687194767360)(hi:ids.length<=687194767360)(hS:tyS n t)(hv:Ee ids t):∃r,SchR t.size r/\(K A).call 187 [tyV t,Cl ids] []=some r:=by
 refine fnE v187 ?_;obtain⟨_,⟨v,⟨g1,g2,g3⟩,rfl⟩,hc⟩:=IH (A:=A) (n:=n) (c:=0) [t] (by simpa using h) (fun u hu=>by rw[qk.1 hu];exact hS);have hn:Ty.rows [t]=[t.row]:=by simp[Ty.rows]
 have hc:(K A).call 195 [.sc (.c (.sl [t.row]))] []=some (Cl v,[]):=by rw[<-hn];exact hc
 have g1':v.length<=t.size:=by simpa using g1
 unfold v187;simp(disch:=try exact zd) [hc];refine Ak (fun i st=>∃s:List AssD,s.length<=i/\(∀(j:Nat) x,j<i->v[j]?=some x->x∈ids->∃a∈s,a.id=x)/\(∀a∈s,tyB 0 s.length a.ty/\a.ty.size<=1)/\
  st=⟨[(1,Cl ids),(2,.sc (.ptr 64 0)),(4,.sc (.ptr 128 0)),(5,Cl v),(6,.sc (.arr 449 s.length)),(7,intV i)],[(64,some (.box (wc t.row))),(128,some (.box [zi,zi,zs,zi,zi,.nil])),(449,some (.arr 6 (wr (CY s)) 0))]⟩) v.length ⟨[],by simp,by omega,by simp,by simp⟩ ?_ ?_
 .rintro i st hi2 ⟨s,hs,q1,q2,rfl⟩
  obtain⟨x,hx⟩:=Ae hi2;have hc2:=Ls (A:=A) ids x hi;have hb:=Lq (A:=A) s.length;have he:(W.c (.int .i64 x)::wc (Ty.mk 2 [] s.length 0 []).row)=wc (Bw ⟨x,.mk 2 [] s.length 0 []⟩):=rfl;unfold KN;by_cases hm:x∈ids
  .simp (disch:=try exact zd) [hi2,hx,hc2,hm,hb,he,-getElem?_pos]
   refine⟨s++[⟨x,.mk 2 [] s.length 0 []⟩],by simp;omega,?_,?_,by simp⟩
   .intro j y hj hy hyi
    by_cases hji:j<i
    .obtain ⟨a,ha,hai⟩:=q1 j y hji hy hyi
     exact⟨a,by simp[ha],hai⟩
    .obtain rfl:j=i:=by omega
     rw[hx]at hy;cases hy;exact⟨_,qp.2 (.inr (qk.2 rfl)),rfl⟩
   .intro a ha
    rcases qp.1 ha with ha|ha
    .exact⟨(q2 a ha).1.mono (qg 0) (by simp),(q2 a ha).2⟩
    .simp only [qk] at ha
     subst ha;exact⟨NR (by simp),by simp[Ty.size_leaf]⟩
  .simp (disch:=try exact zd) [hi2,hx,hc2,hm,-getElem?_pos]
   refine⟨s,by omega,?_,q2,by simp⟩;intro j y hj hy hyi;by_cases hji:j<i
   .exact q1 j y hji hy hyi
   .obtain rfl:j=i:=by omega
    rw[hx]at hy;cases hy;exact absurd hyi hm
 .rintro st ⟨s,hs,q1,q2,rfl⟩
  have hc3:=HF (A:=A) s (by omega) t h;have hS0:tyB 0 s.length (Bp s t):=K6 (l:=v.filter fun i=>decide (i∈ids)) (fun i hi=>by
   obtain⟨hi1,hi2⟩:=qaI.1 hi;obtain⟨j,hj,he⟩:=qO hi1;exact q1 j i hj (by rw[qi hj,he]) (by simpa using hi2)) (fun a ha=>(q2 a ha).1) hS (UW t (g2 t (by simp)) hv)
  have hsz:=LX (qg 1) (fun a ha=>(q2 a ha).2) t;unfold KN;simp(disch:=try exact zd) [hc3,-getElem?_pos];exact⟨s.length,Bp s t,by omega,hS0,by omega,by simp[AU,Ty.row_eq]⟩
theorem X8 {ids:List Int}{o2:List Ty}(h:∀x∈o2,x.home=99->900+x.id∈ids)(t:Ty):tyS 0 t->rigB t->leafIn 3 o2 t->Mn ids t:=by
 induction t using Ty.ind with
 |h t ih=>
  intro h1 h2 h3;refine Ty.all_iff.2 ⟨fun hk=>⟨(Ty.all.one h2 hk).1,h t (Ty.all.one h3 hk.1 (h1.one.2.2.1 hk.1)) hk.2⟩,fun x hx=>ih x hx (h1.arg hx) (Ty.all.arg h2 hx) (Ty.all.arg h3 hx)⟩
theorem Zm (t:Ty)(h:t.size<=687194767360)(hS:tyS 0 t)(hB:rigB t):∃r,SchR t.size r/\(K A).call 137 [tyV t] []=some r:=by
 refine fnE v137 ?_;obtain⟨_,⟨v,⟨g1,g2,g3,g4⟩,rfl⟩,hc⟩:=S8 (A:=A) [t] (by simpa using h);have hn:Ty.rows [t]=[t.row]:=by simp[Ty.rows]
 have hc:(K A).call 186 [.sc (.c (.sl [t.row]))] []=some (tysV v,[]):=by rw[<-hn];exact hc
 have g1':v.length<=t.size:=by simpa using g1
 have hth:=Yi (A:=A) t h hB;unfold v137;simp(disch:=try exact zd) [hc];refine Ak (fun i st=>∃ids:List Int,ids.length<=i/\(∀(j:Nat) x,j<i->v[j]?=some x->x.home=99->900+x.id∈ids)/\(∀a∈ids,a<2000)/\
  st=⟨[(1,.sc (.ptr 64 0)),(2,.sc (.ptr 128 0)),(3,.sc (.arr 193 ids.length)),(4,tysV v),(5,intV i)],[(64,some (.box (wc t.row))),(128,some (.box [zi,zi,zs,zi,zi,.nil])),(193,some (.arr 1 (wr (Bn ids)) 0))]⟩) v.length ⟨[],by simp,by omega,by simp,by simp[Bn]⟩ ?_ ?_
 .rintro i st hi2 ⟨ids,hs,q1,q2,rfl⟩
  obtain⟨x,hx⟩:=Ae hi2;unfold Oy;by_cases hm:x.home=99
  .have hxk:=g4 (fun u=>u.kind=3/\u.home=99->0<=u.id/\u.id<=1000) (fun u hu=>by rw [qk.1 hu];exact hB) x (qc hx)
   obtain⟨ha,hb⟩:=hxk.1 ⟨hxk.2,hm⟩;simp(disch:=try exact zd) [hi2,hx,hm,-getElem?_pos];refine⟨ids++[900+x.id],by simp;omega,?_,?_,by simp[Bn,Fs,wr]⟩
   .intro j y hj hy hyi
    by_cases hji:j<i
    .exact qp.2 (.inl (q1 j y hji hy hyi))
    .obtain rfl:j=i:=by omega
     rw[hx]at hy;cases hy;simp
   .intro a ha
    rcases qp.1 ha with ha|ha
    .exact q2 a ha
    .simp only [qk] at ha
     omega
  .simp (disch:=try exact zd) [hi2,hx,hm,-getElem?_pos]
   refine⟨ids,by omega,?_,q2,by simp⟩;intro j y hj hy hyi;by_cases hji:j<i
   .exact q1 j y hji hy hyi
   .obtain rfl:j=i:=by omega
    rw[hx]at hy;cases hy;exact absurd hyi hm
 .rintro st ⟨ids,hs,q1,q2,rfl⟩
  have hrig:Mn ids t:=X8 (o2:=v) (fun x hx hh=>by
   obtain⟨j,hj,he⟩:=qO hx;exact q1 j x hj (by rw[qi hj,he]) hh) t hS hB (g3 t (by simp))
  have hts:=ZdG t;obtain⟨k1,k2⟩:=Z9 (l:=ids) (n:=2000) q2 t hS hrig;obtain⟨_,⟨c,u,hcm,hu,hus,rfl⟩,hcl⟩:=VX (A:=A) (Cf t) ids (by omega) (by omega) k1 k2;unfold Oy;simp(disch:=try exact zd) [hth,hcl,-getElem?_pos];exact⟨c,u,by omega,hu,by omega,rfl⟩
variable {A:Af}
def fitD (d:DataD):Prop:=GI d/\(∀c∈d.cons,∀f∈c.fields,tyS 0 f/\f.size<=20)/\CK d.name d.params.length/\∀c∈d.cons,c.fields.length<=2
def fitDs (ds:List DataD):Prop:=ds.length<=100/\∀d∈ds,fitD d
theorem fitDs.good {ds:List DataD}(h:fitDs ds):FX ds:=⟨h.1,fun d hd=>(h.2 d hd).1⟩
theorem Vu {l:List Ty}(h:∀x∈l,x.size<=1):(l.map Ty.size).sum<=l.length:=by
 have:=G3 h;omega
def TyR (n m:Nat)(r:V×List Obj):Prop:=∃t:Ty,tyS n t/\t.size<=m/\r=(tyV t,[])
def TyC (c m:Nat)(r:V×List Obj):Prop:=∃t:Ty,tyB 0 c t/\t.size<=m/\r=(tyV t,[])
theorem Zec (d:DataD)(hp:d.params.length<=100)(hcn:CK d.name d.params.length):∃r,TyC d.params.length (1+d.params.length) r/\(K A).call 217 [.ag (wc (A8 d))] []=some r:=by
 refine fnE v217 ?_;unfold v217;simp(disch:=try exact zd);refine Ak (fun i st=>∃l:List Ty,l.length=i/\(∀x∈l,tyB 0 d.params.length x/\x.size<=1)/\st=⟨[(1,.sc (.ptr 64 0)),(2,.sc (.ptr 128 0)),(3,.sc (.arr 193 i)),(4,intV i)],[(64,some (.box (wc (A8 d)))),(128,some (.box [zi,zs,zi,zi,.nil])),(193,some (.arr 5 (wr (Ty.rows l)) 0))]⟩) d.params.length ⟨[],rfl,by simp,by simp⟩ ?_ ?_
 .rintro i st hi ⟨l,hl,q,rfl⟩
  have hb:=Lq (A:=A) i;unfold Nl;simp(disch:=try exact zd) [hi,hb,hl,-getElem?_pos];refine⟨l++[.mk 2 [] i 0 []],by simp[hl],?_,by simp⟩;intro x hx;rcases qp.1 hx with hx|hx
  .exact q x hx
  .simp only [qk] at hx
   subst hx;exact⟨NR hi,by simp[Ty.size_leaf]⟩
 .rintro st ⟨l,hl,q,rfl⟩
  have hc:=GU (A:=A) d.name l (by omega);have hs:=Vu fun x hx=>(q x hx).2;unfold Nl;simp(disch:=try exact zd) [hl,hc,-getElem?_pos];refine⟨_,NK (by rw[hl];exact hcn) fun x hx=>(q x hx).1,?_,rfl⟩;rw[Ty.size_eq];show 1+(l.map Ty.size).sum<=_;omega
def OD (ds:List DataD)(s:Str):Prop:=∃d∈ds,∃c∈d.cons,c.name=s
def ZbP (ds:List DataD)(s:Str)(r:V×List Obj):Prop:=∃(i k:Nat)(d:DataD)(c:ConD),ds[i]?=some d/\d.cons[k]?=some c/\c.name=s/\r=(.tu [intV i,intV k,Ac true],[])
theorem UD (ds:List DataD)(hds:FX ds)(s:Str)(hex:OD ds s):∃r,ZbP ds s r/\(K A).call 189 [Ar ds,strV s] []=some r:=by
 have hds1:=hds.1;refine fnE v189 ?_;unfold v189;simp(disch:=try exact zd);refine Ak (fun i st=>(∀(j:Nat) d,j<i->ds[j]?=some d->∀c∈d.cons,c.name≠s)/\st=⟨[(0,Ar ds),(1,strV s),(7,intV i)],[]⟩) ds.length ⟨by omega,by simp⟩ ?_ ?_
 .rintro i st hi ⟨hno,rfl⟩
  obtain⟨d,hd⟩:=Ae hi;have hg:=hds.2 d (qc hd);have hg3:=hg.2.2.1;unfold QY;simp(disch:=try exact zd) [hi,hd,-getElem?_pos];refine Ak (fun k st=>(∀(j:Nat) c,j<k->d.cons[j]?=some c->c.name≠s)/\st=⟨[(0,Ar ds),(1,strV s),(7,intV i),(8,intV k)],[]⟩) d.cons.length ⟨by omega,by simp⟩ ?_ ?_
  .rintro k st hk ⟨hnk,rfl⟩
   obtain⟨c,hc⟩:=Ae hk;unfold It;by_cases hcs:c.name=s
   .simp (disch:=try exact zd) [hi,hd,hk,hc,hcs,-getElem?_pos]
    exact⟨i,k,d,c,hd,hc,hcs,rfl⟩
   .simp (disch:=try exact zd) [hi,hd,hk,hc,hcs,-getElem?_pos]
    intro j y hj hy;by_cases hjk:j<k
    .exact hnk j y hjk hy
    .obtain rfl:j=k:=by omega
     rw[hc]at hy;cases hy;exact hcs
  .rintro st ⟨hnk,rfl⟩
   unfold It;simp(disch:=try exact zd) [hi,hd,-getElem?_pos];intro j y hj hy c hc;by_cases hji:j<i
   .exact hno j y hji hy c hc
   .obtain rfl:j=i:=by omega
    rw[hd]at hy;cases hy;obtain⟨k,hk,he⟩:=qO hc;exact hnk k c hk (by rw[qi hk,he])
 .rintro st ⟨hno,rfl⟩
  exfalso;obtain⟨d,hd,c,hc,hcs⟩:=hex;obtain⟨i,hi,he⟩:=qO hd;exact hno i d hi (by rw[qi hi,he]) c hc hcs
def WK (r:V×List Obj):Prop:=∃(c:Nat)(t:Ty)(b:Bool),c<=4/\tyB 0 c t/\t.size<=1000/\r=(.tu [schV c t,Ac b],[])
theorem ZD (ds:List DataD)(hds:fitDs ds)(s:Str)(hex:OD ds s):∃r,WK r/\(K A).call 194 [Ar ds,strV s] []=some r:=by
 refine fnE v194 ?_;obtain⟨_,⟨i,k,d,c,hd,hc,_,rfl⟩,hf⟩:=UD (A:=A) ds hds.good s hex;have hds1:=hds.1;unfold v194;obtain⟨⟨hg1,hg2,hg3,hg4⟩,hff,hcn,hc2⟩:=hds.2 d (qc hd);have hcm:=qc hc;have hfl:=hg4 c hcm;have hi:=(qf.1 hd).1;have hk:=(qf.1 hc).1;obtain⟨_,⟨u,hu1,hu2,rfl⟩,hr⟩:=Zec (A:=A) d (by omega) hcn;simp(disch:=try exact zd) [hf,hd,hc,hr,hi,hk,-getElem?_pos]
 refine Ak (fun j st=>∃u:Ty,tyB 0 d.params.length u/\u.size<=5+j*30/\st=⟨[(0,Ar ds),(4,.sc (.ptr 64 0)),(6,intV i),(9,.sc (.ptr 1472 0)),(10,tysV c.fields),(11,intV (((c.fields.length-j:Nat):Int)-1))],
  [(64,some (.box [zi,zi,zs,zi,zi,.nil])),(1472,some (.box (wc u.row)))]⟩) c.fields.length ⟨u,hu1,by omega,by simp⟩ ?_ ?_
 .rintro j st hj ⟨v,hv1,hv2,rfl⟩
  obtain⟨a,ha⟩:∃a,c.fields.length-j=a+1:=⟨c.fields.length-j-1,by omega⟩;obtain⟨f,hf2⟩:=Ae (l:=c.fields) (i:=a) (by omega);obtain⟨hfs,hfz⟩:=hff c hcm f (qc hf2);have hbd:=LP (A:=A) d.params (by omega) f (by omega);have har:=H5 (A:=A) (BJ d.params f) v;have e1:((a+1:Nat):Int)-1=a:=by omega
  rw[ha,e1];have hbs:=OL d.params f;unfold Oh;simp(disch:=try exact zd) [hi,hd,hf2,hbd,har,-getElem?_pos];refine⟨_,NK (s:=[45,62]) (l:=[BJ d.params f,v]) Hk ?_,?_,?_⟩
  .intro x hx
   simp only[qD,qY,or_false]at hx;rcases hx with rfl|rfl
   .exact NC hfs
   .exact hv1
  .rw [Ty.size_eq]
   show 1+([BJ d.params f,v].map Ty.size).sum<=_;simp;omega
  .have e3:(a:Int)=((c.fields.length-(j+1):Nat):Int):=by omega
   simp[e3]
 .rintro st ⟨v,hv1,hv2,rfl⟩
  rw[qaQ];unfold Oh;simp(disch:=try exact zd) [hi,hd,-getElem?_pos];exact⟨d.params.length,v,true,hg1,hv1,by omega,by simp[AU,Ty.row_eq]⟩
def YV (n m:Nat)(r:V×List Obj):Prop:=∃(l:List Ty)(b:Bool),l.length<=2/\(∀x∈l,tyS n x/\x.size<=m)/\r=(.tu [tysV l,Ac b],[])
theorem V3 {n m:Nat}(hm:m<=10000000)(hm1:1<=m)(ds:List DataD)(hds:fitDs ds)(s:Str)(hex:OD ds s)(args:List Ty)(hl:args.length<=1000)(ha:∀x∈args,tyS n x/\x.size<=m):∃r,YV n (20*m) r/\(K A).call 138 [Ar ds,strV s,tysV args] []=some r:=by
 refine fnE v138 ?_;obtain⟨_,⟨i,k,d,c,hd,hc,_,rfl⟩,hf⟩:=UD (A:=A) ds hds.good s hex;have hds1:=hds.1;unfold v138;obtain⟨⟨hg1,hg2,hg3,hg4⟩,hff,hcn,hc2⟩:=hds.2 d (qc hd);have hcm:=qc hc;have hfl:=hc2 c hcm;have hi:=(qf.1 hd).1;have hk:=(qf.1 hc).1;by_cases hn:args.length=d.params.length
 .simp (disch:=try exact zd) [hf,hd,hc,hi,hk,hn,-getElem?_pos]
  refine Ak (fun j st=>∃l:List Ty,l.length=j/\(∀x∈l,tyS n x/\x.size<=20*m)/\st=⟨[(0,Ar ds),(2,tysV args),(8,intV i),(11,.sc (.arr 1793 j)),(12,tysV c.fields),(13,intV j)],[(1793,some (.arr 5 (wr (Ty.rows l)) 0))]⟩) c.fields.length ⟨[],rfl,by simp,by simp⟩ ?_ ?_
  .rintro j st hj ⟨l,hlj,hq,rfl⟩
   obtain⟨f,hf2⟩:=Ae hj;obtain⟨hfs,hfz⟩:=hff c hcm f (qc hf2);have hbs:=OL d.params f;have hbd:=LP (A:=A) d.params (by omega) f (by omega);have hop:=KY (A:=A) args (by omega) (BJ d.params f) (by omega);have hos:=NU hm1 (fun x hx=>(ha x hx).2) (BJ d.params f);have hos2:(BJ d.params f).size*m<=20*m:=qE m (by omega);unfold K5;simp(disch:=try exact zd) [hj,hd,hf2,hbd,hop,hlj,hi,-getElem?_pos]
   refine⟨l++[Cp args (BJ d.params f)],by simp[hlj],?_,by simp⟩;intro x hx;rcases qp.1 hx with hx|hx
   .exact hq x hx
   .simp only [qk] at hx
    subst hx;exact⟨Oz (fun x hx=>(ha x hx).1) (by rw[hn];exact(NC hfs).mono (qac _) (qg _)),by omega⟩
  .rintro st ⟨l,hlj,hq,rfl⟩
   unfold K5;simp(disch:=try exact zd) [hlj,-getElem?_pos];exact⟨l,true,by omega,hq,rfl⟩
 .have hn':¬(args.length:Int)=d.params.length:=by omega
  simp(disch:=try exact zd) [hf,hd,hi,hn,hn',-getElem?_pos];exact⟨[],false,by simp,by simp,by simp⟩
def numS (n:Nat):Str:=if h:n<10 then [UInt8.ofNat (48+n)] else numS (n / 10)++[UInt8.ofNat (48+n % 10)]
termination_by n
decreasing_by omega
theorem EB {n:Nat}(h:n<10):numS n=[UInt8.ofNat (48+n)]:=by rw[numS,dif_pos h]
theorem Ey {n:Nat}(h:¬n<10):numS n=numS (n / 10)++[UInt8.ofNat (48+n % 10)]:=by rw[numS,dif_neg h]
theorem Zce (n:Nat):1<=(numS n).length:=by
 grind[EB,Ey]
theorem SJ {a b:Nat}(ha:a<10)(hb:b<10)(h:UInt8.ofNat (48+a)=UInt8.ofNat (48+b)):a=b:=by
 grind[UInt8.toNat_ofNat']
theorem Wg:∀(n m:Nat),numS n=numS m->n=m:=by
 intro n
 induction n using Nat.strongRecOn with
 |ind n ih=>
  intro m h;by_cases hn:n<10;grind[EB,SJ,Ey,qP]
  .by_cases hm:m<10
   grind
   .rw [Ey hn,Ey hm] at h
    obtain⟨h1,h2⟩:=List.append_inj' h (by simp);have h3:=ih (n / 10) (by omega) _ h1;have h4:=SJ (Nat.mod_lt _ (by omega)) (Nat.mod_lt _ (by omega)) (by simpa using h2);omega
theorem UA (n:Nat):∀c∈numS n,48<=c.toNat/\c.toNat<=57:=by
 induction n using Nat.strongRecOn<;>grind[EB,UInt8.toNat_ofNat',Ey]
theorem LV (n:Nat):∀k,n<10 ^ k->1<=k->(numS n).length<=k:=by
 induction n using Nat.strongRecOn with
 |ind n ih=>
  intro k hk h1;by_cases hn:n<10;grind[EB]
  .obtain ⟨k,rfl⟩:∃ j,k=j+1:=⟨k-1,by omega⟩
   have hk1:1<=k:=by
    grind
   have:=ih (n / 10) (by omega) k (by omega) hk1;grind[Ey]
def AJ (k:Nat):Str:=118::numS k
theorem ZaS {a b:Nat}(h:AJ a=AJ b):a=b:=Wg a b (by simpa[AJ]using h)
noncomputable def De (l:List Str)(k:Nat):Nat:=match l with
 |[]=>0
 |s::r=>(open Classical in if ∃j,k<=j/\s=AJ j then 1 else 0)+De r k
theorem NO (l:List Str)(k:Nat):De l k<=l.length:=by
 induction l with
 |nil=>simp[De]
 |cons s r ih=>simp only[De,qG];split<;>omega
theorem LC (l:List Str)(k:Nat):De l (k+1)<=De l k:=by
 induction l with
 |nil=>simp[De]
 |cons s r ih=>
  simp only[De];split
  .rename_i h
   obtain⟨j,h1,h2⟩:=h;rw[if_pos ⟨j,by omega,h2⟩];omega
  omega
theorem QB {l:List Str}{k:Nat}(h:AJ k∈l):De l (k+1)<De l k:=by
 induction l with
 |nil=>grind
 |cons s r ih=>
  have hm:=LC r k;simp only[De];rcases qD.1 h with rfl|h
  .rw[if_neg,if_pos ⟨k,qg _,rfl⟩]<;>grind[ZaS]
  .have:=ih h
   split
   .rename_i h3
    obtain⟨j,h1,h2⟩:=h3;rw[if_pos ⟨j,by omega,h2⟩];omega
   omega
def Dk (taken:List Str):Nat->Nat->Nat->Nat
 |0,k,_=>k
 |f+1,k,n=>if AJ k∈taken then Dk taken f (k+1) n else if n=0 then k else Dk taken f (k+1) (n-1)
theorem Gu (taken:List Str):∀f k n,k<=Dk taken f k n
 |0,k,n=>qg _
 |f+1,k,n=>by
  simp only[Dk];split
  .exact qt (by omega) (Gu taken f (k+1) n)
  .split
   simp
   .exact qt (by omega) (Gu taken f (k+1) (n-1))
theorem OJ (taken:List Str):∀f k n,Dk taken f k n<=k+f
 |0,k,n=>by simp[Dk]
 |f+1,k,n=>by
  simp only[Dk];have h1:=OJ taken f (k+1) n;have h2:=OJ taken f (k+1) (n-1);grind
theorem Mr (taken:List Str):∀f k n,n+De taken k<f->AJ (Dk taken f k n)∉taken
 |0,k,n,h=>by omega
 |f+1,k,n,h=>by
  simp only[Dk];split
  .rename_i hm
   exact Mr taken f (k+1) n (by grind[QB])
  .rename_i hm
   split;omega
   .exact Mr taken f (k+1) (n-1) (by grind[LC])
def BR (n:Nat)(taken:List Str):Nat:=Dk taken (n+taken.length+1) 1 n
def AI (n:Nat)(taken:List Str):Str:=AJ (BR n taken)
theorem N5 (n:Nat)(taken:List Str):BR n taken<=n+taken.length+2:=by
 grind[OJ,BR]
theorem FY (n:Nat)(taken:List Str):AI n taken∉taken:=Mr taken _ _ _ (by grind[NO])
end Go.Vs.Tryz
namespace Go.Vs
open Go
section
variable {C:Ctx}{E:Nat->Option V}{L:Nat->Option Obj}{oid:Nat}
@[simp] theorem b_quo {k:IntKind} {a b:Int} (h:b≠0):binV .quo 0 (.sc (.c (.int k a))) (.sc (.c (.int k b)))=some (.sc (.c (.int k (k.wrap (a.tdiv b)))),[]):=by simp[binV,binW,Bz,Ch,h,Cw]
@[simp] theorem x_slS {x:Opd} {lo hi:Option Opd}:Ad C E L oid (.slS x lo hi)=(match x.val C E with
 |.sc (.c (.str s))=>match AQ (hi.map (·.val C E)) s.length s.length with
  |none=>none
  |some h=>(AQ (lo.map (·.val C E)) 0 h).map fun l=>(.sc (.c (.str ((s.take h).drop l))),[])
 |_=>none):=rfl
end
end Go.Vs
namespace Go.Vs.Tryz
open Go Go.Vs
variable {A:Af}
def Zgm:Str:=[48,49,50,51,52,53,54,55,56,57]
def headEq (a b:Exp):Prop:=a.kind=b.kind/\a.num=b.num/\a.ty=b.ty/\a.kids.length=b.kids.length/\a.arms.length=b.arms.length
def Fz (a b:Exp):Prop:=∀(i:Nat) p q,a.arms[i]?=some p->b.arms[i]?=some q->p.1.con=q.1.con/\p.1.vars.length=q.1.vars.length
def Wx (left right:List Str)(s t:Str):Prop:=rlast left s=rlast right t/\(0<=rlast left s\/s=t)
def Zp (a:Exp)(l:List (Exp->List Str->List Str->Prop))(b:Exp)(left right:List Str):Prop:=
 headEq a b/\(a.kind=1->Wx left right a.name b.name)/\(a.kind=2->a.name=b.name)/\
  (a.kind≠1->a.kind≠2->Fz a b/\∀(i:Nat) f y,l[i]?=some f->b.children[i]?=some y->f y (left++a.bound i) (right++b.bound i))
def Zgc (a:Exp):Exp->List Str->List Str->Prop:=a.fold Zp
def news (taken:List Str)(n k:Nat):List Str:=(List.range k).map fun j=>AI (n+j) taken
@[simp] theorem news_len (taken:List Str) (n k:Nat):(news taken n k).length=k:=by simp[news]
def Vb (taken:List Str)(e:Exp)(l:List (List Str->List Str->Exp))(old Bj:List Str):Exp:=
 if e.kind=1 then (if 0<=rlast old e.name then .mk e.kind e.pos ((Bj[(rlast old e.name).toNat]?).getD []) e.num e.kids e.arms e.ty else e)
 else
  let cs:=l.zipIdx.map fun p=>p.1 (old++e.bound p.2) (Bj++news taken old.length (e.bound p.2).length)
  .mk e.kind e.pos (if e.kind=4\/e.kind=6\/e.kind=7 then AI old.length taken else e.name) e.num (cs.take e.kids.length)
   (List.zipWith (fun a c=>(⟨a.1.pos,a.1.con,news taken old.length a.1.vars.length⟩,c)) e.arms (cs.drop e.kids.length)) e.ty
def RH (taken:List Str)(e:Exp):List Str->List Str->Exp:=e.fold (Vb taken)
def RQ (taken:List Str)(e:Exp)(old Bj:List Str):List Exp:=e.children.zipIdx.map fun p=>RH taken p.1 (old++e.bound p.2) (Bj++news taken old.length (e.bound p.2).length)
@[simp] theorem canonC_len (taken:List Str) (e:Exp) (old Bj:List Str):(RQ taken e old Bj).length=e.kids.length+e.arms.length:=by simp[RQ]
theorem XQ {e x:Exp}{i:Nat}(hk:e.kind≠1)(hx:e.children[i]?=some x){s:Str}(hs:s∈Ag x):s∈e.bound i\/s∈Ag e:=by
 by_cases hb:s∈e.bound i;grind
 .refine .inr ?_
  rw[EW,if_neg hk,<-K1];have key:∀n,n<=e.children.length->i<n->s∈outP e n:=by
   intro n
   induction n with
   |zero=>simp
   |succ n ih=>
    intro hn hi;obtain⟨y,hy⟩:=Ae (l:=e.children) (i:=n) (by omega);rw[My hy,Mk];grind
  grind
theorem Bt {e:Exp}{i:Nat}:e.bound i=if e.kind=4\/e.kind=7\/(e.kind=6/\i=1) then [e.name] else if e.kind=8/\0<i then ((e.arms[i-1]?).map fun a=>a.1.vars).getD [] else []:=rfl
section
variable (k p:Int)(n:Str)(m:Int)(ks:List Exp)(l:List (ArmH×Exp))(t:Ty)
theorem Ry:(Exp.mk k p n m ks l t).name=n:=rfl
theorem SW:(Exp.mk k p n m ks l t).kids=ks:=rfl
theorem F0:(Exp.mk k p n m ks l t).arms=l:=rfl
theorem GO (i:Nat):(Exp.mk k p n m ks l t).bound i=if k=4\/k=7\/(k=6/\i=1) then [n] else if k=8/\0<i then ((l[i-1]?).map fun a=>a.1.vars).getD [] else []:=rfl
theorem B2:(Exp.mk k p n m ks l t).children=ks++l.map (·.2):=rfl
end
theorem headEq.symm {a b:Exp}(h:headEq a b):headEq b a:=⟨h.1.symm,h.2.1.symm,h.2.2.1.symm,h.2.2.2.1.symm,h.2.2.2.2.symm⟩
theorem headEq.children {a b:Exp}(h:headEq a b):a.children.length=b.children.length:=by
 rw[a.children_len,b.children_len,h.2.2.2.1,h.2.2.2.2]
def DC (e:Exp)(cs:List Exp):Exp:=.mk e.kind 0 e.name e.num (cs.take e.kids.length) (List.zipWith (fun(a:ArmH×Exp) c=>((⟨0,a.1.con,a.1.vars⟩:ArmH),c)) e.arms (cs.drop e.kids.length)) e.ty
def Ai (e:Exp):Exp:=e.fold DC
theorem E8 (e:Exp):Ai e=DC e (e.children.map Ai):=Exp.fold_eq _ e
theorem Rc {α β γ:Type}{f:α->β->γ}{l:List α}{m:List β}(h:l.length=m.length)(g:γ->β)(hg:∀a b,g (f a b)=b):(List.zipWith f l m).map g=m:=by
 refine qJ fun j=>?_;rw[qq,qaX];by_cases hj:j<l.length
 .rw [qi hj,qi (show j<m.length by omega)]
  simp[hg]
 .rw [qam (by omega),qam (by omega)]
  rfl
theorem Ec (e:Exp):(Ai e).kind=e.kind/\(Ai e).name=e.name/\(Ai e).num=e.num/\(Ai e).ty=e.ty/\(Ai e).kids.length=e.kids.length/\(Ai e).arms.length=e.arms.length/\
 (Ai e).children=e.children.map Ai/\(∀i:Nat,(Ai e).arms[i]?=(e.arms[i]?).map fun(a:ArmH×Exp)=>((⟨0,a.1.con,a.1.vars⟩:ArmH),Ai a.2)):=by
 have hl:(e.children.map Ai).length=e.kids.length+e.arms.length:=by simp
 have hkl:((e.children.map Ai).take e.kids.length).length=e.kids.length:=by rw[qX,hl];omega
 have hdl:((e.children.map Ai).drop e.kids.length).length=e.arms.length:=by rw[qae,hl];omega
 have hal:(List.zipWith (fun(a:ArmH×Exp) (c:Exp)=>((⟨0,a.1.con,a.1.vars⟩:ArmH),c)) e.arms ((e.children.map Ai).drop e.kids.length)).length=e.arms.length:=by
  rw[List.length_zipWith,hdl];omega
 rw[E8];refine⟨rfl,rfl,rfl,rfl,by simp only[DC,SW,hkl],by simp only[DC,F0,hal],?_,?_⟩
 .simp only [DC,B2]
  rw[Rc (g:=fun(x:ArmH×Exp)=>x.2) (by rw[hdl]) (fun _ _=>rfl),qaW]
 .intro i
  simp only[DC,F0,qaX];have hd:(e.children.map Ai).drop e.kids.length=e.arms.map fun a=>Ai a.2:=by
   simp[Exp.children]
  rw[hd,qq];cases e.arms[i]?<;>rfl
theorem VF (e:Exp):(Ai e).weight=e.weight:=by
 induction e using Exp.ind with
 |h e ih=>
  obtain⟨h1,h2,h3,h4,h5,h6,h7,h8⟩:=Ec e;rw[Exp.weight_eq,e.weight_eq,h7,qao];have ha:((Ai e).arms.map fun a=>a.1.vars.length)=e.arms.map fun a=>a.1.vars.length:=by
   refine qJ fun i=>?_;rw[qq,qq,h8];cases e.arms[i]?<;>rfl
  have hc:e.children.map (Exp.weight∘Ai)=e.children.map Exp.weight:=qK fun x hx=>ih x hx;rw[ha,hc]
def ZfZ (e:Exp)(taken:List Str):Exp:=RH (taken++Ag e) (Ai e) [] []
end Go.Vs.Tryz
namespace Go.Vs
open Go
def elK (x:Option Obj)(N i:Nat):Bool:=match x with
 |some (.arr _ rows _)=>rows.length==N&&Nat.blt i N
 |_=>false
@[simp] theorem elK_some {s p N i:Nat} {rows:List (List W)}:elK (some (.arr s rows p)) N i=(rows.length==N&&Nat.blt i N):=rfl
@[simp] theorem elOk_eq {L:Nat->Option Obj} {k N i:Nat}:elOk L k N i=elK (L k) N i:=rfl
end Go.Vs
namespace Go.Vs.Tryz
open Go Go.Vs
variable {A:Af}
abbrev exsV (l:List Exp):V:=.sc (.c (.sl (Exp.rows l)))
def AE (zz:List (ArmH×Exp))(cs:List Exp):List (ArmH×Exp):=List.zipWith (fun(a:ArmH×Exp) c=>(a.1,c)) zz cs
@[simp] theorem armsW_len (zz:List (ArmH×Exp)) (cs:List Exp):(AE zz cs).length=min zz.length cs.length:=by simp[AE]
theorem Dh {α:Type}{zs zz:List α}{i:Nat}{x:α}(hl:zs.length=zz.length)(hx:zs[i]?=some x):(zs.take i++zz.drop i).set i x=zs.take (i+1)++zz.drop (i+1):=by
 have hi:=(qf.1 hx).1;have htl:(zs.take i).length=i:=by simp;omega
 rw[Bh hx,qau];have hd:zz.drop i=zz[i]'(by omega)::zz.drop (i+1):=qaY (by omega);rw[hd,List.set_append_right _ _ (by omega),htl,qaQ,List.set_cons_zero];rfl
theorem F9 (l:List (ArmH×Exp))(i:Nat)(x:ArmH×Exp):setRow (wr (Exp.armRows l)) i (wc (AH x))=wr (Exp.armRows (l.set i x)):=by
 rw[setRow_set];simp[Exp.armRows_map,wr,qaZ]
theorem To (a:ArmH×Exp)(c:Exp):splice (wc (AH a)) 3 (wc c.row)=some (wc (AH (a.1,c))):=by
 rw[AH,AH,Exp.row_eq a.2,Exp.row_eq c];rfl
theorem Dv {α:Type}{zs zz:List α}{i:Nat}(hl:zs.length=zz.length)(hi:i<zz.length):(zs.take i++zz.drop i)[i]?=zz[i]?:=by
 have htl:(zs.take i).length=i:=by simp;omega
 rw[qS (by omega),htl,qaQ,qag];rfl
theorem Du {α:Type}{zs zz:List α}{i:Nat}(hl:zs.length=zz.length):(zs.take i++zz.drop i).length=zz.length:=by
 simp;omega
theorem VV (e:Exp)(cs:List Exp)(h:cs.length=e.kids.length+e.arms.length)(hl:e.weight<=687194767360):(K A).call 106 [expV e,exsV cs] []=
 some (.ag [.c (.int .i64 e.kind),.c (.int .i64 e.pos),.c (.str e.name),.c (.int .i64 e.num),.arr 0 e.kids.length,.arr 1 e.arms.length,.c (.int .i64 e.ty.kind),.c (.str e.ty.name),.c (.int .i64 e.ty.id),.c (.int .i64 e.ty.home),.c (.sl (Ty.rows e.ty.args))],
  [.arr 11 (wr (Exp.rows (cs.take e.kids.length))) 0,.arr 14 (wr (Exp.armRows (AE e.arms (cs.drop e.kids.length)))) 0]):=by
 refine fnO v106 ?_;have hle:=e.children_le;rw[e.children_len]at hle;have hrow:wc e.row=[.c (.int .i64 e.kind),.c (.int .i64 e.pos),.c (.str e.name),.c (.int .i64 e.num),.c (.sl (Exp.rows e.kids)),.c (.sl (Exp.armRows e.arms)),.c (.int .i64 e.ty.kind),.c (.str e.ty.name),.c (.int .i64 e.ty.id),.c (.int .i64 e.ty.home),.c (.sl (Ty.rows e.ty.args))]:=by rw[Exp.row_eq];rfl
 have hzl:(AE e.arms (cs.drop e.kids.length)).length=e.arms.length:=by rw[armsW_len,qae];omega
 have hfit:BI 11 (Exp.rows cs)=true:=by rw[Exp.rows_map];exact Gw Exp.row_len cs
 have htk:(Exp.rows cs).take e.kids.length=Exp.rows (cs.take e.kids.length):=by simp[Exp.rows_map,qaE]
 have hcl:(cs.take e.kids.length).length=e.kids.length:=by rw[qX];omega
 unfold v106;simp(maxSteps:=9^7) (disch:=try exact zd) [h,hrow,hfit,htk,hcl,-getElem?_pos];refine Ap (fun i=>⟨[(1,exsV cs),(4,.sc (.ptr 128 0)),(5,intV e.kids.length),(6,.sc (.ptr 1152 0)),(7,intV i)],
  [(128,some (.box [zi,zi,zs,zi,.nil,.nil,zi,zs,zi,zi,.nil])),(1152,some (.box [.c (.int .i64 e.kind),.c (.int .i64 e.pos),.c (.str e.name),.c (.int .i64 e.num),.arr 1472 e.kids.length,.arr 1664 e.arms.length,.c (.int .i64 e.ty.kind),.c (.str e.ty.name),.c (.int .i64 e.ty.id),.c (.int .i64 e.ty.home),.c (.sl (Ty.rows e.ty.args))])),
    (1472,some (.arr 11 (wr (Exp.rows (cs.take e.kids.length))) 0)),(1664,some (.arr 14 (wr (Exp.armRows ((AE e.arms (cs.drop e.kids.length)).take i++e.arms.drop i))) 0))]⟩) e.arms.length ?_ ?_ ?_
 .simp
 .intro i hi
  obtain⟨a,ha⟩:=Ae hi;obtain⟨c,hc⟩:=Ae (l:=cs) (i:=e.kids.length+i) (by omega);have hz:(AE e.arms (cs.drop e.kids.length))[i]?=some (a.1,c):=by
   unfold AE;rw[qaX,ha,qag,hc]
  have hg:=Dv hzl hi;rw[ha]at hg;have hs:=Dh hzl hz;have hln:=Du (i:=i) hzl;rw[<-hs];generalize (AE e.arms (cs.drop e.kids.length)).take i++e.arms.drop i=zz at hg hln |-;have hset:=F9 zz i (a.1,c);have hsp:=To a c;have hnb:Ax (intV ((e.kids.length:Int)+i)) cs.length=some (e.kids.length+i):=natBelow_cast (k:=.i64) (n:=e.kids.length+i) (by omega);unfold Lw
  simp(maxSteps:=9^7) (disch:=try exact zd) [hi,hg,hln,hc,hnb,hsp,hset,BC,-getElem?_pos]
 .have ht:(AE e.arms (cs.drop e.kids.length)).take e.arms.length++e.arms.drop e.arms.length=AE e.arms (cs.drop e.kids.length):=by
   rw[qaL,qL,qj (by omega)]
  rw[ht];unfold Lw;simp(maxSteps:=9^7) (disch:=try exact zd) [hzl,-getElem?_pos]
def BK (l:List (ArmH×Exp)):List (ArmH×Exp):=l.map fun a=>(⟨0,a.1.con,a.1.vars⟩,a.2)
@[simp] theorem armsP_len (l:List (ArmH×Exp)):(BK l).length=l.length:=by simp[BK]
theorem MU (a:ArmH×Exp):splice (wc (AH a)) 0 [W.c (.int .i64 0)]=some (wc (AH ((⟨0,a.1.con,a.1.vars⟩:ArmH),a.2))):=by
 rw[AH,AH,Exp.row_eq a.2];rfl
theorem SZ (e:Exp):BK (AE e.arms ((e.children.map Ai).drop e.kids.length))=(Ai e).arms:=by
 obtain⟨_,_,_,_,_,h6,_,h8⟩:=Ec e;have hd:(e.children.map Ai).drop e.kids.length=e.arms.map fun a=>Ai a.2:=by simp[Exp.children]
 refine qJ fun i=>?_;rw[h8,hd];unfold BK AE;rw[qq,qaX,qq];cases e.arms[i]?<;>rfl
theorem O5 (e:Exp):(e.children.map Ai).take e.kids.length=(Ai e).kids:=by
 rw[E8];rfl
theorem KF (e:Exp):wc (Ai e).row=[.c (.int .i64 e.kind),.c (.int .i64 0),.c (.str e.name),.c (.int .i64 e.num),.c (.sl (Exp.rows (Ai e).kids)),.c (.sl (Exp.armRows (Ai e).arms)),.c (.int .i64 e.ty.kind),.c (.str e.ty.name),.c (.int .i64 e.ty.id),.c (.int .i64 e.ty.home),.c (.sl (Ty.rows e.ty.args))]:=by
 obtain⟨h1,h2,h3,h4,_,_,_,_⟩:=Ec e;have hp:(Ai e).pos=0:=by rw[E8];rfl
 rw[Exp.row_eq,h1,h2,h3,h4,hp];rfl
theorem Ze8 (e:Exp):e.weight<=687194767360->(K A).call 51 [expV e] []=some (expV (Ai e),[]):=by
 induction e using Exp.ind with
 |h e ih=>
 intro hl;refine fnO v51 ?_;have hle:=e.children_le;rw[e.children_len]at hle;have hc:=I8 (A:=A) e (by omega);have hml:(e.children.map Ai).length=e.children.length:=by simp
 have hw:=VV (A:=A) e (e.children.map Ai) (by rw[hml,e.children_len]) hl;have hal:(AE e.arms ((e.children.map Ai).drop e.kids.length)).length=e.arms.length:=by rw[armsW_len,qae,hml,e.children_len];omega
 rw[O5]at hw;have hks:(Ai e).kids.length=e.kids.length:=(Ec e).2.2.2.2.1;have has:(Ai e).arms.length=e.arms.length:=(Ec e).2.2.2.2.2.1;unfold v51;simp(maxSteps:=9^7) (disch:=try exact zd) [hc,-getElem?_pos];refine Ap (fun i=>⟨[(1,.sc (.ptr 64 0)),(2,.sc (.ptr 128 0)),(3,.sc (.arr 288 e.children.length)),(4,intV i)],
  [(64,some (.box (wc e.row))),(128,some (.box [zi,zi,zs,zi,.nil,.nil,zi,zs,zi,zi,.nil])),(288,some (.arr 11 (wr (Exp.rows ((e.children.map Ai).take i++e.children.drop i))) 0))]⟩) e.children.length ?_ ?_ ?_
 .simp
 .intro i hi
  obtain⟨x,hx⟩:=Ae hi;have hmem:=qc hx;have hrec:=ih x hmem (by have:=Exp.child_lt hmem;omega);have hz:(e.children.map Ai)[i]?=some (Ai x):=by simp[hx]
  have hg:=Dv hml hi;rw[hx]at hg;have hs:=Dh hml hz;have hln:=Du (i:=i) hml;rw[<-hs];generalize (e.children.map Ai).take i++e.children.drop i=zz at hg hln |-;have hset:=Eh zz i (Ai x);have hi':(i:Int)<(e.kids.length:Int)+e.arms.length:=by rw[e.children_len]at hi;omega
  rw[e.children_len]at hln hi;unfold IV;simp(maxSteps:=9^7) (disch:=try exact zd) [hi,hi',hg,hln,hrec,hset,BC,-getElem?_pos]
 .have ht:(e.children.map Ai).take e.children.length++e.children.drop e.children.length=e.children.map Ai:=by
   rw[qaL,qL,qj (by omega)]
  rw[ht];unfold IV;simp(maxSteps:=9^7) (disch:=try exact zd) [hw,hml,-getElem?_pos];have hsa:=SZ e;generalize AE e.arms ((e.children.map Ai).drop e.kids.length)=ws at *
  have hpl:(BK ws).length=ws.length:=armsP_len ws;refine Ap (fun i=>⟨[(2,.sc (.ptr 128 0)),(5,.sc (.ptr 1664 0)),(6,intV i)],
   [(128,some (.box [zi,zi,zs,zi,.nil,.nil,zi,zs,zi,zi,.nil])),(288,some (.arr 11 (wr (Exp.rows (e.children.map Ai))) (e.kids.length+e.arms.length))),(1632,some (.arr 11 (wr (Exp.rows (Ai e).kids)) 0)),
     (1633,some (.arr 14 (wr (Exp.armRows ((BK ws).take i++ws.drop i))) 0)),
     (1664,some (.box [.c (.int .i64 e.kind),zi,.c (.str e.name),.c (.int .i64 e.num),.arr 1632 e.kids.length,.arr 1633 e.arms.length,.c (.int .i64 e.ty.kind),.c (.str e.ty.name),.c (.int .i64 e.ty.id),.c (.int .i64 e.ty.home),.c (.sl (Ty.rows e.ty.args))]))]⟩) e.arms.length ?_ ?_ ?_
  .simp
  .intro i hi
   obtain⟨a,ha⟩:=Ae (l:=ws) (i:=i) (by omega);have hz:(BK ws)[i]?=some ((⟨0,a.1.con,a.1.vars⟩:ArmH),a.2):=by
    unfold BK;rw[qq,ha];rfl
   have hg:=Dv (i:=i) hpl (by omega);rw[ha]at hg;have hs:=Dh hpl hz;have hln:=Du (i:=i) hpl;rw[<-hs];generalize (BK ws).take i++ws.drop i=zz at hg hln |-;have hset:=F9 zz i ((⟨0,a.1.con,a.1.vars⟩:ArmH),a.2);have hsp:=MU a;have hln2:zz.length=e.arms.length:=(by omega);unfold Ly;simp(maxSteps:=9^7) (disch:=try exact zd) [hi,hg,hln2,hsp,hset,BC,-getElem?_pos]
  .have ht:(BK ws).take e.arms.length++ws.drop e.arms.length=(Ai e).arms:=by
    rw[<-hal,qaL,qL,qj (by omega),hsa]
   rw[ht];have hsr:=KF e;unfold Ly;simp(maxSteps:=9^7) (disch:=try exact zd) [hsr,hks,has,-getElem?_pos]
end Go.Vs.Tryz
namespace Go.Vs
open Go
section
variable {C:Ctx}{E:Nat->Option V}{L:Nat->Option Obj}{oid:Nat}
def mkSK (oid s bytes:Nat)(zero:List W)(v:V):Option (V×Upd):=match Jq v with
 |some (.ofNat m)=>bif Nat.ble (m*bytes) CX&&zero.length==s&&Nat.blt 0 s&&Nat.ble m A5 then
  some (.sc (.arr oid m),[(oid,some (.arr s (List.replicate m zero) 0))]) else none
 |_=>none
@[simp] theorem x_mkS {s bytes:Nat} {zero:List W} {n:Opd}:Ad C E L oid (.mkS s bytes zero n)=newK (L oid) (mkSK oid s bytes zero (n.val C E)):=by
 simp only[Ad,newK,mkSK];cases L oid with
 |some _=>rfl
 |none=>
  cases Jq (n.val C E)with
  |none=>rfl
  |some z=>cases z<;>rfl
@[simp] theorem mkSK_nat {s bytes m:Nat} {zero:List W} {k:IntKind} (h1:m*bytes<=140737488355328) (h2:zero.length=s) (h3:0<s) (h4:m<=9223372036854775807):mkSK oid s bytes zero (.sc (.c (.int k (m:Int))))=some (.sc (.arr oid m),[(oid,some (.arr s (List.replicate m zero) 0))]):=by
 have e:mkSK oid s bytes zero (.sc (.c (.int k (m:Int))))=bif Nat.ble (m*bytes) CX&&zero.length==s&&Nat.blt 0 s&&Nat.ble m A5 then
  some (.sc (.arr oid m),[(oid,some (.arr s (List.replicate m zero) 0))]) else none:=rfl
 rw[e,qT (by unfold CX;exact h1),qT (by unfold A5;exact h4),show Nat.blt 0 s=true from qT h3,h2];simp
end
end Go.Vs
namespace Go.Vs.Tryz
open Go Go.Vs
variable {A:Af}
def LT (taken:List Str)(n:Nat)(l:List (ArmH×Exp)):List (ArmH×Exp):=l.map fun a=>(⟨a.1.pos,a.1.con,news taken n a.1.vars.length⟩,a.2)
@[simp] theorem armsN_len (taken:List Str) (n:Nat) (l:List (ArmH×Exp)):(LT taken n l).length=l.length:=by simp[LT]
theorem Zdq (l:List Str)(i:Nat)(x:Str):setRow (wr (Aq l)) i [W.c (.str x)]=wr (Aq (l.set i x)):=by
 rw[setRow_set];simp[Aq,wr,qaZ,E5]
abbrev BS:Obj:=.box [zi,zi,zs,zi,.nil,.nil,zi,zs,zi,zi,.nil]
variable {A:Af}
def Zf0 (k:Nat):List Str:=[[118,49],118::numS (k+2)]
end Go.Vs.Tryz
