/- Types, walked: Open, thaw, Replace; data declarations: Result, Find, Constructor, Fields. -/
import Derived.Test.YtccmnfpbcmccpaaGreatDoorR4w
set_option linter.all false
set_option maxHeartbeats 4000000
set_option maxRecDepth 10000
namespace Go.Vs.Tryz
open Go Go.Vs
variable {A:Ag}
theorem P4 (args:List Ty)(hl:args.length<=687194767360)(t:Ty):t.size<=687194767360->(K A).call 119 [tyV t,tysV args] []=some (tyV (CE args t),[]):=by
 induction t using Ty.ind with
 |h t ih=>
 intro ht;have hal:=t.args_lt;refine fnO v119 ?_;unfold v119;by_cases h1:t.kind=2/\0<=t.id/\t.id<args.length
 .obtain ⟨ha,hb,hc⟩:=h1
  obtain⟨k,hk⟩:∃k:Nat,t.id=k:=⟨t.id.toNat,oz⟩;obtain⟨x,hx⟩:=Ab (l:=args) (i:=k) oz;have hm:CE args t=x:=Ty.map_some (by unfold Hc;rw[if_pos ⟨ha,hb,hc⟩,hk];simpa using hx);have hk2:(k:Int)<args.length:=oz
  simp(disch:=try exact zd) [ha,hk,hk2,hx,hm,-getElem?_pos]
 .have hm:CE args t=.mk t.kind t.name t.id t.home (t.args.map (CE args)):=Ty.map_none (by unfold Hc;rw [if_neg h1])
  have fin:wp (K A) (.loop Ks) (BH 0 (BO (K A) (.seq (.region [] [o 48 (.ldD true 5 (tv 5)),on (.store 5 (tv 4) (tv 48) [])] [] [4]) .ret) (Du false 0 [.cell 4 true 5] (tyV (CE args t),[]))))
   ⟨[(1,tysV args),(2,.sc (.ptr 64 0)),(4,.sc (.ptr 128 0)),(5,.sc (.ptr 1600 0)),(6,intV 0)],
     [(64,some (.box [.c (.int .i64 t.kind),.c (.str t.name),.c (.int .i64 t.id),.c (.int .i64 t.home),.c (.sl (Ty.rows t.args))])),(128,some (.box [zi,zs,zi,zi,.nil])),
       (1600,some (.box [.c (.int .i64 t.kind),.c (.str t.name),.c (.int .i64 t.id),.c (.int .i64 t.home),.arr 1793 0])),(1793,some (.arr 5 [] 0))]⟩:=by
   refine Al (fun i st=>st=⟨[(1,tysV args),(2,.sc (.ptr 64 0)),(4,.sc (.ptr 128 0)),(5,.sc (.ptr 1600 0)),(6,intV i)],
    [(64,some (.box [.c (.int .i64 t.kind),.c (.str t.name),.c (.int .i64 t.id),.c (.int .i64 t.home),.c (.sl (Ty.rows t.args))])),(128,some (.box [zi,zs,zi,zi,.nil])),
      (1600,some (.box [.c (.int .i64 t.kind),.c (.str t.name),.c (.int .i64 t.id),.c (.int .i64 t.home),.arr 1793 i])),(1793,some (.arr 5 (wr (Ty.rows ((t.args.map (CE args)).take i))) 0))]⟩) t.args.length sy ?_ ?_
   .rintro i st hi rfl
    obtain⟨x,hx⟩:=Ab hi;have hxs:=Ty.arg_lt (qc hx);have hc:=ih x (qc hx) oz;have hmx:(t.args.map (CE args))[i]?=some (CE args x):=(by rw[qk,hx];rfl);have hlen:((t.args.map (CE args)).take i).length=i:=(by simp;omega);unfold Ks;simp(disch:=try exact zd) [hi,hx,hc,hlen,AP hmx,-getElem?_pos]
   .rintro st rfl
    have htk:(t.args.map (CE args)).take t.args.length=t.args.map (CE args):=qh sy;unfold Ks;simp(disch:=try exact zd) [htk,hm,Ix,-getElem?_pos]
  by_cases ha:t.kind=2
  .by_cases hb:0<=t.id
   .have hc:¬t.id<args.length:=fun hc=>h1 ⟨ha,hb,hc⟩
    simp(disch:=try exact zd) [ha,hb,hc];simp(disch:=try exact zd) [Ty.row_eq t];exact fin
   .simp (disch:=try exact zd) [ha,hb]
    simp(disch:=try exact zd) [Ty.row_eq t];exact fin
  .simp (disch:=try exact zd) [ha]
   simp(disch:=try exact zd) [Ty.row_eq t];exact fin
def rigB (t:Ty):Prop:=Ty.all (fun u=>u.kind=3/\u.home=99->0<=u.id/\u.id<=1000) t
theorem Zg1 (t:Ty):t.size<=687194767360->rigB t->(K A).call 188 [tyV t] []=some (tyV (Cp t),[]):=by
 induction t using Ty.ind with
 |h t ih=>
 intro ht hr;have hal:=t.args_lt;refine fnO v188 ?_;unfold v188;by_cases h1:t.kind=3/\t.home=99
 .obtain ⟨ha,hb⟩:=h1
  have hv:=N1 (A:=A) (900+t.id);have hm:Cp t=.mk 1 [] (900+t.id) 0 []:=Ty.map_some (by unfold DT;rw[if_pos ⟨ha,hb⟩]);obtain⟨hr1,hr2⟩:=Ty.all.one hr ⟨ha,hb⟩;simp(disch:=try exact zd) [ha,hb,hv,hm]
 .have hm:Cp t=.mk t.kind t.name t.id t.home (t.args.map Cp):=Ty.map_none (by unfold DT;rw [if_neg h1])
  have fin:wp (K A) (.loop KO) (BH 0 (BO (K A) (.seq (.region [] [o 37 (.ldD true 5 (tv 3)),on (.store 5 (tv 2) (tv 37) [])] [] [2]) .ret) (Du false 0 [.cell 2 true 5] (tyV (Cp t),[]))))
   ⟨[(1,.sc (.ptr 64 0)),(2,.sc (.ptr 128 0)),(3,.sc (.ptr 1088 0)),(4,intV 0)],
     [(64,some (.box [.c (.int .i64 t.kind),.c (.str t.name),.c (.int .i64 t.id),.c (.int .i64 t.home),.c (.sl (Ty.rows t.args))])),(128,some (.box [zi,zs,zi,zi,.nil])),
       (1088,some (.box [.c (.int .i64 t.kind),.c (.str t.name),.c (.int .i64 t.id),.c (.int .i64 t.home),.arr 1281 0])),(1281,some (.arr 5 [] 0))]⟩:=by
   refine Al (fun i st=>st=⟨[(1,.sc (.ptr 64 0)),(2,.sc (.ptr 128 0)),(3,.sc (.ptr 1088 0)),(4,intV i)],
    [(64,some (.box [.c (.int .i64 t.kind),.c (.str t.name),.c (.int .i64 t.id),.c (.int .i64 t.home),.c (.sl (Ty.rows t.args))])),(128,some (.box [zi,zs,zi,zi,.nil])),
      (1088,some (.box [.c (.int .i64 t.kind),.c (.str t.name),.c (.int .i64 t.id),.c (.int .i64 t.home),.arr 1281 i])),(1281,some (.arr 5 (wr (Ty.rows ((t.args.map Cp).take i))) 0))]⟩) t.args.length sy ?_ ?_
   .rintro i st hi rfl
    obtain⟨x,hx⟩:=Ab hi;have hxs:=Ty.arg_lt (qc hx);have hc:=ih x (qc hx) oz (Ty.all.arg hr (qc hx));have hmx:(t.args.map Cp)[i]?=some (Cp x):=(by rw[qk,hx];rfl);have hlen:((t.args.map Cp).take i).length=i:=(by simp;omega);unfold KO;simp(disch:=try exact zd) [hi,hx,hc,hlen,AP hmx,-getElem?_pos]
   .rintro st rfl
    have htk:(t.args.map Cp).take t.args.length=t.args.map Cp:=qh sy;unfold KO;simp(disch:=try exact zd) [htk,hm,Ix]
  by_cases ha:t.kind=3
  .have hb:¬t.home=99:=fun hb=>h1 ⟨ha,hb⟩
   simp(disch:=try exact zd) [ha,hb];simp(disch:=try exact zd) [Ty.row_eq t];exact fin
  .simp (disch:=try exact zd) [ha]
   simp(disch:=try exact zd) [Ty.row_eq t];exact fin
variable {A:Ag}
def IffB (P:Prop)(r:V×List Obj):Prop:=∃b:Bool,(b=true↔P)/\r=(Ac b,[])
theorem IffB.yes {P:Prop}(h:P):IffB P (Ac true,[]):=⟨true,by simp[h],rfl⟩
theorem IffB.no {P:Prop}(h:¬P):IffB P (Ac false,[]):=⟨false,by simp[h],rfl⟩
theorem Ty.ext {a b:Ty}(h1:a.kind=b.kind)(h2:a.name=b.name)(h3:a.id=b.id)(h4:a.home=b.home)(h5:a.args=b.args):a=b:=by
 cases a;cases b;grind[Ty.kind,Ty.name,Ty.id,Ty.home,Ty.args]
theorem Zc0 {α:Type}{l m:List α}(hn:l.length=m.length)(h:∀(i:Nat)(x y:α),l[i]?=some x->m[i]?=some y->x=y):l=m:=by
 refine qH fun i=>?_;grind
theorem Zc5 (l m:List Ty)(hl:l.length<=687194767360)(ih:∀x∈l,∀b,∃r,IffB (x=b) r/\(K A).call 52 [tyV x,tyV b] []=some r):∃r,IffB (l=m) r/\(K A).call 107 [tysV l,tysV m] []=some r:=by
 refine AB _ (vf:=v107) (by rfl) rfl sy ?_;unfold v107;by_cases hn:l.length=m.length
 .simp (disch:=try exact zd) [hn]
  refine Al (fun i s=>(∀(j:Nat) x y,j<i->l[j]?=some x->m[j]?=some y->x=y)/\s=⟨[(0,tysV l),(1,tysV m),(5,intV i)],[]⟩) l.length ⟨oz,by simp⟩ ?_ ?_
  .rintro i s hi ⟨hs,rfl⟩
   obtain⟨x,hx⟩:=Ab hi;obtain⟨y,hy⟩:=Ab (l:=m) (i:=i) oz;obtain⟨_,⟨b,hb,rfl⟩,hc⟩:=ih x (qc hx) y;unfold HR;cases b with
   |true=>
    have hxy:x=y:=hb.1 rfl;simp(disch:=try exact zd) [hi,hx,hy,hc,-getElem?_pos];grind
   |false=>
    have hne:l≠m:=by
     grind
    simp(disch:=try exact zd) [hi,hx,hy,hc,-getElem?_pos];exact IffB.no hne
  .rintro s ⟨hs,rfl⟩
   have he:l=m:=Zc0 hn fun i x y hx hy=>hs i x y (qf.1 hx).1 hx hy;unfold HR;simp(disch:=try exact zd);exact IffB.yes he
 .have hn':¬(l.length:Int)=m.length:=oz
  have hne:l≠m:=fun h=>hn (by rw[h]);simp(disch:=try exact zd) [hn,hn'];exact IffB.no hne
theorem So:∀(n:Nat)(a b:Ty),a.size<=n->n<=687194767360->∃r,IffB (a=b) r/\(K A).call 52 [tyV a,tyV b] []=some r:=by
 intro n
 induction n with
 |zero=>
  intro a b ha;have:=a.size_pos;omega
 |succ n ih=>
  intro a b ha hn;have hal:=a.args_lt;obtain⟨_,⟨v,hv,rfl⟩,hc⟩:=Zc5 (A:=A) a.args b.args oz (fun x hx b=>ih x b (by have:=Ty.arg_lt hx;omega) oz);refine AB _ (vf:=v52) (by rfl) rfl sy ?_;unfold v52;by_cases h1:a.kind=b.kind
  .by_cases h2:a.name=b.name
   .by_cases h3:a.id=b.id
    .by_cases h4:a.home=b.home
     .simp (disch:=try exact zd) [h1,h2,h3,h4,hc]
      exact⟨v,hv.trans ⟨fun h5=>Ty.ext h1 h2 h3 h4 h5,fun h=>by rw[h]⟩,rfl⟩
     .simp (disch:=try exact zd) [h1,h2,h3,h4,hc]
      grind[IffB.no]
    .simp (disch:=try exact zd) [h1,h2,h3,hc]
     grind[IffB.no]
   .simp (disch:=try exact zd) [h1,h2,hc]
    grind[IffB.no]
  .simp (disch:=try exact zd) [h1,hc]
   grind[IffB.no]
variable {A:Ag}
theorem NI (l:List Int)(n:Int)(h:l.length<=687194767360):(K A).call 211 [Cy l,intV n] []=some (Ac (decide (n∈l)),[]):=by
 refine fnO v211 ?_;unfold v211;simp(disch:=try exact zd);refine Al (fun i s=>(∀j:Nat,j<i->l[j]?≠some n)/\s=⟨[(0,Cy l),(1,intV n),(5,intV i)],[]⟩) l.length ⟨by simp,by simp⟩ ?_ ?_
 .rintro i s hi ⟨hn,rfl⟩
  obtain⟨x,hx⟩:=Ab hi;unfold NH;by_cases hxn:x=n
  .have hm:n∈l:=hxn▸qc hx
   simp(disch:=try exact zd) [hi,hx,hxn,hm,-getElem?_pos]
  .simp (disch:=try exact zd) [hi,hx,hxn,-getElem?_pos]
   intro j hj;by_cases hji:j<i
   .exact hn j hji
   .obtain rfl:j=i:=oz
    rw[hx];simpa using hxn
 .rintro s ⟨hn,rfl⟩
  have hm:n∉l:=by
   intro hm;obtain⟨j,hj,he⟩:=qT hm;exact hn j hj (by rw[qj hj,he])
  unfold NH;simp(disch:=try exact zd) [hm]
def Vm (k:Int)(t:Ty)(out o2:List Ty):Prop:=(∀x∈out,x∈o2)/\leafIn k o2 t/\∀p:Ty->Prop,Ty.all p t->∀x∈o2,x∈out\/(p x/\x.kind=k)
def PQ (k:Int)(t:Ty)(out:List Ty)(r:V×List Obj):Prop:=∃o2:List Ty,out.length<=o2.length/\o2.length<=out.length+t.size/\(∀x∈o2,x.size<=687194767360)/\Vm k t out o2/\r=(.sc (.arr 0 o2.length),[.arr 5 (wr (Ty.rows o2)) 0])
theorem Tz (k:Int):∀(n:Nat)(t:Ty)(out:List Ty),t.size<=n->(∀x∈out,x.size<=687194767360)->out.length+t.size<=687194767360->
 ∃r,PQ k t out r/\(K A).call 210 [.sc (.arr 0 out.length),tyV t,intV k] [.arr 5 (wr (Ty.rows out)) 0]=some r:=by
 intro n
 induction n with
 |zero=>
  intro t out ht;have:=t.size_pos;omega
 |succ n ih=>
  intro t out ht ho hn;have hal:=t.args_lt;have hpos:=t.size_pos;have hts:=t.size_eq;refine fnE v210 ?_;have kids:¬(t.kind=k/\t.args=[])->wp (K A) (.loop K2) (BH 2 (BO (K A) (.seq (.region [] [o 51 (.mv (tv 0)),o 6 (.mv (tv 51))] [] [6]) .ret) (B3 true 1 [.tmp 6] (PQ k t out))))
   ⟨[(0,.sc (.arr 0 out.length)),(2,intV k),(4,.sc (.ptr 64 0)),(8,intV 0)],[(0,some (.arr 5 (wr (Ty.rows out)) 0)),(64,some (.box (wc t.row)))]⟩:=by
   intro hnl;refine Al (fun i s=>∃o2:List Ty,out.length<=o2.length/\o2.length<=out.length+((t.args.map Ty.size).take i).sum/\(∀x∈o2,x.size<=687194767360)/\
    (∀x∈out,x∈o2)/\(∀(j:Nat) y,j<i->t.args[j]?=some y->leafIn k o2 y)/\(∀p:Ty->Prop,Ty.all p t->∀x∈o2,x∈out\/(p x/\x.kind=k))/\
    s=⟨[(0,.sc (.arr 0 o2.length)),(2,intV k),(4,.sc (.ptr 64 0)),(8,intV i)],[(0,some (.arr 5 (wr (Ty.rows o2)) 0)),(64,some (.box (wc t.row)))]⟩) t.args.length
    ⟨out,oz,by simp,ho,fun _ h=>h,oz,fun p _ x hx=>.inl hx,by simp⟩ ?_ ?_
   .rintro i s hi ⟨o2,h0,h1,h2,q1,q2,q3,rfl⟩
    obtain⟨x,hx⟩:=Ab hi;have hxm':=qc hx;have hxs:=Ty.arg_lt hxm';have hxm:(t.args.map Ty.size)[i]?=some x.size:=(by rw[qk,hx];rfl);have hsum:((t.args.map Ty.size).take (i+1)).sum=((t.args.map Ty.size).take i).sum+x.size:=(by rw[AP hxm];simp);have hle:((t.args.map Ty.size).take (i+1)).sum<=(t.args.map Ty.size).sum:=DS;obtain⟨_,⟨o3,h3,h4,h5,⟨r1,r2,r3⟩,rfl⟩,hc⟩:=ih x o2 oz h2 oz;unfold K2
    simp(disch:=try exact zd) [hi,hx,hc,h3,-getElem?_pos];refine⟨o3,oz,oz,h5,fun y hy=>r1 y (q1 y hy),?_,?_,by simp⟩
    .intro j y hj hy
     by_cases hji:j<i
     .exact(q2 j y hji hy).mono r1
     .obtain rfl:j=i:=oz
      rw[hx]at hy;cases hy;exact r2
    .intro p hp y hy
     rcases r3 p (hp.arg hxm') y hy with h|h
     .exact q3 p hp y h
     .exact .inr h
   .rintro s ⟨o2,h0,h1,h2,q1,q2,q3,rfl⟩
    rw[qh sy]at h1;unfold K2;simp(disch:=try exact zd);refine⟨o2,h0,oz,h2,⟨q1,Ty.all_iff.2 ⟨fun a b=>absurd ⟨a,b⟩ hnl,fun y hy=>?_⟩,q3⟩,rfl⟩;obtain⟨j,hj,he⟩:=qT hy;exact q2 j y hj (by rw[qj hj,he])
  unfold v210;by_cases h1:t.kind=k
  .by_cases h2:t.args=[]
   .simp (disch:=try exact zd) [h1,h2]
    refine Al (fun i s=>(∀j:Nat,j<i->out[j]?≠some t)/\s=⟨[(0,.sc (.arr 0 out.length)),(4,.sc (.ptr 64 0)),(7,intV i)],[(0,some (.arr 5 (wr (Ty.rows out)) 0)),(64,some (.box (wc t.row)))]⟩) out.length ⟨by simp,by simp⟩ ?_ ?_
    .rintro i s hi ⟨hno,rfl⟩
     obtain⟨x,hx⟩:=Ab hi;obtain⟨_,⟨b,hb,rfl⟩,hc⟩:=So (A:=A) 687194767360 x t (ho x (qc hx)) oz;unfold Lq;cases b with
     |true=>
      have hxt:x=t:=hb.1 rfl;simp(disch:=try exact zd) [hi,hx,hc,-getElem?_pos];refine⟨out,oz,oz,ho,⟨fun _ h=>h,Ty.all_iff.2 ⟨fun _ _=>hxt▸qc hx,fun y hy=>by rw[h2]at hy;cases hy⟩,fun p _ y hy=>.inl hy⟩,rfl⟩
     |false=>
      have hxt:x≠t:=fun h=>absurd (hb.2 h) sy;simp(disch:=try exact zd) [hi,hx,hc,-getElem?_pos];intro j hj;by_cases hji:j<i
      .exact hno j hji
      .obtain rfl:j=i:=oz
       rw[hx];simpa using hxt
    .rintro s ⟨hno,rfl⟩
     unfold Lq;have fin:PQ k t out (.sc (.arr 0 (out++[t]).length),[.arr 5 (wr (Ty.rows (out++[t]))) 0]):=by
      refine⟨out++[t],by simp,by simp;omega,?_,⟨fun x hx=>by simp[hx],Ty.all_iff.2 ⟨fun _ _=>by simp,fun y hy=>by rw[h2]at hy;cases hy⟩,?_⟩,rfl⟩
      .intro x hx
       rcases qp.1 hx with hx|hx
       .exact ho x hx
       .simp only [qo] at hx
        subst hx;omega
      .intro p hp x hx
       rcases qp.1 hx with hx|hx
       .exact .inl hx
       .simp only [qo] at hx
        subst hx;exact .inr ⟨hp.one,h1⟩
     simp(disch:=try exact zd);simpa using fin
   .have h3:¬t.args.length=0:=fun h=>h2 (qS.1 h)
    simp(disch:=try exact zd) [h1,h2,h3];exact kids fun h=>h2 h.2
  .simp (disch:=try exact zd) [h1]
   exact kids fun h=>h1 h.1
variable {A:Ag}
theorem Pr {l:List Ty}{i:Nat}{x:Ty}(h:l[i]?=some x):((l.take (i+1)).map Ty.size).sum=((l.take i).map Ty.size).sum+x.size:=by
 rw[AP h];simp
theorem QM (l:List Ty)(i:Nat):((l.take i).map Ty.size).sum<=(l.map Ty.size).sum:=by
 rw[qaC];exact DS
def Ti (k:Int)(l:List Ty)(o2:List Ty):Prop:=o2.length<=(l.map Ty.size).sum/\(∀x∈o2,x.size<=687194767360)/\(∀t∈l,leafIn k o2 t)/\∀p:Ty->Prop,(∀t∈l,Ty.all p t)->∀x∈o2,p x/\x.kind=k
def LeafsI (k:Int)(l:List Ty)(i:Nat)(o2:List Ty):Prop:=o2.length<=((l.take i).map Ty.size).sum/\(∀x∈o2,x.size<=687194767360)/\(∀(j:Nat) t,j<i->l[j]?=some t->leafIn k o2 t)/\∀p:Ty->Prop,(∀t∈l,Ty.all p t)->∀x∈o2,p x/\x.kind=k
theorem LeafsI.next {k:Int}{l:List Ty}{i:Nat}{x:Ty}{o2 o3:List Ty}(h:LeafsI k l i o2)(hx:l[i]?=some x)(h2:o3.length<=o2.length+x.size)(h3:∀x∈o3,x.size<=687194767360)(q:Vm k x o2 o3):LeafsI k l (i+1) o3:=by
 obtain⟨a1,a2,a3,a4⟩:=h;obtain⟨r1,r2,r3⟩:=q;refine⟨by rw[Pr hx];omega,h3,?_,?_⟩
 .intro j y hj hy
  by_cases hji:j<i
  .exact(a3 j y hji hy).mono r1
  .obtain rfl:j=i:=oz
   rw[hx]at hy;cases hy;exact r2
 .intro p hp y hy
  rcases r3 p (hp x (qc hx)) y hy with h|h
  .exact a4 p hp y h
  .exact h
theorem LeafsI.all {k:Int}{l:List Ty}{o2:List Ty}(h:LeafsI k l l.length o2):Ti k l o2:=by
 obtain⟨a1,a2,a3,a4⟩:=h;rw[qh (qg _)]at a1;refine⟨a1,a2,fun t ht=>?_,a4⟩;obtain⟨j,hj,he⟩:=qT ht;exact a3 j t hj (by rw[qj hj,he])
def IdsQ (n:Nat)(l:List Ty)(ids:List Int):Prop:=ids.length<=(l.map Ty.size).sum/\(∀t∈l,E6 ids t)/\∀i∈ids,0<=i/\i<n
def Zds (n:Nat)(l:List Ty)(r:V×List Obj):Prop:=∃ids,IdsQ n l ids/\r=(Cy ids,[])
theorem KA {n c:Nat}(l:List Ty)(h:(l.map Ty.size).sum<=687194767360)(hS:∀t∈l,tyB n c t):∃r,Zds n l r/\(K A).call 195 [tysV l] []=some r:=by
 have hlen:=Ty.len_le l;refine fnE v195 ?_;unfold v195;simp(disch:=try exact zd);refine Al (fun i s=>∃o2,LeafsI 1 l i o2/\s=⟨[(0,tysV l),(3,.sc (.arr 129 o2.length)),(4,intV i)],[(129,some (.arr 5 (wr (Ty.rows o2)) 0))]⟩) l.length
  ⟨[],⟨by simp,by simp,oz,by simp⟩,by simp⟩ ?_ ?_
 .rintro i s hi ⟨o2,hI,rfl⟩
  obtain⟨x,hx⟩:=Ab hi;have hs1:=Pr hx;have hs2:=QM l (i+1);obtain⟨_,⟨o3,h1,h2,h3,hq,rfl⟩,hc⟩:=Tz (A:=A) 1 x.size x o2 (qg _) hI.2.1 (by have:=hI.1;omega);unfold Lc;simp(disch:=try exact zd) [hi,hx,hc,h1,-getElem?_pos];exact⟨o3,hI.next hx h2 h3 hq,by simp⟩
 .rintro s ⟨o1,hI,rfl⟩
  obtain⟨b1,b2,b3,b4⟩:=hI.all;unfold Lc;simp(disch:=try exact zd) [-getElem?_pos];refine Al (fun i s=>∃ids:List Int,ids.length<=i/\(∀(j:Nat) y,j<i->o1[j]?=some y->y.id∈ids)/\(∀a∈ids,0<=a/\a<n)/\s=⟨[(3,.sc (.arr 129 o1.length)),(5,.sc (.arr 1153 ids.length)),(6,intV i)],[(129,some (.arr 5 (wr (Ty.rows o1)) 0)),(1153,some (.arr 1 (wr (Bo ids)) 0))]⟩) o1.length ⟨[],by simp,oz,by simp,by simp[Bo]⟩ ?_ ?_
  .rintro i s hi ⟨ids,hi2,q1,q2,rfl⟩
   obtain⟨x,hx⟩:=Ab hi;have hc:=NI (A:=A) ids x.id oz;obtain⟨hp,hk⟩:=b4 (tyN n c) hS x (qc hx);obtain⟨hp1,hp2,_⟩:=hp.1 hk;unfold M4;by_cases hm:x.id∈ids
   .simp (disch:=try exact zd) [hi,hx,hc,hm,elOk,-getElem?_pos]
    refine⟨ids,oz,?_,q2,by simp⟩;intro j y hj hy;by_cases hji:j<i
    .exact q1 j y hji hy
    .obtain rfl:j=i:=oz
     rw[hx]at hy;cases hy;exact hm
   .simp (disch:=try exact zd) [hi,hx,hc,hm,elOk,-getElem?_pos]
    refine⟨ids++[x.id],by simp;omega,?_,?_,by simp[Bo,FO,wr]⟩
    .intro j y hj hy
     by_cases hji:j<i
     .exact qp.2 (.inl (q1 j y hji hy))
     .obtain rfl:j=i:=oz
      rw[hx]at hy;cases hy;simp
    .intro a ha
     rcases qp.1 ha with ha|ha
     .exact q2 a ha
     .simp only [qo] at ha
      subst ha;exact⟨hp1,hp2⟩
  .rintro s ⟨ids,hi2,q1,q2,rfl⟩
   unfold M4;simp(disch:=try exact zd) [-getElem?_pos];refine⟨ids,⟨oz,fun t ht=>?_,q2⟩,rfl⟩;have hcov:∀u:Ty,leafIn 1 o1 u->tyB n c u->E6 ids u:=by
    intro u
    induction u using Ty.ind with
    |h u ih=>
     intro g1 g2;refine Ty.all_iff.2 ⟨fun hk=>?_,fun y hy=>ih y hy (Ty.all.arg g1 hy) (g2.arg hy)⟩;have hmem:=Ty.all.one g1 hk (g2.one.1 hk).2.2;obtain⟨j,hj,he⟩:=qT hmem;exact q1 j u hj (by rw[qj hj,he])
   exact hcov t (b3 t ht) (hS t ht)
def Zc8 (l:List Ty)(r:V×List Obj):Prop:=∃o2,Ti 3 l o2/\r=(tysV o2,[])
theorem Vv (l:List Ty)(h:(l.map Ty.size).sum<=687194767360):∃r,Zc8 l r/\(K A).call 186 [tysV l] []=some r:=by
 have hlen:=Ty.len_le l;refine fnE v186 ?_;unfold v186;simp(disch:=try exact zd);refine Al (fun i s=>∃o2,LeafsI 3 l i o2/\s=⟨[(0,tysV l),(3,.sc (.arr 129 o2.length)),(4,intV i)],[(129,some (.arr 5 (wr (Ty.rows o2)) 0))]⟩) l.length
  ⟨[],⟨by simp,by simp,oz,by simp⟩,by simp⟩ ?_ ?_
 .rintro i s hi ⟨o2,hI,rfl⟩
  obtain⟨x,hx⟩:=Ab hi;have hs1:=Pr hx;have hs2:=QM l (i+1);obtain⟨_,⟨o3,h1,h2,h3,hq,rfl⟩,hc⟩:=Tz (A:=A) 3 x.size x o2 (qg _) hI.2.1 (by have:=hI.1;omega);unfold P7;simp(disch:=try exact zd) [hi,hx,hc,h1,-getElem?_pos];exact⟨o3,hI.next hx h2 h3 hq,by simp⟩
 .rintro s ⟨o1,hI,rfl⟩
  unfold P7;simp(disch:=try exact zd) [-getElem?_pos];exact⟨o1,hI.all,rfl⟩
variable {A:Ag}
theorem Zbc {s:List AssD}{t:Ty}{i:Nat}{x:AssD}(h:s[i]?=some x)(hx:x.id=t.id)(hn:∀(j:Nat) y,j<i->s[j]?=some y->y.id≠t.id):Fe s t=x.ty:=by
 unfold Fe;have:s.find? (fun a=>decide (a.id=t.id))=some x:=by
  rw[List.find?_eq_some_iff_getElem];obtain⟨hi,he⟩:=qf.1 h;refine⟨by simpa using hx,i,hi,he,fun j hj=>?_⟩;have:=hn j _ hj (qj oz);simpa using this
 rw[this]
theorem Zia {s:List AssD}{t:Ty}(hn:∀(j:Nat) y,j<s.length->s[j]?=some y->y.id≠t.id):Fe s t=t:=by
 unfold Fe;have:s.find? (fun a=>decide (a.id=t.id))=none:=by
  rw[List.find?_eq_none];intro x hx;obtain⟨j,hj,rfl⟩:=qT hx;simpa using hn j _ hj (qj hj)
 rw[this]
theorem I1 (s:List AssD)(hs:s.length<=687194767360)(t:Ty):t.size<=687194767360->(K A).call 191 [tyV t,C4 s] []=some (tyV (Bt s t),[]):=by
 induction t using Ty.ind with
 |h t ih=>
 intro ht;have hal:=t.args_lt;refine fnO v191 ?_;unfold v191;by_cases h1:t.kind=1
 .have hm:Bt s t=Fe s t:=Ty.map_some (by unfold C9;rw [if_pos h1])
  simp(disch:=try exact zd) [h1];refine Al (fun i st=>(∀(j:Nat) y,j<i->s[j]?=some y->y.id≠t.id)/\st=⟨[(1,C4 s),(2,.sc (.ptr 64 0)),(4,.sc (.ptr 128 0)),(5,intV i)],[(64,some (.box (wc t.row))),(128,some (.box [zi,zs,zi,zi,.nil]))]⟩) s.length ⟨oz,by simp⟩ ?_ ?_
  .rintro i st hi ⟨hn,rfl⟩
   obtain⟨x,hx⟩:=Ab hi;unfold Jp;by_cases hxt:x.id=t.id
   .have hf:=Zbc hx hxt hn
    simp(disch:=try exact zd) [hi,hx,hxt,hm,hf,-getElem?_pos]
   .simp (disch:=try exact zd) [hi,hx,hxt,-getElem?_pos]
    intro j y hj hy;by_cases hji:j<i
    .exact hn j y hji hy
    .obtain rfl:j=i:=oz
     rw[hx]at hy;cases hy;exact hxt
  .rintro st ⟨hn,rfl⟩
   have hf:=Zia hn;unfold Jp;simp(disch:=try exact zd) [hm,hf,-getElem?_pos]
 .have hm:Bt s t=.mk t.kind t.name t.id t.home (t.args.map (Bt s)):=Ty.map_none (by unfold C9;rw [if_neg h1])
  simp(disch:=try exact zd) [h1];simp(disch:=try exact zd) [Ty.row_eq t];refine Al (fun i st=>st=⟨[(1,C4 s),(2,.sc (.ptr 64 0)),(4,.sc (.ptr 128 0)),(6,.sc (.ptr 1984 0)),(7,intV i)],
   [(64,some (.box [.c (.int .i64 t.kind),.c (.str t.name),.c (.int .i64 t.id),.c (.int .i64 t.home),.c (.sl (Ty.rows t.args))])),(128,some (.box [zi,zs,zi,zi,.nil])),
     (1984,some (.box [.c (.int .i64 t.kind),.c (.str t.name),.c (.int .i64 t.id),.c (.int .i64 t.home),.arr 2177 i])),(2177,some (.arr 5 (wr (Ty.rows ((t.args.map (Bt s)).take i))) 0))]⟩) t.args.length sy ?_ ?_
  .rintro i st hi rfl
   obtain⟨x,hx⟩:=Ab hi;have hxs:=Ty.arg_lt (qc hx);have hc:=ih x (qc hx) oz;have hmx:(t.args.map (Bt s))[i]?=some (Bt s x):=(by rw[qk,hx];rfl);have hlen:((t.args.map (Bt s)).take i).length=i:=(by simp;omega);unfold OQ;simp(disch:=try exact zd) [hi,hx,hc,hlen,AP hmx,-getElem?_pos]
  .rintro st rfl
   have htk:(t.args.map (Bt s)).take t.args.length=t.args.map (Bt s):=qh sy;unfold OQ;simp(disch:=try exact zd) [htk,hm,Ix,-getElem?_pos]
theorem Yz {l m:List Int}(t:Ty):E6 l t->E6 m t->E6 (l.filter fun i=>decide (i∈m)) t:=by
 induction t using Ty.ind with
 |h t ih=>
  intro h1 h2;exact Ty.all_iff.2 ⟨fun hk=>qaV.2 ⟨Ty.all.one h1 hk,by simpa using Ty.all.one h2 hk⟩,fun x hx=>ih x hx (Ty.all.arg h1 hx) (Ty.all.arg h2 hx)⟩
def SchR (m:Nat)(r:V×List Obj):Prop:=∃(c:Nat)(t:Ty),c<=m/\tyB 0 c t/\t.size<=m/\r=(schV c t,[])
theorem Zea {n:Nat}(t:Ty)(ids:List Int)(h:t.size<=687194767360)(hi:ids.length<=687194767360)(hS:tyS n t)(hv:E6 ids t):∃r,SchR t.size r/\(K A).call 187 [tyV t,Cy ids] []=some r:=by
 refine fnE v187 ?_;obtain⟨_,⟨v,⟨g1,g2,g3⟩,rfl⟩,hc⟩:=KA (A:=A) (n:=n) (c:=0) [t] (by simpa using h) (fun u hu=>by rw[qo.1 hu];exact hS);have hn:Ty.rows [t]=[t.row]:=by simp[Ty.rows]
 have hc:(K A).call 195 [.sc (.c (.sl [t.row]))] []=some (Cy v,[]):=by rw[<-hn];exact hc
 have g1':v.length<=t.size:=by simpa using g1
 unfold v187;simp(disch:=try exact zd) [hc];refine Al (fun i st=>∃s:List AssD,s.length<=i/\(∀(j:Nat) x,j<i->v[j]?=some x->x∈ids->∃a∈s,a.id=x)/\(∀a∈s,tyB 0 s.length a.ty/\a.ty.size<=1)/\
  st=⟨[(1,Cy ids),(2,.sc (.ptr 64 0)),(4,.sc (.ptr 128 0)),(5,Cy v),(6,.sc (.arr 449 s.length)),(7,intV i)],[(64,some (.box (wc t.row))),(128,some (.box [zi,zi,zs,zi,zi,.nil])),(449,some (.arr 6 (wr (De s)) 0))]⟩) v.length ⟨[],by simp,oz,by simp,by simp⟩ ?_ ?_
 .rintro i st hi2 ⟨s,hs,q1,q2,rfl⟩
  obtain⟨x,hx⟩:=Ab hi2;have hc2:=NI (A:=A) ids x hi;have hb:=PM (A:=A) s.length;have he:(W.c (.int .i64 x)::wc (Ty.mk 2 [] s.length 0 []).row)=wc (BE ⟨x,.mk 2 [] s.length 0 []⟩):=rfl;unfold Ng;by_cases hm:x∈ids
  .simp (disch:=try exact zd) [hi2,hx,hc2,hm,hb,he,-getElem?_pos]
   refine⟨s++[⟨x,.mk 2 [] s.length 0 []⟩],by simp;omega,?_,?_,by simp⟩
   .intro j y hj hy hyi
    by_cases hji:j<i
    .obtain ⟨a,ha,hai⟩:=q1 j y hji hy hyi
     exact⟨a,by simp[ha],hai⟩
    .obtain rfl:j=i:=oz
     rw[hx]at hy;cases hy;exact⟨_,qp.2 (.inr (qo.2 rfl)),rfl⟩
   .intro a ha
    rcases qp.1 ha with ha|ha
    .exact⟨(q2 a ha).1.mono (qg 0) sy,(q2 a ha).2⟩
    .simp only [qo] at ha
     subst ha;exact⟨Pq sy,by simp[Ty.size_leaf]⟩
  .simp (disch:=try exact zd) [hi2,hx,hc2,hm,-getElem?_pos]
   refine⟨s,oz,?_,q2,by simp⟩;intro j y hj hy hyi;by_cases hji:j<i
   .exact q1 j y hji hy hyi
   .obtain rfl:j=i:=oz
    rw[hx]at hy;cases hy;exact absurd hyi hm
 .rintro st ⟨s,hs,q1,q2,rfl⟩
  have hc3:=I1 (A:=A) s oz t h;have hS0:tyB 0 s.length (Bt s t):=Nt (l:=v.filter fun i=>decide (i∈ids)) (fun i hi=>by
   obtain⟨hi1,hi2⟩:=qaV.1 hi;obtain⟨j,hj,he⟩:=qT hi1;exact q1 j i hj (by rw[qj hj,he]) (by simpa using hi2)) (fun a ha=>(q2 a ha).1) hS (Yz t (g2 t sy) hv)
  have hsz:=OG (qg 1) (fun a ha=>(q2 a ha).2) t;unfold Ng;simp(disch:=try exact zd) [hc3,-getElem?_pos];exact⟨s.length,Bt s t,oz,hS0,oz,by simp[AY,Ty.row_eq]⟩
theorem Zh8 {ids:List Int}{o2:List Ty}(h:∀x∈o2,x.home=99->900+x.id∈ids)(t:Ty):tyS 0 t->rigB t->leafIn 3 o2 t->Py ids t:=by
 induction t using Ty.ind with
 |h t ih=>
  intro h1 h2 h3;refine Ty.all_iff.2 ⟨fun hk=>⟨(Ty.all.one h2 hk).1,h t (Ty.all.one h3 hk.1 (h1.one.2.2.1 hk.1)) hk.2⟩,fun x hx=>ih x hx (h1.arg hx) (Ty.all.arg h2 hx) (Ty.all.arg h3 hx)⟩
theorem WN (t:Ty)(h:t.size<=687194767360)(hS:tyS 0 t)(hB:rigB t):∃r,SchR t.size r/\(K A).call 137 [tyV t] []=some r:=by
 refine fnE v137 ?_;obtain⟨_,⟨v,⟨g1,g2,g3,g4⟩,rfl⟩,hc⟩:=Vv (A:=A) [t] (by simpa using h);have hn:Ty.rows [t]=[t.row]:=by simp[Ty.rows]
 have hc:(K A).call 186 [.sc (.c (.sl [t.row]))] []=some (tysV v,[]):=by rw[<-hn];exact hc
 have g1':v.length<=t.size:=by simpa using g1
 have hth:=Zg1 (A:=A) t h hB;unfold v137;simp(disch:=try exact zd) [hc];refine Al (fun i st=>∃ids:List Int,ids.length<=i/\(∀(j:Nat) x,j<i->v[j]?=some x->x.home=99->900+x.id∈ids)/\(∀a∈ids,a<2000)/\
  st=⟨[(1,.sc (.ptr 64 0)),(2,.sc (.ptr 128 0)),(3,.sc (.arr 193 ids.length)),(4,tysV v),(5,intV i)],[(64,some (.box (wc t.row))),(128,some (.box [zi,zi,zs,zi,zi,.nil])),(193,some (.arr 1 (wr (Bo ids)) 0))]⟩) v.length ⟨[],by simp,oz,by simp,by simp[Bo]⟩ ?_ ?_
 .rintro i st hi2 ⟨ids,hs,q1,q2,rfl⟩
  obtain⟨x,hx⟩:=Ab hi2;unfold OH;by_cases hm:x.home=99
  .have hxk:=g4 (fun u=>u.kind=3/\u.home=99->0<=u.id/\u.id<=1000) (fun u hu=>by rw [qo.1 hu];exact hB) x (qc hx)
   obtain⟨ha,hb⟩:=hxk.1 ⟨hxk.2,hm⟩;simp(disch:=try exact zd) [hi2,hx,hm,-getElem?_pos];refine⟨ids++[900+x.id],by simp;omega,?_,?_,by simp[Bo,FO,wr]⟩
   .intro j y hj hy hyi
    by_cases hji:j<i
    .exact qp.2 (.inl (q1 j y hji hy hyi))
    .obtain rfl:j=i:=oz
     rw[hx]at hy;cases hy;simp
   .intro a ha
    rcases qp.1 ha with ha|ha
    .exact q2 a ha
    .simp only [qo] at ha
     omega
  .simp (disch:=try exact zd) [hi2,hx,hm,-getElem?_pos]
   refine⟨ids,oz,?_,q2,by simp⟩;intro j y hj hy hyi;by_cases hji:j<i
   .exact q1 j y hji hy hyi
   .obtain rfl:j=i:=oz
    rw[hx]at hy;cases hy;exact absurd hyi hm
 .rintro st ⟨ids,hs,q1,q2,rfl⟩
  have hrig:Py ids t:=Zh8 (o2:=v) (fun x hx hh=>by
   obtain⟨j,hj,he⟩:=qT hx;exact q1 j x hj (by rw[qj hj,he]) hh) t hS hB (g3 t sy)
  have hts:=Zht t;obtain⟨k1,k2⟩:=Zhj (l:=ids) (n:=2000) q2 t hS hrig;obtain⟨_,⟨c,u,hcm,hu,hus,rfl⟩,hcl⟩:=Zea (A:=A) (Cp t) ids oz oz k1 k2;unfold OH;simp(disch:=try exact zd) [hth,hcl,-getElem?_pos];exact⟨c,u,oz,hu,oz,rfl⟩
variable {A:Ag}
def fitD (d:DataD):Prop:=Hm d/\(∀c∈d.cons,∀f∈c.fields,tyS 0 f/\f.size<=20)/\C1 d.name d.params.length/\∀c∈d.cons,c.fields.length<=2
def fitDs (ds:List DataD):Prop:=ds.length<=100/\∀d∈ds,fitD d
theorem fitDs.good {ds:List DataD}(h:fitDs ds):Gx ds:=⟨h.1,fun d hd=>(h.2 d hd).1⟩
theorem Zif {l:List Ty}(h:∀x∈l,x.size<=1):(l.map Ty.size).sum<=l.length:=by
 have:=GU h;omega
def TyR (n m:Nat)(r:V×List Obj):Prop:=∃t:Ty,tyS n t/\t.size<=m/\r=(tyV t,[])
def TyC (c m:Nat)(r:V×List Obj):Prop:=∃t:Ty,tyB 0 c t/\t.size<=m/\r=(tyV t,[])
theorem Zd1 (d:DataD)(hp:d.params.length<=100)(hcn:C1 d.name d.params.length):∃r,TyC d.params.length (1+d.params.length) r/\(K A).call 217 [.ag (wc (A2 d))] []=some r:=by
 refine fnE v217 ?_;unfold v217;simp(disch:=try exact zd);refine Al (fun i st=>∃l:List Ty,l.length=i/\(∀x∈l,tyB 0 d.params.length x/\x.size<=1)/\st=⟨[(1,.sc (.ptr 64 0)),(2,.sc (.ptr 128 0)),(3,.sc (.arr 193 i)),(4,intV i)],[(64,some (.box (wc (A2 d)))),(128,some (.box [zi,zs,zi,zi,.nil])),(193,some (.arr 5 (wr (Ty.rows l)) 0))]⟩) d.params.length ⟨[],rfl,by simp,by simp⟩ ?_ ?_
 .rintro i st hi ⟨l,hl,q,rfl⟩
  have hb:=PM (A:=A) i;unfold MX;simp(disch:=try exact zd) [hi,hb,hl];refine⟨l++[.mk 2 [] i 0 []],by simp[hl],?_,by simp⟩;intro x hx;rcases qp.1 hx with hx|hx
  .exact q x hx
  .simp only [qo] at hx
   subst hx;exact⟨Pq hi,by simp[Ty.size_leaf]⟩
 .rintro st ⟨l,hl,q,rfl⟩
  have hc:=HA (A:=A) d.name l oz;have hs:=Zif fun x hx=>(q x hx).2;unfold MX;simp(disch:=try exact zd) [hl,hc];refine⟨_,L1 (by rw[hl];exact hcn) fun x hx=>(q x hx).1,?_,rfl⟩;rw[Ty.size_eq];show 1+(l.map Ty.size).sum<=_;omega
def PK (ds:List DataD)(s:Str):Prop:=∃d∈ds,∃c∈d.cons,c.name=s
def Zfq (ds:List DataD)(s:Str)(r:V×List Obj):Prop:=∃(i k:Nat)(d:DataD)(c:ConD),ds[i]?=some d/\d.cons[k]?=some c/\c.name=s/\r=(.tu [intV i,intV k,Ac true],[])
theorem UE (ds:List DataD)(hds:Gx ds)(s:Str)(hex:PK ds s):∃r,Zfq ds s r/\(K A).call 189 [Aw ds,strV s] []=some r:=by
 have hds1:=hds.1;refine fnE v189 ?_;unfold v189;simp(disch:=try exact zd);refine Al (fun i st=>(∀(j:Nat) d,j<i->ds[j]?=some d->∀c∈d.cons,c.name≠s)/\st=⟨[(0,Aw ds),(1,strV s),(7,intV i)],[]⟩) ds.length ⟨oz,by simp⟩ ?_ ?_
 .rintro i st hi ⟨hno,rfl⟩
  obtain⟨d,hd⟩:=Ab hi;have hg:=hds.2 d (qc hd);have hg3:=hg.2.2.1;unfold R9;simp(disch:=try exact zd) [hi,hd,-getElem?_pos];refine Al (fun k st=>(∀(j:Nat) c,j<k->d.cons[j]?=some c->c.name≠s)/\st=⟨[(0,Aw ds),(1,strV s),(7,intV i),(8,intV k)],[]⟩) d.cons.length ⟨oz,by simp⟩ ?_ ?_
  .rintro k st hk ⟨hnk,rfl⟩
   obtain⟨c,hc⟩:=Ab hk;unfold KX;by_cases hcs:c.name=s
   .simp (disch:=try exact zd) [hi,hd,hk,hc,hcs,-getElem?_pos]
    exact⟨i,k,d,c,hd,hc,hcs,rfl⟩
   .simp (disch:=try exact zd) [hi,hd,hk,hc,hcs,-getElem?_pos]
    intro j y hj hy;by_cases hjk:j<k
    .exact hnk j y hjk hy
    .obtain rfl:j=k:=oz
     rw[hc]at hy;cases hy;exact hcs
  .rintro st ⟨hnk,rfl⟩
   unfold KX;simp(disch:=try exact zd) [hi,hd,-getElem?_pos];intro j y hj hy c hc;by_cases hji:j<i
   .exact hno j y hji hy c hc
   .obtain rfl:j=i:=oz
    rw[hd]at hy;cases hy;obtain⟨k,hk,he⟩:=qT hc;exact hnk k c hk (by rw[qj hk,he])
 .rintro st ⟨hno,rfl⟩
  exfalso;obtain⟨d,hd,c,hc,hcs⟩:=hex;obtain⟨i,hi,he⟩:=qT hd;exact hno i d hi (by rw[qj hi,he]) c hc hcs
def WJ (r:V×List Obj):Prop:=∃(c:Nat)(t:Ty)(b:Bool),c<=4/\tyB 0 c t/\t.size<=1000/\r=(.tu [schV c t,Ac b],[])
theorem Zcw (ds:List DataD)(hds:fitDs ds)(s:Str)(hex:PK ds s):∃r,WJ r/\(K A).call 194 [Aw ds,strV s] []=some r:=by
 refine fnE v194 ?_;obtain⟨_,⟨i,k,d,c,hd,hc,_,rfl⟩,hf⟩:=UE (A:=A) ds hds.good s hex;have hds1:=hds.1;unfold v194;obtain⟨⟨hg1,hg2,hg3,hg4⟩,hff,hcn,hc2⟩:=hds.2 d (qc hd);have hcm:=qc hc;have hfl:=hg4 c hcm;have hi:=(qf.1 hd).1;have hk:=(qf.1 hc).1;obtain⟨_,⟨u,hu1,hu2,rfl⟩,hr⟩:=Zd1 (A:=A) d oz hcn;simp(disch:=try exact zd) [hf,hd,hc,hr,hi,hk,-getElem?_pos]
 refine Al (fun j st=>∃u:Ty,tyB 0 d.params.length u/\u.size<=5+j*30/\st=⟨[(0,Aw ds),(4,.sc (.ptr 64 0)),(6,intV i),(9,.sc (.ptr 1472 0)),(10,tysV c.fields),(11,intV (((c.fields.length-j:Nat):Int)-1))],
  [(64,some (.box [zi,zi,zs,zi,zi,.nil])),(1472,some (.box (wc u.row)))]⟩) c.fields.length ⟨u,hu1,oz,by simp⟩ ?_ ?_
 .rintro j st hj ⟨v,hv1,hv2,rfl⟩
  obtain⟨a,ha⟩:∃a,c.fields.length-j=a+1:=⟨c.fields.length-j-1,oz⟩;obtain⟨f,hf2⟩:=Ab (l:=c.fields) (i:=a) oz;obtain⟨hfs,hfz⟩:=hff c hcm f (qc hf2);have hbd:=Pi (A:=A) d.params oz f oz;have har:=Ig (A:=A) (BW d.params f) v;have e1:((a+1:Nat):Int)-1=a:=oz
  rw[ha,e1];have hbs:=Pj d.params f;unfold Qb;simp(disch:=try exact zd) [hi,hd,hf2,hbd,har,-getElem?_pos];refine⟨_,L1 (s:=[45,62]) (l:=[BW d.params f,v]) IN ?_,?_,?_⟩
  .intro x hx
   simp only[qG,qag,or_false]at hx;rcases hx with rfl|rfl
   .exact Px hfs
   .exact hv1
  .rw [Ty.size_eq]
   show 1+([BW d.params f,v].map Ty.size).sum<=_;simp;omega
  .have e3:(a:Int)=((c.fields.length-(j+1):Nat):Int):=oz
   simp[e3]
 .rintro st ⟨v,hv1,hv2,rfl⟩
  rw[qa2];unfold Qb;simp(disch:=try exact zd) [hi,hd,-getElem?_pos];exact⟨d.params.length,v,true,hg1,hv1,oz,by simp[AY,Ty.row_eq]⟩
def ZdV (n m:Nat)(r:V×List Obj):Prop:=∃(l:List Ty)(b:Bool),l.length<=2/\(∀x∈l,tyS n x/\x.size<=m)/\r=(.tu [tysV l,Ac b],[])
theorem Y4 {n m:Nat}(hm:m<=10000000)(hm1:1<=m)(ds:List DataD)(hds:fitDs ds)(s:Str)(hex:PK ds s)(args:List Ty)(hl:args.length<=1000)(ha:∀x∈args,tyS n x/\x.size<=m):∃r,ZdV n (20*m) r/\(K A).call 138 [Aw ds,strV s,tysV args] []=some r:=by
 refine fnE v138 ?_;obtain⟨_,⟨i,k,d,c,hd,hc,_,rfl⟩,hf⟩:=UE (A:=A) ds hds.good s hex;have hds1:=hds.1;unfold v138;obtain⟨⟨hg1,hg2,hg3,hg4⟩,hff,hcn,hc2⟩:=hds.2 d (qc hd);have hcm:=qc hc;have hfl:=hc2 c hcm;have hi:=(qf.1 hd).1;have hk:=(qf.1 hc).1;by_cases hn:args.length=d.params.length
 .simp (disch:=try exact zd) [hf,hd,hc,hi,hk,hn,-getElem?_pos]
  refine Al (fun j st=>∃l:List Ty,l.length=j/\(∀x∈l,tyS n x/\x.size<=20*m)/\st=⟨[(0,Aw ds),(2,tysV args),(8,intV i),(11,.sc (.arr 1793 j)),(12,tysV c.fields),(13,intV j)],[(1793,some (.arr 5 (wr (Ty.rows l)) 0))]⟩) c.fields.length ⟨[],rfl,by simp,by simp⟩ ?_ ?_
  .rintro j st hj ⟨l,hlj,hq,rfl⟩
   obtain⟨f,hf2⟩:=Ab hj;obtain⟨hfs,hfz⟩:=hff c hcm f (qc hf2);have hbs:=Pj d.params f;have hbd:=Pi (A:=A) d.params oz f oz;have hop:=P4 (A:=A) args oz (BW d.params f) oz;have hos:=Qc hm1 (fun x hx=>(ha x hx).2) (BW d.params f);have hos2:(BW d.params f).size*m<=20*m:=qD m oz;unfold NT;simp(disch:=try exact zd) [hj,hd,hf2,hbd,hop,hlj,hi,-getElem?_pos]
   refine⟨l++[CE args (BW d.params f)],by simp[hlj],?_,by simp⟩;intro x hx;rcases qp.1 hx with hx|hx
   .exact hq x hx
   .simp only [qo] at hx
    subst hx;exact⟨NY (fun x hx=>(ha x hx).1) (by rw[hn];exact(Px hfs).mono (qaa _) (qg _)),oz⟩
  .rintro st ⟨l,hlj,hq,rfl⟩
   unfold NT;simp(disch:=try exact zd) [hlj,-getElem?_pos];exact⟨l,true,oz,hq,rfl⟩
 .have hn':¬(args.length:Int)=d.params.length:=oz
  simp(disch:=try exact zd) [hf,hd,hi,hn,hn',-getElem?_pos];exact⟨[],false,by simp,by simp,by simp⟩
def numS (n:Nat):Str:=if h:n<10 then [UInt8.ofNat (48+n)] else numS (n / 10)++[UInt8.ofNat (48+n % 10)]
termination_by n
decreasing_by omega
theorem En {n:Nat}(h:n<10):numS n=[UInt8.ofNat (48+n)]:=by rw[numS,dif_pos h]
theorem Ee {n:Nat}(h:¬n<10):numS n=numS (n / 10)++[UInt8.ofNat (48+n % 10)]:=by rw[numS,dif_neg h]
theorem Tm (n:Nat):1<=(numS n).length:=by
 grind[En,Ee]
theorem TX {a b:Nat}(ha:a<10)(hb:b<10)(h:UInt8.ofNat (48+a)=UInt8.ofNat (48+b)):a=b:=by
 grind[UInt8.toNat_ofNat']
theorem X0:∀(n m:Nat),numS n=numS m->n=m:=by
 intro n
 induction n using Nat.strongRecOn with
 |ind n ih=>
  intro m h;by_cases hn:n<10;grind[En,TX,Ee,qz]
  .by_cases hm:m<10
   grind
   .rw [Ee hn,Ee hm] at h
    obtain⟨h1,h2⟩:=List.append_inj' h sy;have h3:=ih (n / 10) oz _ h1;have h4:=TX (Nat.mod_lt _ oz) (Nat.mod_lt _ oz) (by simpa using h2);omega
theorem Q1 (n:Nat):∀c∈numS n,48<=c.toNat/\c.toNat<=57:=by
 induction n using Nat.strongRecOn<;>grind[En,UInt8.toNat_ofNat',Ee]
theorem GY (n:Nat):∀k,n<10 ^ k->1<=k->(numS n).length<=k:=by
 induction n using Nat.strongRecOn with
 |ind n ih=>
  intro k hk h1;by_cases hn:n<10;grind[En]
  .obtain ⟨k,rfl⟩:∃ j,k=j+1:=⟨k-1,oz⟩
   have hk1:1<=k:=by
    grind
   have:=ih (n / 10) oz k oz hk1;grind[Ee]
def AK (k:Nat):Str:=118::numS k
theorem ZdL {a b:Nat}(h:AK a=AK b):a=b:=X0 a b (by simpa[AK]using h)
noncomputable def Dj (l:List Str)(k:Nat):Nat:=match l with
 |[]=>0
 |s::r=>(open Classical in if ∃j,k<=j/\s=AK j then 1 else 0)+Dj r k
theorem HW (l:List Str)(k:Nat):Dj l k<=l.length:=by
 induction l with
 |nil=>simp[Dj]
 |cons s r ih=>simp only[Dj,qI];split<;>omega
theorem Lg (l:List Str)(k:Nat):Dj l (k+1)<=Dj l k:=by
 induction l with
 |nil=>simp[Dj]
 |cons s r ih=>
  simp only[Dj];split
  .rename_i h
   obtain⟨j,h1,h2⟩:=h;rw[if_pos ⟨j,oz,h2⟩];omega
  omega
theorem Ot {l:List Str}{k:Nat}(h:AK k∈l):Dj l (k+1)<Dj l k:=by
 induction l with
 |nil=>grind
 |cons s r ih=>
  have hm:=Lg r k;simp only[Dj];rcases qG.1 h with rfl|h
  .rw[if_neg,if_pos ⟨k,qg _,rfl⟩]<;>grind[ZdL]
  .have:=ih h
   split
   .rename_i h3
    obtain⟨j,h1,h2⟩:=h3;rw[if_pos ⟨j,oz,h2⟩];omega
   omega
def CJ (taken:List Str):Nat->Nat->Nat->Nat
 |0,k,_=>k
 |f+1,k,n=>if AK k∈taken then CJ taken f (k+1) n else if n=0 then k else CJ taken f (k+1) (n-1)
theorem EO (taken:List Str):∀f k n,k<=CJ taken f k n
 |0,k,n=>qg _
 |f+1,k,n=>by
  simp only[CJ];split
  .exact qr oz (EO taken f (k+1) n)
  .split
   simp
   .exact qr oz (EO taken f (k+1) (n-1))
theorem OM (taken:List Str):∀f k n,CJ taken f k n<=k+f
 |0,k,n=>by simp[CJ]
 |f+1,k,n=>by
  simp only[CJ];have h1:=OM taken f (k+1) n;have h2:=OM taken f (k+1) (n-1);grind
theorem ML (taken:List Str):∀f k n,n+Dj taken k<f->AK (CJ taken f k n)∉taken
 |0,k,n,h=>by omega
 |f+1,k,n,h=>by
  simp only[CJ];split
  .rename_i hm
   exact ML taken f (k+1) n (by grind[Ot])
  .rename_i hm
   split;omega
   .exact ML taken f (k+1) (n-1) (by grind[Lg])
def AS (n:Nat)(taken:List Str):Nat:=CJ taken (n+taken.length+1) 1 n
def Au (n:Nat)(taken:List Str):Str:=AK (AS n taken)
theorem JB (n:Nat)(taken:List Str):AS n taken<=n+taken.length+2:=by
 grind[OM,AS]
theorem Ds (n:Nat)(taken:List Str):Au n taken∉taken:=ML taken _ _ _ (by grind[HW])
end Go.Vs.Tryz
namespace Go.Vs
open Go
section
variable {C:Ctx}{E:LV1}{L:LO1}{oid:Nat}
@[simp] theorem b_quo {k:IntKind} {a b:Int} (h:b≠0):binV .quo 0 (.sc (.c (.int k a))) (.sc (.c (.int k b)))=some (.sc (.c (.int k (k.wrap (a.tdiv b)))),[]):=by simp[binV,binW,BI,Cw,h,CM]
@[simp] theorem x_slS {x:Opd} {lo hi:Option Opd}:Af C E L oid (.slS x lo hi)=(match x.val C E with
 |.sc (.c (.str s))=>match AR (hi.map (·.val C E)) s.length s.length with
  |none=>none
  |some h=>(AR (lo.map (·.val C E)) 0 h).map fun l=>(.sc (.c (.str ((s.take h).drop l))),[])
 |_=>none):=rfl
end
end Go.Vs
namespace Go.Vs.Tryz
open Go Go.Vs
variable {A:Ag}
def Zix:Str:=[48,49,50,51,52,53,54,55,56,57]
theorem TK (n:Nat)(h0:n≠0)(h:n<10000000000000):(K A).call 73 [intV n] []=some (strV (numS n),[]):=by
 refine fnO v73 ?_;have h0':¬(n:Int)=0:=oz
 have hneg:¬(n:Int)<0:=oz
 have hlen:=GY n 13 (by omega) (by omega);unfold v73;simp(disch:=try exact zd) [h0,h0'];refine Al (fun i s=>∃(k:Nat) (t:Str),k<=n/\t.length=i/\(if k=0 then numS n=t else numS n=numS k++t)/\s=⟨[(0,intV n),(3,strV t),(4,intV k)],[]⟩) (numS n).length ⟨n,[],qg _,rfl,by simp[h0],by first | rfl | simp⟩ ?_ ?_
 .rintro i s hi ⟨k,t,hk,ht,he,rfl⟩
  have hk0:k≠0:=by
   rintro rfl;rw[if_pos rfl]at he;rw[he]at hi;omega
  rw[if_neg hk0]at he;have hk0':¬(k:Int)=0:=oz
  obtain⟨d,hd,hd10⟩:∃d,d=k % 10/\d<10:=⟨k % 10,rfl,Nat.mod_lt _ oz⟩;have hmod:(k:Int).tmod 10=(d:Int):=by rw[Int.tmod_eq_emod_of_nonneg oz];omega
  have hdiv:(k:Int).tdiv 10=((k / 10:Nat):Int):=by rw[qa5 oz];omega
  have hb1:AR (some (intV ((d:Int)+1))) 10 10=some (d+1):=natBelow_cast (k:=.i64) (n:=d+1) oz;have hb2:AR (some (intV (d:Int))) 0 (d+1)=some d:=natBelow_cast (k:=.i64) (n:=d) oz;have hdr:∀d:Nat,d<10->List.drop d (48::List.take d [49,50,51,52,53,54,55,56,57])=[UInt8.ofNat (48+d)]:=by decide
  have hdd:=hdr d hd10;have hnd:¬(d:Int)<0:=oz
  have hnext:if k / 10=0 then numS n=UInt8.ofNat (48+d)::t else numS n=numS (k / 10)++UInt8.ofNat (48+d)::t:=by
   by_cases h10:k<10
   .rw [if_pos oz,he,En h10,hd,qau h10]
    rfl
   .rw [if_neg oz,he,Ee h10,hd]
    simp
  have htl:t.length<=13:=oz
  unfold LW;simp(disch:=try exact zd) [hk0,hk0',hnd,hmod,hdiv,hb1,hb2,hdd];exact⟨k / 10,oz,UInt8.ofNat (48+d)::t,by simp[ht],hnext,by simp⟩
 .rintro s ⟨k,t,hk,ht,he,rfl⟩
  have hk0:k=0:=by
   by_cases hk0:k=0
   .exact hk0
   .rw [if_neg hk0] at he
    have:=Tm k;rw[he]at ht;simp at ht;rw[ht]at this;simp at this
  subst hk0;rw[if_pos rfl]at he;unfold LW;simp(disch:=try exact zd) [hneg,he]
theorem WA (n:Nat)(taken:List Str)(hn:n<=584115552256)(ht:taken.length<=584115552256):(K A).call 110 [intV n,AA taken] []=some (strV (Au n taken),[]):=by
 refine fnO v110 ?_;have hmx:(if (0:Int)>(n:Int) then (0:Int) else (n:Int))=n:=by rw[if_neg oz]
 have hge:=EO taken (n+taken.length+1) 1 n;have hle:=JB n taken;have hnot:=Ds n taken;have hkdef:AS n taken=CJ taken (n+taken.length+1) 1 n:=rfl;unfold v110;simp(disch:=try exact zd) [hmx];refine Al (fun i s=>∃j:Nat,j<=n/\i<=n+taken.length/\CJ taken (n+taken.length+1-i) (1+i) j=AS n taken/\j+Dj taken (1+i)<n+taken.length+1-i/\s=⟨[(0,intV j),(1,AA taken),(5,intV ((i:Int)+1))],[]⟩) (AS n taken-1)
  ⟨n,qg _,oz,rfl,by have:=HW taken 1;simp only[qbd,Nat.sub_zero];omega,by simp⟩ ?_ ?_
 .rintro i s hi ⟨j,hj,hin,hf,hlt,rfl⟩
  have hnum:=TK (A:=A) (i+1) oz oz;have hlen:=GY (i+1) 13 oz oz;have hhas:=FZ (A:=A) taken (AK (i+1)) oz;have hv:AK (i+1)=118::numS (i+1):=rfl;obtain⟨f,hfe⟩:∃f,n+taken.length+1-i=f+1:=⟨n+taken.length-i,oz⟩;rw[hfe,qbe 1 i,CJ]at hf;rw[hfe,qbe 1 i]at hlt;rw[show(((i+1:Nat):Int))=(i:Int)+1 by omega]at hnum;rw[hv]at hhas;unfold Mm;by_cases hm:AK (i+1)∈taken
  .rw [if_pos hm] at hf
   have hm':=hm;rw[hv]at hm';have hcl:=Ot hm;simp(disch:=try exact zd) [hnum,hhas,hm'];exact⟨j,hj,oz,by rw[show n+taken.length-i=f by omega,show 1+(i+1)=i+1+1 by omega];exact hf,by rw[show 1+(i+1)=i+1+1 by omega];omega,by simp⟩
  .rw [if_neg hm] at hf
   have hm':=hm;rw[hv]at hm';have hj0:j≠0:=by
    rintro rfl;rw[if_pos rfl]at hf;omega
   rw[if_neg hj0]at hf;have hj0':¬(j:Int)=0:=oz;have hcm:=Lg taken (i+1);have hsub:IntKind.i64.wrap ((j:Int)-1)=((j-1:Nat):Int):=(by rw[FA _ oz];omega);simp(disch:=try exact zd) [hnum,hhas,hm',hj0,hj0',hsub];exact⟨j-1,oz,oz,by rw[show n+taken.length-i=f by omega,show 1+(i+1)=i+1+1 by omega];exact hf,by rw[show 1+(i+1)=i+1+1 by omega];omega,by simp⟩
 .rintro s ⟨j,hj,hin,hf,hlt,rfl⟩
  have hk1:AS n taken-1+1=AS n taken:=oz
  have hnum:=TK (A:=A) (AS n taken) oz oz;have hlen:=GY (AS n taken) 13 oz oz;have hhas:=FZ (A:=A) taken (AK (AS n taken)) oz;have hv:AK (AS n taken)=118::numS (AS n taken):=rfl;have hm:AK (AS n taken)∉taken:=hnot;obtain⟨f,hfe⟩:∃f,n+taken.length+1-(AS n taken-1)=f+1:=⟨n+taken.length-(AS n taken-1),oz⟩;rw[hfe,qbe 1 _,hk1,CJ,if_neg hm]at hf;have hj0:j=0:=by
   by_cases hj0:j=0
   .exact hj0
   .rw [if_neg hj0] at hf
    have:=EO taken f (AS n taken+1) (j-1);omega
  subst hj0;rw[hv]at hhas hm;rw[show(((AS n taken-1:Nat):Int))+1=(AS n taken:Int) by omega];unfold Mm;simp(disch:=try exact zd) [hnum,hhas,hm,Au,AK]
def headEq (a b:Exp):Prop:=a.kind=b.kind/\a.num=b.num/\a.ty=b.ty/\a.kids.length=b.kids.length/\a.arms.length=b.arms.length
def F0 (a b:Exp):Prop:=∀(i:Nat) p q,a.arms[i]?=some p->b.arms[i]?=some q->p.1.con=q.1.con/\p.1.vars.length=q.1.vars.length
def ZaB (left right:List Str)(s t:Str):Prop:=rlast left s=rlast right t/\(0<=rlast left s\/s=t)
def Zd9 (a:Exp)(l:List (Exp->List Str->List Str->Prop))(b:Exp)(left right:List Str):Prop:=
 headEq a b/\(a.kind=1->ZaB left right a.name b.name)/\(a.kind=2->a.name=b.name)/\
  (a.kind≠1->a.kind≠2->F0 a b/\∀(i:Nat) f y,l[i]?=some f->b.children[i]?=some y->f y (left++a.bound i) (right++b.bound i))
def ZiI (a:Exp):Exp->List Str->List Str->Prop:=a.fold Zd9
def news (taken:List Str)(n k:Nat):List Str:=(List.range k).map fun j=>Au (n+j) taken
@[simp] theorem news_len (taken:List Str) (n k:Nat):(news taken n k).length=k:=by simp[news]
def Z5 (taken:List Str)(e:Exp)(l:List (List Str->List Str->Exp))(old Bl:List Str):Exp:=
 if e.kind=1 then (if 0<=rlast old e.name then .mk e.kind e.pos ((Bl[(rlast old e.name).toNat]?).getD []) e.num e.kids e.arms e.ty else e)
 else
  let cs:=l.zipIdx.map fun p=>p.1 (old++e.bound p.2) (Bl++news taken old.length (e.bound p.2).length)
  .mk e.kind e.pos (if e.kind=4\/e.kind=6\/e.kind=7 then Au old.length taken else e.name) e.num (cs.take e.kids.length)
   (List.zipWith (fun a c=>(⟨a.1.pos,a.1.con,news taken old.length a.1.vars.length⟩,c)) e.arms (cs.drop e.kids.length)) e.ty
def RL (taken:List Str)(e:Exp):List Str->List Str->Exp:=e.fold (Z5 taken)
def Sm (taken:List Str)(e:Exp)(old Bl:List Str):List Exp:=e.children.zipIdx.map fun p=>RL taken p.1 (old++e.bound p.2) (Bl++news taken old.length (e.bound p.2).length)
@[simp] theorem canonC_len (taken:List Str) (e:Exp) (old Bl:List Str):(Sm taken e old Bl).length=e.kids.length+e.arms.length:=by simp[Sm]
theorem YC {e x:Exp}{i:Nat}(hk:e.kind≠1)(hx:e.children[i]?=some x){s:Str}(hs:s∈Ad x):s∈e.bound i\/s∈Ad e:=by
 by_cases hb:s∈e.bound i;grind
 .refine .inr ?_
  rw[Ep,if_neg hk,<-O0];have key:∀n,n<=e.children.length->i<n->s∈outP e n:=by
   intro n
   induction n with
   |zero=>simp
   |succ n ih=>
    intro hn hi;obtain⟨y,hy⟩:=Ab (l:=e.children) (i:=n) oz;rw[MK hy,Kr];grind
  grind
theorem Bx {e:Exp}{i:Nat}:e.bound i=if e.kind=4\/e.kind=7\/(e.kind=6/\i=1) then [e.name] else if e.kind=8/\0<i then ((e.arms[i-1]?).map fun a=>a.1.vars).getD [] else []:=rfl
section
variable (k p:Int)(n:Str)(m:Int)(ks:List Exp)(l:List (ArmH×Exp))(t:Ty)
theorem MD:(Exp.mk k p n m ks l t).kind=k:=rfl
theorem Rm:(Exp.mk k p n m ks l t).pos=p:=rfl
theorem IG:(Exp.mk k p n m ks l t).name=n:=rfl
theorem Qt:(Exp.mk k p n m ks l t).num=m:=rfl
theorem FE:(Exp.mk k p n m ks l t).kids=ks:=rfl
theorem Dq:(Exp.mk k p n m ks l t).arms=l:=rfl
theorem T9:(Exp.mk k p n m ks l t).ty=t:=rfl
theorem EZ (i:Nat):(Exp.mk k p n m ks l t).bound i=if k=4\/k=7\/(k=6/\i=1) then [n] else if k=8/\0<i then ((l[i-1]?).map fun a=>a.1.vars).getD [] else []:=rfl
theorem BD:(Exp.mk k p n m ks l t).children=ks++l.map (·.2):=rfl
end
theorem headEq.symm {a b:Exp}(h:headEq a b):headEq b a:=⟨h.1.symm,h.2.1.symm,h.2.2.1.symm,h.2.2.2.1.symm,h.2.2.2.2.symm⟩
theorem headEq.children {a b:Exp}(h:headEq a b):a.children.length=b.children.length:=by
 rw[a.children_len,b.children_len,h.2.2.2.1,h.2.2.2.2]
def DF (e:Exp)(cs:List Exp):Exp:=.mk e.kind 0 e.name e.num (cs.take e.kids.length) (List.zipWith (fun(a:ArmH×Exp) c=>((⟨0,a.1.con,a.1.vars⟩:ArmH),c)) e.arms (cs.drop e.kids.length)) e.ty
def Aj (e:Exp):Exp:=e.fold DF
theorem Eb (e:Exp):Aj e=DF e (e.children.map Aj):=Exp.fold_eq _ e
theorem Wv {α β γ:Type}{f:α->β->γ}{l:List α}{m:List β}(h:l.length=m.length)(g:γ->β)(hg:∀a b,g (f a b)=b):(List.zipWith f l m).map g=m:=by
 refine qH fun j=>?_;rw[qk,qaq];by_cases hj:j<l.length
 .rw [qj hj,qj (show j<m.length by omega)]
  simp[hg]
 .rw [qap oz,qap oz]
  rfl
theorem E4 (e:Exp):(Aj e).kind=e.kind/\(Aj e).name=e.name/\(Aj e).num=e.num/\(Aj e).ty=e.ty/\(Aj e).kids.length=e.kids.length/\(Aj e).arms.length=e.arms.length/\
 (Aj e).children=e.children.map Aj/\(∀i:Nat,(Aj e).arms[i]?=(e.arms[i]?).map fun(a:ArmH×Exp)=>((⟨0,a.1.con,a.1.vars⟩:ArmH),Aj a.2)):=by
 have hl:(e.children.map Aj).length=e.kids.length+e.arms.length:=by simp
 have hkl:((e.children.map Aj).take e.kids.length).length=e.kids.length:=by rw[qR,hl];omega
 have hdl:((e.children.map Aj).drop e.kids.length).length=e.arms.length:=by rw[qab,hl];omega
 have hal:(List.zipWith (fun(a:ArmH×Exp) (c:Exp)=>((⟨0,a.1.con,a.1.vars⟩:ArmH),c)) e.arms ((e.children.map Aj).drop e.kids.length)).length=e.arms.length:=by
  rw[List.length_zipWith,hdl];omega
 rw[Eb];refine⟨rfl,rfl,rfl,rfl,by simp only[DF,FE,hkl],by simp only[DF,Dq,hal],?_,?_⟩
 .simp only [DF,BD]
  rw[Wv (g:=fun(x:ArmH×Exp)=>x.2) (by rw[hdl]) (fun _ _=>rfl),qa6]
 .intro i
  simp only[DF,Dq,qaq];have hd:(e.children.map Aj).drop e.kids.length=e.arms.map fun a=>Aj a.2:=by
   simp[Exp.children]
  rw[hd,qk];cases e.arms[i]?<;>rfl
theorem S3 (e:Exp):(Aj e).weight=e.weight:=by
 induction e using Exp.ind with
 |h e ih=>
  obtain⟨h1,h2,h3,h4,h5,h6,h7,h8⟩:=E4 e;rw[Exp.weight_eq,e.weight_eq,h7,qas];have ha:((Aj e).arms.map fun a=>a.1.vars.length)=e.arms.map fun a=>a.1.vars.length:=by
   refine qH fun i=>?_;rw[qk,qk,h8];cases e.arms[i]?<;>rfl
  have hc:e.children.map (Exp.weight∘Aj)=e.children.map Exp.weight:=qM fun x hx=>ih x hx;rw[ha,hc]
def ZiK (e:Exp)(taken:List Str):Exp:=RL (taken++Ad e) (Aj e) [] []
end Go.Vs.Tryz
namespace Go.Vs
open Go
def elK (x:Option Obj)(N i:Nat):Bool:=match x with
 |some (.arr _ rows _)=>rows.length==N&&Nat.blt i N
 |_=>false
@[simp] theorem elK_some {s p N i:Nat} {rows:WW1}:elK (some (.arr s rows p)) N i=(rows.length==N&&Nat.blt i N):=rfl
@[simp] theorem elOk_eq {L:LO1} {k N i:Nat}:elOk L k N i=elK (L k) N i:=rfl
end Go.Vs
namespace Go.Vs.Tryz
open Go Go.Vs
variable {A:Ag}
abbrev exsV (l:List Exp):V:=.sc (.c (.sl (Exp.rows l)))
def Av (zz:List (ArmH×Exp))(cs:List Exp):List (ArmH×Exp):=List.zipWith (fun(a:ArmH×Exp) c=>(a.1,c)) zz cs
@[simp] theorem armsW_len (zz:List (ArmH×Exp)) (cs:List Exp):(Av zz cs).length=min zz.length cs.length:=by simp[Av]
theorem CN {α:Type}{zs zz:List α}{i:Nat}{x:α}(hl:zs.length=zz.length)(hx:zs[i]?=some x):(zs.take i++zz.drop i).set i x=zs.take (i+1)++zz.drop (i+1):=by
 have hi:=(qf.1 hx).1;have htl:(zs.take i).length=i:=by simp;omega
 rw[AP hx,qaj];have hd:zz.drop i=zz[i]'(by omega)::zz.drop (i+1):=qa7 oz;rw[hd,List.set_append_right _ _ oz,htl,qa2,List.set_cons_zero];rfl
theorem Ft (l:List (ArmH×Exp))(i:Nat)(x:ArmH×Exp):setRow (wr (Exp.armRows l)) i (wc (Ax x))=wr (Exp.armRows (l.set i x)):=by
 rw[setRow_set];simp[Exp.armRows_map,wr,qa8]
theorem MY (a:ArmH×Exp)(c:Exp):splice (wc (Ax a)) 3 (wc c.row)=some (wc (Ax (a.1,c))):=by
 rw[Ax,Ax,Exp.row_eq a.2,Exp.row_eq c];rfl
theorem CR {α:Type}{zs zz:List α}{i:Nat}(hl:zs.length=zz.length)(hi:i<zz.length):(zs.take i++zz.drop i)[i]?=zz[i]?:=by
 have htl:(zs.take i).length=i:=by simp;omega
 rw[qN oz,htl,qa2,qah];rfl
theorem CV {α:Type}{zs zz:List α}{i:Nat}(hl:zs.length=zz.length):(zs.take i++zz.drop i).length=zz.length:=by
 simp;omega
theorem Sg (e:Exp)(cs:List Exp)(h:cs.length=e.kids.length+e.arms.length)(hl:e.weight<=687194767360):(K A).call 106 [expV e,exsV cs] []=
 some (.ag [.c (.int .i64 e.kind),.c (.int .i64 e.pos),.c (.str e.name),.c (.int .i64 e.num),.arr 0 e.kids.length,.arr 1 e.arms.length,.c (.int .i64 e.ty.kind),.c (.str e.ty.name),.c (.int .i64 e.ty.id),.c (.int .i64 e.ty.home),.c (.sl (Ty.rows e.ty.args))],
  [.arr 11 (wr (Exp.rows (cs.take e.kids.length))) 0,.arr 14 (wr (Exp.armRows (Av e.arms (cs.drop e.kids.length)))) 0]):=by
 refine fnO v106 ?_;have hle:=e.children_le;rw[e.children_len]at hle;have hrow:wc e.row=[.c (.int .i64 e.kind),.c (.int .i64 e.pos),.c (.str e.name),.c (.int .i64 e.num),.c (.sl (Exp.rows e.kids)),.c (.sl (Exp.armRows e.arms)),.c (.int .i64 e.ty.kind),.c (.str e.ty.name),.c (.int .i64 e.ty.id),.c (.int .i64 e.ty.home),.c (.sl (Ty.rows e.ty.args))]:=by rw[Exp.row_eq];rfl
 have hzl:(Av e.arms (cs.drop e.kids.length)).length=e.arms.length:=by rw[armsW_len,qab];omega
 have hfit:BK 11 (Exp.rows cs)=true:=by rw[Exp.rows_map];exact F8 Exp.row_len cs
 have htk:(Exp.rows cs).take e.kids.length=Exp.rows (cs.take e.kids.length):=by simp[Exp.rows_map,qaC]
 have hcl:(cs.take e.kids.length).length=e.kids.length:=by rw[qR];omega
 unfold v106;simp(maxSteps:=9^7) (disch:=try exact zd) [h,hrow,hfit,htk,hcl,-getElem?_pos];refine Am (fun i=>⟨[(1,exsV cs),(4,.sc (.ptr 128 0)),(5,intV e.kids.length),(6,.sc (.ptr 1152 0)),(7,intV i)],
  [(128,some (.box [zi,zi,zs,zi,.nil,.nil,zi,zs,zi,zi,.nil])),(1152,some (.box [.c (.int .i64 e.kind),.c (.int .i64 e.pos),.c (.str e.name),.c (.int .i64 e.num),.arr 1472 e.kids.length,.arr 1664 e.arms.length,.c (.int .i64 e.ty.kind),.c (.str e.ty.name),.c (.int .i64 e.ty.id),.c (.int .i64 e.ty.home),.c (.sl (Ty.rows e.ty.args))])),
    (1472,some (.arr 11 (wr (Exp.rows (cs.take e.kids.length))) 0)),(1664,some (.arr 14 (wr (Exp.armRows ((Av e.arms (cs.drop e.kids.length)).take i++e.arms.drop i))) 0))]⟩) e.arms.length ?_ ?_ ?_
 .simp
 .intro i hi
  obtain⟨a,ha⟩:=Ab hi;obtain⟨c,hc⟩:=Ab (l:=cs) (i:=e.kids.length+i) oz;have hz:(Av e.arms (cs.drop e.kids.length))[i]?=some (a.1,c):=by
   unfold Av;rw[qaq,ha,qah,hc]
  have hg:=CR hzl hi;rw[ha]at hg;have hs:=CN hzl hz;have hln:=CV (i:=i) hzl;rw[<-hs];generalize (Av e.arms (cs.drop e.kids.length)).take i++e.arms.drop i=zz at hg hln |-;have hset:=Ft zz i (a.1,c);have hsp:=MY a c;have hnb:AH (intV ((e.kids.length:Int)+i)) cs.length=some (e.kids.length+i):=natBelow_cast (k:=.i64) (n:=e.kids.length+i) oz;unfold I4
  simp(maxSteps:=9^7) (disch:=try exact zd) [hi,hg,hln,hc,hnb,hsp,hset,Bz,-getElem?_pos]
 .have ht:(Av e.arms (cs.drop e.kids.length)).take e.arms.length++e.arms.drop e.arms.length=Av e.arms (cs.drop e.kids.length):=by
   rw[qax,qK,qh oz]
  rw[ht];unfold I4;simp(maxSteps:=9^7) (disch:=try exact zd) [hzl,-getElem?_pos]
def BV (l:List (ArmH×Exp)):List (ArmH×Exp):=l.map fun a=>(⟨0,a.1.con,a.1.vars⟩,a.2)
@[simp] theorem armsP_len (l:List (ArmH×Exp)):(BV l).length=l.length:=by simp[BV]
theorem Nj (a:ArmH×Exp):splice (wc (Ax a)) 0 [W.c (.int .i64 0)]=some (wc (Ax ((⟨0,a.1.con,a.1.vars⟩:ArmH),a.2))):=by
 rw[Ax,Ax,Exp.row_eq a.2];rfl
theorem TJ (e:Exp):BV (Av e.arms ((e.children.map Aj).drop e.kids.length))=(Aj e).arms:=by
 obtain⟨_,_,_,_,_,h6,_,h8⟩:=E4 e;have hd:(e.children.map Aj).drop e.kids.length=e.arms.map fun a=>Aj a.2:=by simp[Exp.children]
 refine qH fun i=>?_;rw[h8,hd];unfold BV Av;rw[qk,qaq,qk];cases e.arms[i]?<;>rfl
theorem Th (e:Exp):(e.children.map Aj).take e.kids.length=(Aj e).kids:=by
 rw[Eb];rfl
theorem LS (e:Exp):wc (Aj e).row=[.c (.int .i64 e.kind),.c (.int .i64 0),.c (.str e.name),.c (.int .i64 e.num),.c (.sl (Exp.rows (Aj e).kids)),.c (.sl (Exp.armRows (Aj e).arms)),.c (.int .i64 e.ty.kind),.c (.str e.ty.name),.c (.int .i64 e.ty.id),.c (.int .i64 e.ty.home),.c (.sl (Ty.rows e.ty.args))]:=by
 obtain⟨h1,h2,h3,h4,_,_,_,_⟩:=E4 e;have hp:(Aj e).pos=0:=by rw[Eb];rfl
 rw[Exp.row_eq,h1,h2,h3,h4,hp];rfl
theorem Pc (e:Exp):e.weight<=687194767360->(K A).call 51 [expV e] []=some (expV (Aj e),[]):=by
 induction e using Exp.ind with
 |h e ih=>
 intro hl;refine fnO v51 ?_;have hle:=e.children_le;rw[e.children_len]at hle;have hc:=E7 (A:=A) e oz;have hml:(e.children.map Aj).length=e.children.length:=by simp
 have hw:=Sg (A:=A) e (e.children.map Aj) (by rw[hml,e.children_len]) hl;have hal:(Av e.arms ((e.children.map Aj).drop e.kids.length)).length=e.arms.length:=by rw[armsW_len,qab,hml,e.children_len];omega
 rw[Th]at hw;have hks:(Aj e).kids.length=e.kids.length:=(E4 e).2.2.2.2.1;have has:(Aj e).arms.length=e.arms.length:=(E4 e).2.2.2.2.2.1;unfold v51;simp(maxSteps:=9^7) (disch:=try exact zd) [hc,-getElem?_pos];refine Am (fun i=>⟨[(1,.sc (.ptr 64 0)),(2,.sc (.ptr 128 0)),(3,.sc (.arr 288 e.children.length)),(4,intV i)],
  [(64,some (.box (wc e.row))),(128,some (.box [zi,zi,zs,zi,.nil,.nil,zi,zs,zi,zi,.nil])),(288,some (.arr 11 (wr (Exp.rows ((e.children.map Aj).take i++e.children.drop i))) 0))]⟩) e.children.length ?_ ?_ ?_
 .simp
 .intro i hi
  obtain⟨x,hx⟩:=Ab hi;have hmem:=qc hx;have hrec:=ih x hmem (by have:=Exp.child_lt hmem;omega);have hz:(e.children.map Aj)[i]?=some (Aj x):=by simp[hx]
  have hg:=CR hml hi;rw[hx]at hg;have hs:=CN hml hz;have hln:=CV (i:=i) hml;rw[<-hs];generalize (e.children.map Aj).take i++e.children.drop i=zz at hg hln |-;have hset:=DH zz i (Aj x);have hi':(i:Int)<(e.kids.length:Int)+e.arms.length:=by rw[e.children_len]at hi;omega
  rw[e.children_len]at hln hi;unfold Lz;simp(maxSteps:=9^7) (disch:=try exact zd) [hi,hi',hg,hln,hrec,hset,Bz,-getElem?_pos]
 .have ht:(e.children.map Aj).take e.children.length++e.children.drop e.children.length=e.children.map Aj:=by
   rw[qax,qK,qh oz]
  rw[ht];unfold Lz;simp(maxSteps:=9^7) (disch:=try exact zd) [hw,hml,-getElem?_pos];have hsa:=TJ e;generalize Av e.arms ((e.children.map Aj).drop e.kids.length)=ws at *
  have hpl:(BV ws).length=ws.length:=armsP_len ws;refine Am (fun i=>⟨[(2,.sc (.ptr 128 0)),(5,.sc (.ptr 1664 0)),(6,intV i)],
   [(128,some (.box [zi,zi,zs,zi,.nil,.nil,zi,zs,zi,zi,.nil])),(288,some (.arr 11 (wr (Exp.rows (e.children.map Aj))) (e.kids.length+e.arms.length))),(1632,some (.arr 11 (wr (Exp.rows (Aj e).kids)) 0)),
     (1633,some (.arr 14 (wr (Exp.armRows ((BV ws).take i++ws.drop i))) 0)),
     (1664,some (.box [.c (.int .i64 e.kind),zi,.c (.str e.name),.c (.int .i64 e.num),.arr 1632 e.kids.length,.arr 1633 e.arms.length,.c (.int .i64 e.ty.kind),.c (.str e.ty.name),.c (.int .i64 e.ty.id),.c (.int .i64 e.ty.home),.c (.sl (Ty.rows e.ty.args))]))]⟩) e.arms.length ?_ ?_ ?_
  .simp
  .intro i hi
   obtain⟨a,ha⟩:=Ab (l:=ws) (i:=i) oz;have hz:(BV ws)[i]?=some ((⟨0,a.1.con,a.1.vars⟩:ArmH),a.2):=by
    unfold BV;rw[qk,ha];rfl
   have hg:=CR (i:=i) hpl oz;rw[ha]at hg;have hs:=CN hpl hz;have hln:=CV (i:=i) hpl;rw[<-hs];generalize (BV ws).take i++ws.drop i=zz at hg hln |-;have hset:=Ft zz i ((⟨0,a.1.con,a.1.vars⟩:ArmH),a.2);have hsp:=Nj a;have hln2:zz.length=e.arms.length:=oz;unfold MV;simp(maxSteps:=9^7) (disch:=try exact zd) [hi,hg,hln2,hsp,hset,Bz,-getElem?_pos]
  .have ht:(BV ws).take e.arms.length++ws.drop e.arms.length=(Aj e).arms:=by
    rw[<-hal,qax,qK,qh oz,hsa]
   rw[ht];have hsr:=LS e;unfold MV;simp(maxSteps:=9^7) (disch:=try exact zd) [hsr,hks,has,-getElem?_pos]
end Go.Vs.Tryz
namespace Go.Vs
open Go
section
variable {C:Ctx}{E:LV1}{L:LO1}{oid:Nat}
def mkSK (oid s bytes:Nat)(zero:List W)(v:V):Option (V×Upd):=match Ly v with
 |some (.ofNat m)=>bif Nat.ble (m*bytes) Di&&zero.length==s&&Nat.blt 0 s&&Nat.ble m Bc then
  some (.sc (.arr oid m),[(oid,some (.arr s (List.replicate m zero) 0))]) else none
 |_=>none
@[simp] theorem x_mkS {s bytes:Nat} {zero:List W} {n:Opd}:Af C E L oid (.mkS s bytes zero n)=newK (L oid) (mkSK oid s bytes zero (n.val C E)):=by
 simp only[Af,newK,mkSK];cases L oid with
 |some _=>rfl
 |none=>
  cases Ly (n.val C E)with
  |none=>rfl
  |some z=>cases z<;>rfl
@[simp] theorem mkSK_nat {s bytes m:Nat} {zero:List W} {k:IntKind} (h1:m*bytes<=140737488355328) (h2:zero.length=s) (h3:0<s) (h4:m<=9223372036854775807):mkSK oid s bytes zero (.sc (.c (.int k (m:Int))))=some (.sc (.arr oid m),[(oid,some (.arr s (List.replicate m zero) 0))]):=by
 have e:mkSK oid s bytes zero (.sc (.c (.int k (m:Int))))=bif Nat.ble (m*bytes) Di&&zero.length==s&&Nat.blt 0 s&&Nat.ble m Bc then
  some (.sc (.arr oid m),[(oid,some (.arr s (List.replicate m zero) 0))]) else none:=rfl
 rw[e,qY (by unfold Di;exact h1),qY (by unfold Bc;exact h4),show Nat.blt 0 s=true from qY h3,h2];simp
end
end Go.Vs
namespace Go.Vs.Tryz
open Go Go.Vs
variable {A:Ag}
def NB (taken:List Str)(n:Nat)(l:List (ArmH×Exp)):List (ArmH×Exp):=l.map fun a=>(⟨a.1.pos,a.1.con,news taken n a.1.vars.length⟩,a.2)
@[simp] theorem armsN_len (taken:List Str) (n:Nat) (l:List (ArmH×Exp)):(NB taken n l).length=l.length:=by simp[NB]
theorem TN (l:List Str)(i:Nat)(x:Str):setRow (wr (Ak l)) i [W.c (.str x)]=wr (Ak (l.set i x)):=by
 rw[setRow_set];simp[Ak,wr,qa8,D7]
abbrev B4:Obj:=.box [zi,zi,zs,zi,.nil,.nil,zi,zs,zi,zi,.nil]
variable {A:Ag}
def ZiS (k:Nat):List Str:=[[118,49],118::numS (k+2)]
end Go.Vs.Tryz
