/- Types, walked: Contains, index, Bind, Open, thaw, Replace. -/
import Derived.Test.YtccmnfpbcmccpaaGreatDoorR4q
set_option linter.unusedSimpArgs false
set_option linter.unusedVariables false
set_option linter.deprecated false
set_option maxHeartbeats 4000000
set_option maxRecDepth 10000
namespace Go.Vs.Tryz
open Go Go.Vs
variable {A:Ag}
theorem Hz (t:Ty):(∃a b,t.args=[a,b]/\(K A).call 84 [tyV t] []=some (.tu [tyV a,tyV b,Ad true],[]))\/(K A).call 84 [tyV t] []=some (.tu [tyV (.mk 0 [] 0 0 []),tyV (.mk 0 [] 0 0 []),Ad false],[]):=by
 by_cases h:t.kind=4/\t.name=[45,62]/\t.args.length=2
 .obtain ⟨h1,h2,h3⟩:=h
  left;obtain⟨a,b,hab⟩:∃a b,t.args=[a,b]:=by
   match hl:t.args,h3 with
   |[a,b],_=>exact⟨a,b,rfl⟩
  refine⟨a,b,hab,?_⟩;have hr:Ty.rows [a,b]=[a.row,b.row]:=by simp[Ty.rows]
  refine fnO v84 ?_;unfold v84;simp(disch:=try exact zd) [h1,h2,hab,hr]
 .right
  refine fnO v84 ?_;unfold v84;by_cases h1:t.kind=4
  .by_cases h2:t.name=[45,62]
   .have h3:¬t.args.length=2:=fun h3=>h ⟨h1,h2,h3⟩
    have h3':¬(t.args.length:Int)=2:=oz;simp(disch:=try exact zd) [h1,h2,h3,h3',Ty.row]
   .simp(disch:=try exact zd) [h1,h2,Ty.row]
  .simp(disch:=try exact zd) [h1,Ty.row]
def HasK (k:Int)(t:Ty)(r:V×List Obj):Prop:=∃b:Bool,(b=false->Ty.all (fun u=>u.kind≠k) t)/\r=(Ad b,[])
theorem Ul (k:Int)(t:Ty):t.size<=687194767360->∃r,HasK k t r/\(K A).call 88 [tyV t,intV k] []=some r:=by
 induction t using Ty.ind with
 |h t ih=>
 intro ht;have hal:=t.args_lt;refine fnE v88 ?_;unfold v88;by_cases h1:t.kind=k
 .simp (disch:=try exact zd) [h1]
  exact⟨true,fun h=>(by cases h),rfl⟩
 .simp (disch:=try exact zd) [h1]
  refine Am (fun i s=>(∀(j:Nat) y,j<i->t.args[j]?=some y->Ty.all (fun u=>u.kind≠k) y)/\s=⟨[(1,intV k),(2,.sc (.ptr 64 0)),(5,intV i)],[(64,some (.box (wc t.row)))]⟩) t.args.length ⟨oz,by simp⟩ ?_ ?_
  .rintro i s hi ⟨hno,rfl⟩
   obtain⟨x,hx⟩:=Ab hi;have hxs:=Ty.arg_lt (qc hx);obtain⟨_,⟨b,hb,rfl⟩,hc⟩:=ih x (qc hx) oz;unfold Pd;cases b with
   |true=>
    simp(disch:=try exact zd) [hi,hx,hc,-getElem?_pos];exact⟨true,fun h=>(by cases h),rfl⟩
   |false=>
    simp(disch:=try exact zd) [hi,hx,hc,-getElem?_pos];intro j y hj hy;by_cases hji:j<i
    .exact hno j y hji hy
    .obtain rfl:j=i:=oz
     rw[hx]at hy;cases hy;exact hb rfl
  .rintro s ⟨hno,rfl⟩
   unfold Pd;simp(disch:=try exact zd) [-getElem?_pos];refine⟨false,fun _=>Ty.all_iff.2 ⟨h1,fun y hy=>?_⟩,rfl⟩;obtain⟨j,hj,he⟩:=qS hy;exact hno j y hj (by rw[qj hj,he])
theorem W9 {l:List Str}{s:Str}{i:Nat}(h:l[i]?=some s)(hn:∀j,j<i->l[j]?≠some s):idxS l s=i:=by
 unfold idxS;have:l.findIdx? (fun x=>decide (x=s))=some i:=by
  rw[qaP];obtain⟨hi,he⟩:=qf.1 h;refine⟨hi,by simpa using he,fun j hj=>?_⟩;have:=hn j hj;rw[qj oz]at this;simpa using this
 rw[this]
theorem Zbz {l:List Str}{s:Str}(hn:∀j:Nat,j<l.length->l[j]?≠some s):idxS l s=-1:=by
 unfold idxS;have:l.findIdx? (fun x=>decide (x=s))=none:=by
  rw[List.findIdx?_eq_none_iff];intro x hx;obtain⟨j,hj,rfl⟩:=qS hx;have:=hn j hj;rw[qj hj]at this;simpa using this
 rw[this]
theorem T0 (l:List Str)(s:Str)(h:l.length<=687194767360):(K A).call 168 [AB l,strV s] []=some (intV (idxS l s),[]):=by
 refine fnO v168 ?_;unfold v168;simp(disch:=try exact zd);refine Am (fun i t=>(∀j,j<i->l[j]?≠some s)/\t=⟨[(0,AB l),(1,strV s),(5,intV i)],[]⟩) l.length ⟨by simp,by simp⟩ ?_ ?_
 .rintro i t hi ⟨hn,rfl⟩
  obtain⟨x,hx⟩:=Ab hi;unfold MO;by_cases hxs:x=s
  .subst hxs
   have:=W9 hx hn;simp(disch:=try exact zd) [hi,hx,this,-getElem?_pos]
  .simp (disch:=try exact zd) [hi,hx,hxs,-getElem?_pos]
   intro j hj;by_cases hji:j<i
   .exact hn j hji
   .obtain rfl:j=i:=oz
    rw[hx];simpa using hxs
 .rintro t ⟨hn,rfl⟩
  have:=Zbz hn;unfold MO;simp(disch:=try exact zd) [this,-getElem?_pos]
theorem HT (t:Ty)(l:List Ty):(Ty.mk t.kind t.name t.id t.home l).row=[.int .i64 t.kind,.str t.name,.int .i64 t.id,.int .i64 t.home,.sl (Ty.rows l)]:=by rw[Ty.row]
theorem Om (l:List Str)(hl:l.length<=687194767360)(t:Ty):t.size<=687194767360->(K A).call 117 [tyV t,AB l] []=some (tyV (BZ l t),[]):=by
 induction t using Ty.ind with
 |h t ih=>
 intro ht;have hal:=t.args_lt;refine fnO v117 ?_;unfold v117;by_cases h1:t.kind=5
 .have hx:=T0 (A:=A) l t.name hl
  have hb:=MR (A:=A) (idxS l t.name);have hm:BZ l t=if idxS l t.name>=0 then .mk 2 [] (idxS l t.name) 0 [] else t:=Ty.map_some (by unfold Hy;rw[if_pos h1])
  by_cases h2:idxS l t.name>=0
  .rw [if_pos h2] at hm
   simp(disch:=try exact zd) [h1,hx,h2,hb,hm]
  .rw [if_neg h2] at hm
   simp(disch:=try exact zd) [h1,hx,h2,hm]
 .have hm:BZ l t=.mk t.kind t.name t.id t.home (t.args.map (BZ l)):=Ty.map_none (by unfold Hy;rw [if_neg h1])
  simp(disch:=try exact zd) [h1];simp(disch:=try exact zd) [Ty.row_eq t];refine Am (fun i st=>st=⟨[(1,AB l),(2,.sc (.ptr 64 0)),(4,.sc (.ptr 128 0)),(6,.sc (.ptr 1216 0)),(7,intV i)],
   [(64,some (.box [.c (.int .i64 t.kind),.c (.str t.name),.c (.int .i64 t.id),.c (.int .i64 t.home),.c (.sl (Ty.rows t.args))])),(128,some (.box [zi,zs,zi,zi,.nil])),
     (1216,some (.box [.c (.int .i64 t.kind),.c (.str t.name),.c (.int .i64 t.id),.c (.int .i64 t.home),.arr 1409 i])),(1409,some (.arr 5 (wr (Ty.rows ((t.args.map (BZ l)).take i))) 0))]⟩) t.args.length sy ?_ ?_
  .rintro i st hi rfl
   obtain⟨x,hx⟩:=Ab hi;have hxs:=Ty.arg_lt (qc hx);have hc:=ih x (qc hx) oz;have hmx:(t.args.map (BZ l))[i]?=some (BZ l x):=(by rw[qk,hx];rfl);have hlen:((t.args.map (BZ l)).take i).length=i:=(by simp;omega);unfold LX;simp(disch:=try exact zd) [hi,hx,hc,hlen,AR hmx,-getElem?_pos]
  .rintro st rfl
   have htk:(t.args.map (BZ l)).take t.args.length=t.args.map (BZ l):=qh sy;unfold LX;simp(disch:=try exact zd) [htk,hm,HT]
variable {A:Ag}
theorem MH (args:List Ty)(hl:args.length<=687194767360)(t:Ty):t.size<=687194767360->(K A).call 119 [tyV t,tysV args] []=some (tyV (CE args t),[]):=by
 induction t using Ty.ind with
 |h t ih=>
 intro ht;have hal:=t.args_lt;refine fnO v119 ?_;unfold v119;by_cases h1:t.kind=2/\0<=t.id/\t.id<args.length
 .obtain ⟨ha,hb,hc⟩:=h1
  obtain⟨k,hk⟩:∃k:Nat,t.id=k:=⟨t.id.toNat,oz⟩;obtain⟨x,hx⟩:=Ab (l:=args) (i:=k) oz;have hm:CE args t=x:=Ty.map_some (by unfold GS;rw[if_pos ⟨ha,hb,hc⟩,hk];simpa using hx);have hk2:(k:Int)<args.length:=oz
  simp(disch:=try exact zd) [ha,hk,hk2,hx,hm,-getElem?_pos]
 .have hm:CE args t=.mk t.kind t.name t.id t.home (t.args.map (CE args)):=Ty.map_none (by unfold GS;rw [if_neg h1])
  have fin:wp (K A) (.loop JF) (BI 0 (BM (K A) (.seq (.region [] [o 48 (.ldD true 5 (tv 5)),on (.store 5 (tv 4) (tv 48) [])] [] [4]) .ret) (Du false 0 [.cell 4 true 5] (tyV (CE args t),[]))))
   ⟨[(1,tysV args),(2,.sc (.ptr 64 0)),(4,.sc (.ptr 128 0)),(5,.sc (.ptr 1600 0)),(6,intV 0)],
     [(64,some (.box [.c (.int .i64 t.kind),.c (.str t.name),.c (.int .i64 t.id),.c (.int .i64 t.home),.c (.sl (Ty.rows t.args))])),(128,some (.box [zi,zs,zi,zi,.nil])),
       (1600,some (.box [.c (.int .i64 t.kind),.c (.str t.name),.c (.int .i64 t.id),.c (.int .i64 t.home),.arr 1793 0])),(1793,some (.arr 5 [] 0))]⟩:=by
   refine Am (fun i st=>st=⟨[(1,tysV args),(2,.sc (.ptr 64 0)),(4,.sc (.ptr 128 0)),(5,.sc (.ptr 1600 0)),(6,intV i)],
    [(64,some (.box [.c (.int .i64 t.kind),.c (.str t.name),.c (.int .i64 t.id),.c (.int .i64 t.home),.c (.sl (Ty.rows t.args))])),(128,some (.box [zi,zs,zi,zi,.nil])),
      (1600,some (.box [.c (.int .i64 t.kind),.c (.str t.name),.c (.int .i64 t.id),.c (.int .i64 t.home),.arr 1793 i])),(1793,some (.arr 5 (wr (Ty.rows ((t.args.map (CE args)).take i))) 0))]⟩) t.args.length sy ?_ ?_
   .rintro i st hi rfl
    obtain⟨x,hx⟩:=Ab hi;have hxs:=Ty.arg_lt (qc hx);have hc:=ih x (qc hx) oz;have hmx:(t.args.map (CE args))[i]?=some (CE args x):=(by rw[qk,hx];rfl);have hlen:((t.args.map (CE args)).take i).length=i:=(by simp;omega);unfold JF;simp(disch:=try exact zd) [hi,hx,hc,hlen,AR hmx,-getElem?_pos]
   .rintro st rfl
    have htk:(t.args.map (CE args)).take t.args.length=t.args.map (CE args):=qh sy;unfold JF;simp(disch:=try exact zd) [htk,hm,HT,-getElem?_pos]
  by_cases ha:t.kind=2
  .by_cases hb:0<=t.id
   .have hc:¬t.id<args.length:=fun hc=>h1 ⟨ha,hb,hc⟩
    simp(disch:=try exact zd) [ha,hb,hc];simp(disch:=try exact zd) [Ty.row_eq t];exact fin
   .simp (disch:=try exact zd) [ha,hb]
    simp(disch:=try exact zd) [Ty.row_eq t];exact fin
  .simp (disch:=try exact zd) [ha]
   simp(disch:=try exact zd) [Ty.row_eq t];exact fin
def rigB (t:Ty):Prop:=Ty.all (fun u=>u.kind=3/\u.home=99->0<=u.id/\u.id<=1000) t
theorem ZdK (t:Ty):t.size<=687194767360->rigB t->(K A).call 188 [tyV t] []=some (tyV (Cu t),[]):=by
 induction t using Ty.ind with
 |h t ih=>
 intro ht hr;have hal:=t.args_lt;refine fnO v188 ?_;unfold v188;by_cases h1:t.kind=3/\t.home=99
 .obtain ⟨ha,hb⟩:=h1
  have hv:=Mn (A:=A) (900+t.id);have hm:Cu t=.mk 1 [] (900+t.id) 0 []:=Ty.map_some (by unfold DY;rw[if_pos ⟨ha,hb⟩]);obtain⟨hr1,hr2⟩:=Ty.all.one hr ⟨ha,hb⟩;simp(disch:=try exact zd) [ha,hb,hv,hm]
 .have hm:Cu t=.mk t.kind t.name t.id t.home (t.args.map Cu):=Ty.map_none (by unfold DY;rw [if_neg h1])
  have fin:wp (K A) (.loop JO) (BI 0 (BM (K A) (.seq (.region [] [o 37 (.ldD true 5 (tv 3)),on (.store 5 (tv 2) (tv 37) [])] [] [2]) .ret) (Du false 0 [.cell 2 true 5] (tyV (Cu t),[]))))
   ⟨[(1,.sc (.ptr 64 0)),(2,.sc (.ptr 128 0)),(3,.sc (.ptr 1088 0)),(4,intV 0)],
     [(64,some (.box [.c (.int .i64 t.kind),.c (.str t.name),.c (.int .i64 t.id),.c (.int .i64 t.home),.c (.sl (Ty.rows t.args))])),(128,some (.box [zi,zs,zi,zi,.nil])),
       (1088,some (.box [.c (.int .i64 t.kind),.c (.str t.name),.c (.int .i64 t.id),.c (.int .i64 t.home),.arr 1281 0])),(1281,some (.arr 5 [] 0))]⟩:=by
   refine Am (fun i st=>st=⟨[(1,.sc (.ptr 64 0)),(2,.sc (.ptr 128 0)),(3,.sc (.ptr 1088 0)),(4,intV i)],
    [(64,some (.box [.c (.int .i64 t.kind),.c (.str t.name),.c (.int .i64 t.id),.c (.int .i64 t.home),.c (.sl (Ty.rows t.args))])),(128,some (.box [zi,zs,zi,zi,.nil])),
      (1088,some (.box [.c (.int .i64 t.kind),.c (.str t.name),.c (.int .i64 t.id),.c (.int .i64 t.home),.arr 1281 i])),(1281,some (.arr 5 (wr (Ty.rows ((t.args.map Cu).take i))) 0))]⟩) t.args.length sy ?_ ?_
   .rintro i st hi rfl
    obtain⟨x,hx⟩:=Ab hi;have hxs:=Ty.arg_lt (qc hx);have hc:=ih x (qc hx) oz (Ty.all.arg hr (qc hx));have hmx:(t.args.map Cu)[i]?=some (Cu x):=(by rw[qk,hx];rfl);have hlen:((t.args.map Cu).take i).length=i:=(by simp;omega);unfold JO;simp(disch:=try exact zd) [hi,hx,hc,hlen,AR hmx,-getElem?_pos]
   .rintro st rfl
    have htk:(t.args.map Cu).take t.args.length=t.args.map Cu:=qh sy;unfold JO;simp(disch:=try exact zd) [htk,hm,HT]
  by_cases ha:t.kind=3
  .have hb:¬t.home=99:=fun hb=>h1 ⟨ha,hb⟩
   simp(disch:=try exact zd) [ha,hb];simp(disch:=try exact zd) [Ty.row_eq t];exact fin
  .simp (disch:=try exact zd) [ha]
   simp(disch:=try exact zd) [Ty.row_eq t];exact fin
variable {A:Ag}
def IffB (P:Prop)(r:V×List Obj):Prop:=∃b:Bool,(b=true↔P)/\r=(Ad b,[])
theorem IffB.yes {P:Prop}(h:P):IffB P (Ad true,[]):=⟨true,by simp[h],rfl⟩
theorem IffB.no {P:Prop}(h:¬P):IffB P (Ad false,[]):=⟨false,by simp[h],rfl⟩
theorem Ty.ext {a b:Ty}(h1:a.kind=b.kind)(h2:a.name=b.name)(h3:a.id=b.id)(h4:a.home=b.home)(h5:a.args=b.args):a=b:=by
 cases a;cases b;grind[Ty.kind,Ty.name,Ty.id,Ty.home,Ty.args]
theorem Xh {α:Type}{l m:List α}(hn:l.length=m.length)(h:∀(i:Nat)(x y:α),l[i]?=some x->m[i]?=some y->x=y):l=m:=by
 refine qH fun i=>?_;grind
theorem Zfv (l m:List Ty)(hl:l.length<=687194767360)(ih:∀x∈l,∀b,∃r,IffB (x=b) r/\(K A).call 52 [tyV x,tyV b] []=some r):∃r,IffB (l=m) r/\(K A).call 107 [tysV l,tysV m] []=some r:=by
 refine AC _ (vf:=v107) (by rfl) rfl sy ?_;unfold v107;by_cases hn:l.length=m.length
 .simp (disch:=try exact zd) [hn]
  refine Am (fun i s=>(∀(j:Nat) x y,j<i->l[j]?=some x->m[j]?=some y->x=y)/\s=⟨[(0,tysV l),(1,tysV m),(5,intV i)],[]⟩) l.length ⟨oz,by simp⟩ ?_ ?_
  .rintro i s hi ⟨hs,rfl⟩
   obtain⟨x,hx⟩:=Ab hi;obtain⟨y,hy⟩:=Ab (l:=m) (i:=i) oz;obtain⟨_,⟨b,hb,rfl⟩,hc⟩:=ih x (qc hx) y;unfold H2;cases b with
   |true=>
    have hxy:x=y:=hb.1 rfl;simp(disch:=try exact zd) [hi,hx,hy,hc,-getElem?_pos];grind
   |false=>
    have hne:l≠m:=by
     grind
    simp(disch:=try exact zd) [hi,hx,hy,hc,-getElem?_pos];exact IffB.no hne
  .rintro s ⟨hs,rfl⟩
   have he:l=m:=Xh hn fun i x y hx hy=>hs i x y (qf.1 hx).1 hx hy;unfold H2;simp(disch:=try exact zd);exact IffB.yes he
 .have hn':¬(l.length:Int)=m.length:=oz
  have hne:l≠m:=fun h=>hn (by rw[h]);simp(disch:=try exact zd) [hn,hn'];exact IffB.no hne
theorem Wq:∀(n:Nat)(a b:Ty),a.size<=n->n<=687194767360->∃r,IffB (a=b) r/\(K A).call 52 [tyV a,tyV b] []=some r:=by
 intro n
 induction n with
 |zero=>
  intro a b ha;have:=a.size_pos;omega
 |succ n ih=>
  intro a b ha hn;have hal:=a.args_lt;obtain⟨_,⟨v,hv,rfl⟩,hc⟩:=Zfv (A:=A) a.args b.args oz (fun x hx b=>ih x b (by have:=Ty.arg_lt hx;omega) oz);refine AC _ (vf:=v52) (by rfl) rfl sy ?_;unfold v52;by_cases h1:a.kind=b.kind
  .by_cases h2:a.name=b.name
   .by_cases h3:a.id=b.id
    .by_cases h4:a.home=b.home
     .simp (disch:=try exact zd) [h1,h2,h3,h4,hc]
      exact⟨v,hv.trans ⟨fun h5=>Ty.ext h1 h2 h3 h4 h5,fun h=>by rw[h]⟩,rfl⟩
     .simp (disch:=try exact zd) [h1,h2,h3,h4,hc]
      grind[IffB.no]
    .simp (disch:=try exact zd) [h1,h2,h3,hc]
     grind[IffB.no]
   .simp (disch:=try exact zd) [h1,h2,hc]
    grind[IffB.no]
  .simp (disch:=try exact zd) [h1,hc]
   grind[IffB.no]
variable {A:Ag}
theorem N7 (l:List Int)(n:Int)(h:l.length<=687194767360):(K A).call 211 [CI l,intV n] []=some (Ad (decide (n∈l)),[]):=by
 refine fnO v211 ?_;unfold v211;simp(disch:=try exact zd);refine Am (fun i s=>(∀j:Nat,j<i->l[j]?≠some n)/\s=⟨[(0,CI l),(1,intV n),(5,intV i)],[]⟩) l.length ⟨by simp,by simp⟩ ?_ ?_
 .rintro i s hi ⟨hn,rfl⟩
  obtain⟨x,hx⟩:=Ab hi;unfold PD;by_cases hxn:x=n
  .have hm:n∈l:=hxn▸qc hx
   simp(disch:=try exact zd) [hi,hx,hxn,hm,-getElem?_pos]
  .simp (disch:=try exact zd) [hi,hx,hxn,-getElem?_pos]
   intro j hj;by_cases hji:j<i
   .exact hn j hji
   .obtain rfl:j=i:=oz
    rw[hx];simpa using hxn
 .rintro s ⟨hn,rfl⟩
  have hm:n∉l:=by
   intro hm;obtain⟨j,hj,he⟩:=qS hm;exact hn j hj (by rw[qj hj,he])
  unfold PD;simp(disch:=try exact zd) [hm]
def Us (k:Int)(t:Ty)(out o2:List Ty):Prop:=(∀x∈out,x∈o2)/\leafIn k o2 t/\∀p:Ty->Prop,Ty.all p t->∀x∈o2,x∈out\/(p x/\x.kind=k)
def Ob (k:Int)(t:Ty)(out:List Ty)(r:V×List Obj):Prop:=∃o2:List Ty,out.length<=o2.length/\o2.length<=out.length+t.size/\(∀x∈o2,x.size<=687194767360)/\Us k t out o2/\r=(.sc (.arr 0 o2.length),[.arr 5 (wr (Ty.rows o2)) 0])
theorem Uf (k:Int):∀(n:Nat)(t:Ty)(out:List Ty),t.size<=n->(∀x∈out,x.size<=687194767360)->out.length+t.size<=687194767360->
 ∃r,Ob k t out r/\(K A).call 210 [.sc (.arr 0 out.length),tyV t,intV k] [.arr 5 (wr (Ty.rows out)) 0]=some r:=by
 intro n
 induction n with
 |zero=>
  intro t out ht;have:=t.size_pos;omega
 |succ n ih=>
  intro t out ht ho hn;have hal:=t.args_lt;have hpos:=t.size_pos;have hts:=t.size_eq;refine fnE v210 ?_;have kids:¬(t.kind=k/\t.args=[])->wp (K A) (.loop JR) (BI 2 (BM (K A) (.seq (.region [] [o 51 (.mv (tv 0)),o 6 (.mv (tv 51))] [] [6]) .ret) (B3 true 1 [.tmp 6] (Ob k t out))))
   ⟨[(0,.sc (.arr 0 out.length)),(2,intV k),(4,.sc (.ptr 64 0)),(8,intV 0)],[(0,some (.arr 5 (wr (Ty.rows out)) 0)),(64,some (.box (wc t.row)))]⟩:=by
   intro hnl;refine Am (fun i s=>∃o2:List Ty,out.length<=o2.length/\o2.length<=out.length+((t.args.map Ty.size).take i).sum/\(∀x∈o2,x.size<=687194767360)/\
    (∀x∈out,x∈o2)/\(∀(j:Nat) y,j<i->t.args[j]?=some y->leafIn k o2 y)/\(∀p:Ty->Prop,Ty.all p t->∀x∈o2,x∈out\/(p x/\x.kind=k))/\
    s=⟨[(0,.sc (.arr 0 o2.length)),(2,intV k),(4,.sc (.ptr 64 0)),(8,intV i)],[(0,some (.arr 5 (wr (Ty.rows o2)) 0)),(64,some (.box (wc t.row)))]⟩) t.args.length
    ⟨out,oz,by simp,ho,fun _ h=>h,oz,fun p _ x hx=>.inl hx,by simp⟩ ?_ ?_
   .rintro i s hi ⟨o2,h0,h1,h2,q1,q2,q3,rfl⟩
    obtain⟨x,hx⟩:=Ab hi;have hxm':=qc hx;have hxs:=Ty.arg_lt hxm';have hxm:(t.args.map Ty.size)[i]?=some x.size:=(by rw[qk,hx];rfl);have hsum:((t.args.map Ty.size).take (i+1)).sum=((t.args.map Ty.size).take i).sum+x.size:=(by rw[AR hxm];simp);have hle:((t.args.map Ty.size).take (i+1)).sum<=(t.args.map Ty.size).sum:=DT;obtain⟨_,⟨o3,h3,h4,h5,⟨r1,r2,r3⟩,rfl⟩,hc⟩:=ih x o2 oz h2 oz;unfold JR
    simp(disch:=try exact zd) [hi,hx,hc,h3,-getElem?_pos];refine⟨o3,oz,oz,h5,fun y hy=>r1 y (q1 y hy),?_,?_,by simp⟩
    .intro j y hj hy
     by_cases hji:j<i
     .exact(q2 j y hji hy).mono r1
     .obtain rfl:j=i:=oz
      rw[hx]at hy;cases hy;exact r2
    .intro p hp y hy
     rcases r3 p (hp.arg hxm') y hy with h|h
     .exact q3 p hp y h
     .exact .inr h
   .rintro s ⟨o2,h0,h1,h2,q1,q2,q3,rfl⟩
    rw[qh sy]at h1;unfold JR;simp(disch:=try exact zd);refine⟨o2,h0,oz,h2,⟨q1,Ty.all_iff.2 ⟨fun a b=>absurd ⟨a,b⟩ hnl,fun y hy=>?_⟩,q3⟩,rfl⟩;obtain⟨j,hj,he⟩:=qS hy;exact q2 j y hj (by rw[qj hj,he])
  unfold v210;by_cases h1:t.kind=k
  .by_cases h2:t.args=[]
   .simp (disch:=try exact zd) [h1,h2]
    refine Am (fun i s=>(∀j:Nat,j<i->out[j]?≠some t)/\s=⟨[(0,.sc (.arr 0 out.length)),(4,.sc (.ptr 64 0)),(7,intV i)],[(0,some (.arr 5 (wr (Ty.rows out)) 0)),(64,some (.box (wc t.row)))]⟩) out.length ⟨by simp,by simp⟩ ?_ ?_
    .rintro i s hi ⟨hno,rfl⟩
     obtain⟨x,hx⟩:=Ab hi;obtain⟨_,⟨b,hb,rfl⟩,hc⟩:=Wq (A:=A) 687194767360 x t (ho x (qc hx)) oz;unfold JT;cases b with
     |true=>
      have hxt:x=t:=hb.1 rfl;simp(disch:=try exact zd) [hi,hx,hc,-getElem?_pos];refine⟨out,oz,oz,ho,⟨fun _ h=>h,Ty.all_iff.2 ⟨fun _ _=>hxt▸qc hx,fun y hy=>by rw[h2]at hy;cases hy⟩,fun p _ y hy=>.inl hy⟩,rfl⟩
     |false=>
      have hxt:x≠t:=fun h=>absurd (hb.2 h) sy;simp(disch:=try exact zd) [hi,hx,hc,-getElem?_pos];intro j hj;by_cases hji:j<i
      .exact hno j hji
      .obtain rfl:j=i:=oz
       rw[hx];simpa using hxt
    .rintro s ⟨hno,rfl⟩
     unfold JT;have fin:Ob k t out (.sc (.arr 0 (out++[t]).length),[.arr 5 (wr (Ty.rows (out++[t]))) 0]):=by
      refine⟨out++[t],by simp,by simp;omega,?_,⟨fun x hx=>by simp[hx],Ty.all_iff.2 ⟨fun _ _=>by simp,fun y hy=>by rw[h2]at hy;cases hy⟩,?_⟩,rfl⟩
      .intro x hx
       rcases qp.1 hx with hx|hx
       .exact ho x hx
       .simp only [qo] at hx
        subst hx;omega
      .intro p hp x hx
       rcases qp.1 hx with hx|hx
       .exact .inl hx
       .simp only [qo] at hx
        subst hx;exact .inr ⟨hp.one,h1⟩
     simp(disch:=try exact zd);simpa using fin
   .have h3:¬t.args.length=0:=fun h=>h2 (qR.1 h)
    simp(disch:=try exact zd) [h1,h2,h3];exact kids fun h=>h2 h.2
  .simp (disch:=try exact zd) [h1]
   exact kids fun h=>h1 h.1
variable {A:Ag}
theorem ND {l:List Ty}{i:Nat}{x:Ty}(h:l[i]?=some x):((l.take (i+1)).map Ty.size).sum=((l.take i).map Ty.size).sum+x.size:=by
 rw[AR h];simp
theorem VO (l:List Ty)(i:Nat):((l.take i).map Ty.size).sum<=(l.map Ty.size).sum:=by
 rw[qaC];exact DT
def T7 (k:Int)(l:List Ty)(o2:List Ty):Prop:=o2.length<=(l.map Ty.size).sum/\(∀x∈o2,x.size<=687194767360)/\(∀t∈l,leafIn k o2 t)/\∀p:Ty->Prop,(∀t∈l,Ty.all p t)->∀x∈o2,p x/\x.kind=k
def LeafsI (k:Int)(l:List Ty)(i:Nat)(o2:List Ty):Prop:=o2.length<=((l.take i).map Ty.size).sum/\(∀x∈o2,x.size<=687194767360)/\(∀(j:Nat) t,j<i->l[j]?=some t->leafIn k o2 t)/\∀p:Ty->Prop,(∀t∈l,Ty.all p t)->∀x∈o2,p x/\x.kind=k
theorem LeafsI.next {k:Int}{l:List Ty}{i:Nat}{x:Ty}{o2 o3:List Ty}(h:LeafsI k l i o2)(hx:l[i]?=some x)(h2:o3.length<=o2.length+x.size)(h3:∀x∈o3,x.size<=687194767360)(q:Us k x o2 o3):LeafsI k l (i+1) o3:=by
 obtain⟨a1,a2,a3,a4⟩:=h;obtain⟨r1,r2,r3⟩:=q;refine⟨by rw[ND hx];omega,h3,?_,?_⟩
 .intro j y hj hy
  by_cases hji:j<i
  .exact(a3 j y hji hy).mono r1
  .obtain rfl:j=i:=oz
   rw[hx]at hy;cases hy;exact r2
 .intro p hp y hy
  rcases r3 p (hp x (qc hx)) y hy with h|h
  .exact a4 p hp y h
  .exact h
theorem LeafsI.all {k:Int}{l:List Ty}{o2:List Ty}(h:LeafsI k l l.length o2):T7 k l o2:=by
 obtain⟨a1,a2,a3,a4⟩:=h;rw[qh (qg _)]at a1;refine⟨a1,a2,fun t ht=>?_,a4⟩;obtain⟨j,hj,he⟩:=qS ht;exact a3 j t hj (by rw[qj hj,he])
def IdsQ (n:Nat)(l:List Ty)(ids:List Int):Prop:=ids.length<=(l.map Ty.size).sum/\(∀t∈l,EV ids t)/\∀i∈ids,0<=i/\i<n
def ZbR (n:Nat)(l:List Ty)(r:V×List Obj):Prop:=∃ids,IdsQ n l ids/\r=(CI ids,[])
theorem KA {n c:Nat}(l:List Ty)(h:(l.map Ty.size).sum<=687194767360)(hS:∀t∈l,tyB n c t):∃r,ZbR n l r/\(K A).call 195 [tysV l] []=some r:=by
 have hlen:=Ty.len_le l;refine fnE v195 ?_;unfold v195;simp(disch:=try exact zd);refine Am (fun i s=>∃o2,LeafsI 1 l i o2/\s=⟨[(0,tysV l),(3,.sc (.arr 129 o2.length)),(4,intV i)],[(129,some (.arr 5 (wr (Ty.rows o2)) 0))]⟩) l.length
  ⟨[],⟨by simp,by simp,oz,by simp⟩,by simp⟩ ?_ ?_
 .rintro i s hi ⟨o2,hI,rfl⟩
  obtain⟨x,hx⟩:=Ab hi;have hs1:=ND hx;have hs2:=VO l (i+1);obtain⟨_,⟨o3,h1,h2,h3,hq,rfl⟩,hc⟩:=Uf (A:=A) 1 x.size x o2 (qg _) hI.2.1 (by have:=hI.1;omega);unfold Kb;simp(disch:=try exact zd) [hi,hx,hc,h1,-getElem?_pos];exact⟨o3,hI.next hx h2 h3 hq,by simp⟩
 .rintro s ⟨o1,hI,rfl⟩
  obtain⟨b1,b2,b3,b4⟩:=hI.all;unfold Kb;simp(disch:=try exact zd) [-getElem?_pos];refine Am (fun i s=>∃ids:List Int,ids.length<=i/\(∀(j:Nat) y,j<i->o1[j]?=some y->y.id∈ids)/\(∀a∈ids,0<=a/\a<n)/\s=⟨[(3,.sc (.arr 129 o1.length)),(5,.sc (.arr 1153 ids.length)),(6,intV i)],[(129,some (.arr 5 (wr (Ty.rows o1)) 0)),(1153,some (.arr 1 (wr (Bn ids)) 0))]⟩) o1.length ⟨[],by simp,oz,by simp,by simp[Bn]⟩ ?_ ?_
  .rintro i s hi ⟨ids,hi2,q1,q2,rfl⟩
   obtain⟨x,hx⟩:=Ab hi;have hc:=N7 (A:=A) ids x.id oz;obtain⟨hp,hk⟩:=b4 (tyN n c) hS x (qc hx);obtain⟨hp1,hp2,_⟩:=hp.1 hk;unfold PE;by_cases hm:x.id∈ids
   .simp (disch:=try exact zd) [hi,hx,hc,hm,elOk,-getElem?_pos]
    refine⟨ids,oz,?_,q2,by simp⟩;intro j y hj hy;by_cases hji:j<i
    .exact q1 j y hji hy
    .obtain rfl:j=i:=oz
     rw[hx]at hy;cases hy;exact hm
   .simp (disch:=try exact zd) [hi,hx,hc,hm,elOk,-getElem?_pos]
    refine⟨ids++[x.id],by simp;omega,?_,?_,by simp[Bn,Fu,wr]⟩
    .intro j y hj hy
     by_cases hji:j<i
     .exact qp.2 (.inl (q1 j y hji hy))
     .obtain rfl:j=i:=oz
      rw[hx]at hy;cases hy;simp
    .intro a ha
     rcases qp.1 ha with ha|ha
     .exact q2 a ha
     .simp only [qo] at ha
      subst ha;exact⟨hp1,hp2⟩
  .rintro s ⟨ids,hi2,q1,q2,rfl⟩
   unfold PE;simp(disch:=try exact zd) [-getElem?_pos];refine⟨ids,⟨oz,fun t ht=>?_,q2⟩,rfl⟩;have hcov:∀u:Ty,leafIn 1 o1 u->tyB n c u->EV ids u:=by
    intro u
    induction u using Ty.ind with
    |h u ih=>
     intro g1 g2;refine Ty.all_iff.2 ⟨fun hk=>?_,fun y hy=>ih y hy (Ty.all.arg g1 hy) (g2.arg hy)⟩;have hmem:=Ty.all.one g1 hk (g2.one.1 hk).2.2;obtain⟨j,hj,he⟩:=qS hmem;exact q1 j u hj (by rw[qj hj,he])
   exact hcov t (b3 t ht) (hS t ht)
def Zb8 (l:List Ty)(r:V×List Obj):Prop:=∃o2,T7 3 l o2/\r=(tysV o2,[])
theorem SH (l:List Ty)(h:(l.map Ty.size).sum<=687194767360):∃r,Zb8 l r/\(K A).call 186 [tysV l] []=some r:=by
 have hlen:=Ty.len_le l;refine fnE v186 ?_;unfold v186;simp(disch:=try exact zd);refine Am (fun i s=>∃o2,LeafsI 3 l i o2/\s=⟨[(0,tysV l),(3,.sc (.arr 129 o2.length)),(4,intV i)],[(129,some (.arr 5 (wr (Ty.rows o2)) 0))]⟩) l.length
  ⟨[],⟨by simp,by simp,oz,by simp⟩,by simp⟩ ?_ ?_
 .rintro i s hi ⟨o2,hI,rfl⟩
  obtain⟨x,hx⟩:=Ab hi;have hs1:=ND hx;have hs2:=VO l (i+1);obtain⟨_,⟨o3,h1,h2,h3,hq,rfl⟩,hc⟩:=Uf (A:=A) 3 x.size x o2 (qg _) hI.2.1 (by have:=hI.1;omega);unfold Ms;simp(disch:=try exact zd) [hi,hx,hc,h1,-getElem?_pos];exact⟨o3,hI.next hx h2 h3 hq,by simp⟩
 .rintro s ⟨o1,hI,rfl⟩
  unfold Ms;simp(disch:=try exact zd) [-getElem?_pos];exact⟨o1,hI.all,rfl⟩
variable {A:Ag}
theorem Ze0 {s:List AssD}{t:Ty}{i:Nat}{x:AssD}(h:s[i]?=some x)(hx:x.id=t.id)(hn:∀(j:Nat) y,j<i->s[j]?=some y->y.id≠t.id):FU s t=x.ty:=by
 unfold FU;have:s.find? (fun a=>decide (a.id=t.id))=some x:=by
  rw[List.find?_eq_some_iff_getElem];obtain⟨hi,he⟩:=qf.1 h;refine⟨by simpa using hx,i,hi,he,fun j hj=>?_⟩;have:=hn j _ hj (qj oz);simpa using this
 rw[this]
theorem W8 {s:List AssD}{t:Ty}(hn:∀(j:Nat) y,j<s.length->s[j]?=some y->y.id≠t.id):FU s t=t:=by
 unfold FU;have:s.find? (fun a=>decide (a.id=t.id))=none:=by
  rw[List.find?_eq_none];intro x hx;obtain⟨j,hj,rfl⟩:=qS hx;simpa using hn j _ hj (qj hj)
 rw[this]
theorem Ia (s:List AssD)(hs:s.length<=687194767360)(t:Ty):t.size<=687194767360->(K A).call 191 [tyV t,C6 s] []=some (tyV (Bt s t),[]):=by
 induction t using Ty.ind with
 |h t ih=>
 intro ht;have hal:=t.args_lt;refine fnO v191 ?_;unfold v191;by_cases h1:t.kind=1
 .have hm:Bt s t=FU s t:=Ty.map_some (by unfold Dg;rw [if_pos h1])
  simp(disch:=try exact zd) [h1];refine Am (fun i st=>(∀(j:Nat) y,j<i->s[j]?=some y->y.id≠t.id)/\st=⟨[(1,C6 s),(2,.sc (.ptr 64 0)),(4,.sc (.ptr 128 0)),(5,intV i)],[(64,some (.box (wc t.row))),(128,some (.box [zi,zs,zi,zi,.nil]))]⟩) s.length ⟨oz,by simp⟩ ?_ ?_
  .rintro i st hi ⟨hn,rfl⟩
   obtain⟨x,hx⟩:=Ab hi;unfold Km;by_cases hxt:x.id=t.id
   .have hf:=Ze0 hx hxt hn
    simp(disch:=try exact zd) [hi,hx,hxt,hm,hf,-getElem?_pos]
   .simp (disch:=try exact zd) [hi,hx,hxt,-getElem?_pos]
    intro j y hj hy;by_cases hji:j<i
    .exact hn j y hji hy
    .obtain rfl:j=i:=oz
     rw[hx]at hy;cases hy;exact hxt
  .rintro st ⟨hn,rfl⟩
   have hf:=W8 hn;unfold Km;simp(disch:=try exact zd) [hm,hf,-getElem?_pos]
 .have hm:Bt s t=.mk t.kind t.name t.id t.home (t.args.map (Bt s)):=Ty.map_none (by unfold Dg;rw [if_neg h1])
  simp(disch:=try exact zd) [h1];simp(disch:=try exact zd) [Ty.row_eq t];refine Am (fun i st=>st=⟨[(1,C6 s),(2,.sc (.ptr 64 0)),(4,.sc (.ptr 128 0)),(6,.sc (.ptr 1984 0)),(7,intV i)],
   [(64,some (.box [.c (.int .i64 t.kind),.c (.str t.name),.c (.int .i64 t.id),.c (.int .i64 t.home),.c (.sl (Ty.rows t.args))])),(128,some (.box [zi,zs,zi,zi,.nil])),
     (1984,some (.box [.c (.int .i64 t.kind),.c (.str t.name),.c (.int .i64 t.id),.c (.int .i64 t.home),.arr 2177 i])),(2177,some (.arr 5 (wr (Ty.rows ((t.args.map (Bt s)).take i))) 0))]⟩) t.args.length sy ?_ ?_
  .rintro i st hi rfl
   obtain⟨x,hx⟩:=Ab hi;have hxs:=Ty.arg_lt (qc hx);have hc:=ih x (qc hx) oz;have hmx:(t.args.map (Bt s))[i]?=some (Bt s x):=(by rw[qk,hx];rfl);have hlen:((t.args.map (Bt s)).take i).length=i:=(by simp;omega);unfold ML;simp(disch:=try exact zd) [hi,hx,hc,hlen,AR hmx,-getElem?_pos]
  .rintro st rfl
   have htk:(t.args.map (Bt s)).take t.args.length=t.args.map (Bt s):=qh sy;unfold ML;simp(disch:=try exact zd) [htk,hm,HT,-getElem?_pos]
theorem Zf0 {l m:List Int}(t:Ty):EV l t->EV m t->EV (l.filter fun i=>decide (i∈m)) t:=by
 induction t using Ty.ind with
 |h t ih=>
  intro h1 h2;exact Ty.all_iff.2 ⟨fun hk=>qaU.2 ⟨Ty.all.one h1 hk,by simpa using Ty.all.one h2 hk⟩,fun x hx=>ih x hx (Ty.all.arg h1 hx) (Ty.all.arg h2 hx)⟩
def SchR (m:Nat)(r:V×List Obj):Prop:=∃(c:Nat)(t:Ty),c<=m/\tyB 0 c t/\t.size<=m/\r=(schV c t,[])
theorem ZdZ {n:Nat}(t:Ty)(ids:List Int)(h:t.size<=687194767360)(hi:ids.length<=687194767360)(hS:tyS n t)(hv:EV ids t):∃r,SchR t.size r/\(K A).call 187 [tyV t,CI ids] []=some r:=by
 refine fnE v187 ?_;obtain⟨_,⟨v,⟨g1,g2,g3⟩,rfl⟩,hc⟩:=KA (A:=A) (n:=n) (c:=0) [t] (by simpa using h) (fun u hu=>by rw[qo.1 hu];exact hS);have hn:Ty.rows [t]=[t.row]:=by simp[Ty.rows]
 have hc:(K A).call 195 [.sc (.c (.sl [t.row]))] []=some (CI v,[]):=by rw[<-hn];exact hc
 have g1':v.length<=t.size:=by simpa using g1
 unfold v187;simp(disch:=try exact zd) [hc];refine Am (fun i st=>∃s:List AssD,s.length<=i/\(∀(j:Nat) x,j<i->v[j]?=some x->x∈ids->∃a∈s,a.id=x)/\(∀a∈s,tyB 0 s.length a.ty/\a.ty.size<=1)/\
  st=⟨[(1,CI ids),(2,.sc (.ptr 64 0)),(4,.sc (.ptr 128 0)),(5,CI v),(6,.sc (.arr 449 s.length)),(7,intV i)],[(64,some (.box (wc t.row))),(128,some (.box [zi,zi,zs,zi,zi,.nil])),(449,some (.arr 6 (wr (Dl s)) 0))]⟩) v.length ⟨[],by simp,oz,by simp,by simp⟩ ?_ ?_
 .rintro i st hi2 ⟨s,hs,q1,q2,rfl⟩
  obtain⟨x,hx⟩:=Ab hi2;have hc2:=N7 (A:=A) ids x hi;have hb:=MR (A:=A) s.length;have he:(W.c (.int .i64 x)::wc (Ty.mk 2 [] s.length 0 []).row)=wc (BG ⟨x,.mk 2 [] s.length 0 []⟩):=rfl;unfold Mb;by_cases hm:x∈ids
  .simp (disch:=try exact zd) [hi2,hx,hc2,hm,hb,he,-getElem?_pos]
   refine⟨s++[⟨x,.mk 2 [] s.length 0 []⟩],by simp;omega,?_,?_,by simp⟩
   .intro j y hj hy hyi
    by_cases hji:j<i
    .obtain ⟨a,ha,hai⟩:=q1 j y hji hy hyi
     exact⟨a,by simp[ha],hai⟩
    .obtain rfl:j=i:=oz
     rw[hx]at hy;cases hy;exact⟨_,qp.2 (.inr (qo.2 rfl)),rfl⟩
   .intro a ha
    rcases qp.1 ha with ha|ha
    .exact⟨(q2 a ha).1.mono (qg 0) sy,(q2 a ha).2⟩
    .simp only [qo] at ha
     subst ha;exact⟨OV sy,by simp[Ty.size_leaf]⟩
  .simp (disch:=try exact zd) [hi2,hx,hc2,hm,-getElem?_pos]
   refine⟨s,oz,?_,q2,by simp⟩;intro j y hj hy hyi;by_cases hji:j<i
   .exact q1 j y hji hy hyi
   .obtain rfl:j=i:=oz
    rw[hx]at hy;cases hy;exact absurd hyi hm
 .rintro st ⟨s,hs,q1,q2,rfl⟩
  have hc3:=Ia (A:=A) s oz t h;have hS0:tyB 0 s.length (Bt s t):=Py (l:=v.filter fun i=>decide (i∈ids)) (fun i hi=>by
   obtain⟨hi1,hi2⟩:=qaU.1 hi;obtain⟨j,hj,he⟩:=qS hi1;exact q1 j i hj (by rw[qj hj,he]) (by simpa using hi2)) (fun a ha=>(q2 a ha).1) hS (Zf0 t (g2 t sy) hv)
  have hsz:=P6 (qg 1) (fun a ha=>(q2 a ha).2) t;unfold Mb;simp(disch:=try exact zd) [hc3,-getElem?_pos];exact⟨s.length,Bt s t,oz,hS0,oz,by simp[AZ,Ty.row_eq]⟩
theorem ZbQ {ids:List Int}{o2:List Ty}(h:∀x∈o2,x.home=99->900+x.id∈ids)(t:Ty):tyS 0 t->rigB t->leafIn 3 o2 t->O3 ids t:=by
 induction t using Ty.ind with
 |h t ih=>
  intro h1 h2 h3;refine Ty.all_iff.2 ⟨fun hk=>⟨(Ty.all.one h2 hk).1,h t (Ty.all.one h3 hk.1 (h1.one.2.2.1 hk.1)) hk.2⟩,fun x hx=>ih x hx (h1.arg hx) (Ty.all.arg h2 hx) (Ty.all.arg h3 hx)⟩
theorem YE (t:Ty)(h:t.size<=687194767360)(hS:tyS 0 t)(hB:rigB t):∃r,SchR t.size r/\(K A).call 137 [tyV t] []=some r:=by
 refine fnE v137 ?_;obtain⟨_,⟨v,⟨g1,g2,g3,g4⟩,rfl⟩,hc⟩:=SH (A:=A) [t] (by simpa using h);have hn:Ty.rows [t]=[t.row]:=by simp[Ty.rows]
 have hc:(K A).call 186 [.sc (.c (.sl [t.row]))] []=some (tysV v,[]):=by rw[<-hn];exact hc
 have g1':v.length<=t.size:=by simpa using g1
 have hth:=ZdK (A:=A) t h hB;unfold v137;simp(disch:=try exact zd) [hc];refine Am (fun i st=>∃ids:List Int,ids.length<=i/\(∀(j:Nat) x,j<i->v[j]?=some x->x.home=99->900+x.id∈ids)/\(∀a∈ids,a<2000)/\
  st=⟨[(1,.sc (.ptr 64 0)),(2,.sc (.ptr 128 0)),(3,.sc (.arr 193 ids.length)),(4,tysV v),(5,intV i)],[(64,some (.box (wc t.row))),(128,some (.box [zi,zi,zs,zi,zi,.nil])),(193,some (.arr 1 (wr (Bn ids)) 0))]⟩) v.length ⟨[],by simp,oz,by simp,by simp[Bn]⟩ ?_ ?_
 .rintro i st hi2 ⟨ids,hs,q1,q2,rfl⟩
  obtain⟨x,hx⟩:=Ab hi2;unfold PO;by_cases hm:x.home=99
  .have hxk:=g4 (fun u=>u.kind=3/\u.home=99->0<=u.id/\u.id<=1000) (fun u hu=>by rw [qo.1 hu];exact hB) x (qc hx)
   obtain⟨ha,hb⟩:=hxk.1 ⟨hxk.2,hm⟩;simp(disch:=try exact zd) [hi2,hx,hm,-getElem?_pos];refine⟨ids++[900+x.id],by simp;omega,?_,?_,by simp[Bn,Fu,wr]⟩
   .intro j y hj hy hyi
    by_cases hji:j<i
    .exact qp.2 (.inl (q1 j y hji hy hyi))
    .obtain rfl:j=i:=oz
     rw[hx]at hy;cases hy;simp
   .intro a ha
    rcases qp.1 ha with ha|ha
    .exact q2 a ha
    .simp only [qo] at ha
     omega
  .simp (disch:=try exact zd) [hi2,hx,hm,-getElem?_pos]
   refine⟨ids,oz,?_,q2,by simp⟩;intro j y hj hy hyi;by_cases hji:j<i
   .exact q1 j y hji hy hyi
   .obtain rfl:j=i:=oz
    rw[hx]at hy;cases hy;exact absurd hyi hm
 .rintro st ⟨ids,hs,q1,q2,rfl⟩
  have hrig:O3 ids t:=ZbQ (o2:=v) (fun x hx hh=>by
   obtain⟨j,hj,he⟩:=qS hx;exact q1 j x hj (by rw[qj hj,he]) hh) t hS hB (g3 t sy)
  have hts:=Zw t;obtain⟨k1,k2⟩:=ZbT (l:=ids) (n:=2000) q2 t hS hrig;obtain⟨_,⟨c,u,hcm,hu,hus,rfl⟩,hcl⟩:=ZdZ (A:=A) (Cu t) ids oz oz k1 k2;unfold PO;simp(disch:=try exact zd) [hth,hcl,-getElem?_pos];exact⟨c,u,oz,hu,oz,rfl⟩
variable {A:Ag}
def fitD (d:DataD):Prop:=G0 d/\(∀c∈d.cons,∀f∈c.fields,tyS 0 f/\f.size<=20)/\CV d.name d.params.length/\∀c∈d.cons,c.fields.length<=2
def fitDs (ds:List DataD):Prop:=ds.length<=100/\∀d∈ds,fitD d
theorem fitDs.good {ds:List DataD}(h:fitDs ds):Ga ds:=⟨h.1,fun d hd=>(h.2 d hd).1⟩
theorem YO {l:List Ty}(h:∀x∈l,x.size<=1):(l.map Ty.size).sum<=l.length:=by
 have:=Hw h;omega
def TyR (n m:Nat)(r:V×List Obj):Prop:=∃t:Ty,tyS n t/\t.size<=m/\r=(tyV t,[])
def TyC (c m:Nat)(r:V×List Obj):Prop:=∃t:Ty,tyB 0 c t/\t.size<=m/\r=(tyV t,[])
theorem Zak (d:DataD)(hp:d.params.length<=100)(hcn:CV d.name d.params.length):∃r,TyC d.params.length (1+d.params.length) r/\(K A).call 217 [.ag (wc (A3 d))] []=some r:=by
 refine fnE v217 ?_;unfold v217;simp(disch:=try exact zd);refine Am (fun i st=>∃l:List Ty,l.length=i/\(∀x∈l,tyB 0 d.params.length x/\x.size<=1)/\st=⟨[(1,.sc (.ptr 64 0)),(2,.sc (.ptr 128 0)),(3,.sc (.arr 193 i)),(4,intV i)],[(64,some (.box (wc (A3 d)))),(128,some (.box [zi,zs,zi,zi,.nil])),(193,some (.arr 5 (wr (Ty.rows l)) 0))]⟩) d.params.length ⟨[],rfl,by simp,by simp⟩ ?_ ?_
 .rintro i st hi ⟨l,hl,q,rfl⟩
  have hb:=MR (A:=A) i;unfold Ni;simp(disch:=try exact zd) [hi,hb,hl];refine⟨l++[.mk 2 [] i 0 []],by simp[hl],?_,by simp⟩;intro x hx;rcases qp.1 hx with hx|hx
  .exact q x hx
  .simp only [qo] at hx
   subst hx;exact⟨OV hi,by simp[Ty.size_leaf]⟩
 .rintro st ⟨l,hl,q,rfl⟩
  have hc:=G7 (A:=A) d.name l oz;have hs:=YO fun x hx=>(q x hx).2;unfold Ni;simp(disch:=try exact zd) [hl,hc];refine⟨_,Mw (by rw[hl];exact hcn) fun x hx=>(q x hx).1,?_,rfl⟩;rw[Ty.size_eq];show 1+(l.map Ty.size).sum<=_;omega
def O8 (ds:List DataD)(s:Str):Prop:=∃d∈ds,∃c∈d.cons,c.name=s
def ZeG (ds:List DataD)(s:Str)(r:V×List Obj):Prop:=∃(i k:Nat)(d:DataD)(c:ConD),ds[i]?=some d/\d.cons[k]?=some c/\c.name=s/\r=(.tu [intV i,intV k,Ad true],[])
theorem R8 (ds:List DataD)(hds:Ga ds)(s:Str)(hex:O8 ds s):∃r,ZeG ds s r/\(K A).call 189 [Ax ds,strV s] []=some r:=by
 have hds1:=hds.1;refine fnE v189 ?_;unfold v189;simp(disch:=try exact zd);refine Am (fun i st=>(∀(j:Nat) d,j<i->ds[j]?=some d->∀c∈d.cons,c.name≠s)/\st=⟨[(0,Ax ds),(1,strV s),(7,intV i)],[]⟩) ds.length ⟨oz,by simp⟩ ?_ ?_
 .rintro i st hi ⟨hno,rfl⟩
  obtain⟨d,hd⟩:=Ab hi;have hg:=hds.2 d (qc hd);have hg3:=hg.2.2.1;unfold Tg;simp(disch:=try exact zd) [hi,hd,-getElem?_pos];refine Am (fun k st=>(∀(j:Nat) c,j<k->d.cons[j]?=some c->c.name≠s)/\st=⟨[(0,Ax ds),(1,strV s),(7,intV i),(8,intV k)],[]⟩) d.cons.length ⟨oz,by simp⟩ ?_ ?_
  .rintro k st hk ⟨hnk,rfl⟩
   obtain⟨c,hc⟩:=Ab hk;unfold Lo;by_cases hcs:c.name=s
   .simp (disch:=try exact zd) [hi,hd,hk,hc,hcs,-getElem?_pos]
    exact⟨i,k,d,c,hd,hc,hcs,rfl⟩
   .simp (disch:=try exact zd) [hi,hd,hk,hc,hcs,-getElem?_pos]
    intro j y hj hy;by_cases hjk:j<k
    .exact hnk j y hjk hy
    .obtain rfl:j=k:=oz
     rw[hc]at hy;cases hy;exact hcs
  .rintro st ⟨hnk,rfl⟩
   unfold Lo;simp(disch:=try exact zd) [hi,hd,-getElem?_pos];intro j y hj hy c hc;by_cases hji:j<i
   .exact hno j y hji hy c hc
   .obtain rfl:j=i:=oz
    rw[hd]at hy;cases hy;obtain⟨k,hk,he⟩:=qS hc;exact hnk k c hk (by rw[qj hk,he])
 .rintro st ⟨hno,rfl⟩
  exfalso;obtain⟨d,hd,c,hc,hcs⟩:=hex;obtain⟨i,hi,he⟩:=qS hd;exact hno i d hi (by rw[qj hi,he]) c hc hcs
def Zfo (r:V×List Obj):Prop:=∃(c:Nat)(t:Ty)(b:Bool),c<=4/\tyB 0 c t/\t.size<=1000/\r=(.tu [schV c t,Ad b],[])
theorem ZH (ds:List DataD)(hds:fitDs ds)(s:Str)(hex:O8 ds s):∃r,Zfo r/\(K A).call 194 [Ax ds,strV s] []=some r:=by
 refine fnE v194 ?_;obtain⟨_,⟨i,k,d,c,hd,hc,_,rfl⟩,hf⟩:=R8 (A:=A) ds hds.good s hex;have hds1:=hds.1;unfold v194;obtain⟨⟨hg1,hg2,hg3,hg4⟩,hff,hcn,hc2⟩:=hds.2 d (qc hd);have hcm:=qc hc;have hfl:=hg4 c hcm;have hi:=(qf.1 hd).1;have hk:=(qf.1 hc).1;obtain⟨_,⟨u,hu1,hu2,rfl⟩,hr⟩:=Zak (A:=A) d oz hcn;simp(disch:=try exact zd) [hf,hd,hc,hr,hi,hk,-getElem?_pos]
 refine Am (fun j st=>∃u:Ty,tyB 0 d.params.length u/\u.size<=5+j*30/\st=⟨[(0,Ax ds),(4,.sc (.ptr 64 0)),(6,intV i),(9,.sc (.ptr 1472 0)),(10,tysV c.fields),(11,intV (((c.fields.length-j:Nat):Int)-1))],
  [(64,some (.box [zi,zi,zs,zi,zi,.nil])),(1472,some (.box (wc u.row)))]⟩) c.fields.length ⟨u,hu1,oz,by simp⟩ ?_ ?_
 .rintro j st hj ⟨v,hv1,hv2,rfl⟩
  obtain⟨a,ha⟩:∃a,c.fields.length-j=a+1:=⟨c.fields.length-j-1,oz⟩;obtain⟨f,hf2⟩:=Ab (l:=c.fields) (i:=a) oz;obtain⟨hfs,hfz⟩:=hff c hcm f (qc hf2);have hbd:=Om (A:=A) d.params oz f oz;have har:=I0 (A:=A) (BZ d.params f) v;have e1:((a+1:Nat):Int)-1=a:=oz
  rw[ha,e1];have hbs:=M0 d.params f;unfold Of;simp(disch:=try exact zd) [hi,hd,hf2,hbd,har,-getElem?_pos];refine⟨_,Mw (s:=[45,62]) (l:=[BZ d.params f,v]) H8 ?_,?_,?_⟩
  .intro x hx
   simp only[qF,qae,or_false]at hx;rcases hx with rfl|rfl
   .exact Nh hfs
   .exact hv1
  .rw [Ty.size_eq]
   show 1+([BZ d.params f,v].map Ty.size).sum<=_;simp;omega
  .have e3:(a:Int)=((c.fields.length-(j+1):Nat):Int):=oz
   simp[e3]
 .rintro st ⟨v,hv1,hv2,rfl⟩
  rw[qa2];unfold Of;simp(disch:=try exact zd) [hi,hd,-getElem?_pos];exact⟨d.params.length,v,true,hg1,hv1,oz,by simp[AZ,Ty.row_eq]⟩
def Ze7 (n m:Nat)(r:V×List Obj):Prop:=∃(l:List Ty)(b:Bool),l.length<=2/\(∀x∈l,tyS n x/\x.size<=m)/\r=(.tu [tysV l,Ad b],[])
theorem Z9 {n m:Nat}(hm:m<=10000000)(hm1:1<=m)(ds:List DataD)(hds:fitDs ds)(s:Str)(hex:O8 ds s)(args:List Ty)(hl:args.length<=1000)(ha:∀x∈args,tyS n x/\x.size<=m):∃r,Ze7 n (20*m) r/\(K A).call 138 [Ax ds,strV s,tysV args] []=some r:=by
 refine fnE v138 ?_;obtain⟨_,⟨i,k,d,c,hd,hc,_,rfl⟩,hf⟩:=R8 (A:=A) ds hds.good s hex;have hds1:=hds.1;unfold v138;obtain⟨⟨hg1,hg2,hg3,hg4⟩,hff,hcn,hc2⟩:=hds.2 d (qc hd);have hcm:=qc hc;have hfl:=hc2 c hcm;have hi:=(qf.1 hd).1;have hk:=(qf.1 hc).1;by_cases hn:args.length=d.params.length
 .simp (disch:=try exact zd) [hf,hd,hc,hi,hk,hn,-getElem?_pos]
  refine Am (fun j st=>∃l:List Ty,l.length=j/\(∀x∈l,tyS n x/\x.size<=20*m)/\st=⟨[(0,Ax ds),(2,tysV args),(8,intV i),(11,.sc (.arr 1793 j)),(12,tysV c.fields),(13,intV j)],[(1793,some (.arr 5 (wr (Ty.rows l)) 0))]⟩) c.fields.length ⟨[],rfl,by simp,by simp⟩ ?_ ?_
  .rintro j st hj ⟨l,hlj,hq,rfl⟩
   obtain⟨f,hf2⟩:=Ab hj;obtain⟨hfs,hfz⟩:=hff c hcm f (qc hf2);have hbs:=M0 d.params f;have hbd:=Om (A:=A) d.params oz f oz;have hop:=MH (A:=A) args oz (BZ d.params f) oz;have hos:=Oo hm1 (fun x hx=>(ha x hx).2) (BZ d.params f);have hos2:(BZ d.params f).size*m<=20*m:=qG m oz;unfold PP;simp(disch:=try exact zd) [hj,hd,hf2,hbd,hop,hlj,hi,-getElem?_pos]
   refine⟨l++[CE args (BZ d.params f)],by simp[hlj],?_,by simp⟩;intro x hx;rcases qp.1 hx with hx|hx
   .exact hq x hx
   .simp only [qo] at hx
    subst hx;exact⟨M6 (fun x hx=>(ha x hx).1) (by rw[hn];exact(Nh hfs).mono (qab _) (qg _)),oz⟩
  .rintro st ⟨l,hlj,hq,rfl⟩
   unfold PP;simp(disch:=try exact zd) [hlj,-getElem?_pos];exact⟨l,true,oz,hq,rfl⟩
 .have hn':¬(args.length:Int)=d.params.length:=oz
  simp(disch:=try exact zd) [hf,hd,hi,hn,hn',-getElem?_pos];exact⟨[],false,by simp,by simp,by simp⟩
def numS (n:Nat):Str:=if h:n<10 then [UInt8.ofNat (48+n)] else numS (n / 10)++[UInt8.ofNat (48+n % 10)]
termination_by n
decreasing_by omega
theorem Ee {n:Nat}(h:n<10):numS n=[UInt8.ofNat (48+n)]:=by rw[numS,dif_pos h]
theorem Ez {n:Nat}(h:¬n<10):numS n=numS (n / 10)++[UInt8.ofNat (48+n % 10)]:=by rw[numS,dif_neg h]
theorem RZ (n:Nat):1<=(numS n).length:=by
 grind[Ee,Ez]
theorem SP {a b:Nat}(ha:a<10)(hb:b<10)(h:UInt8.ofNat (48+a)=UInt8.ofNat (48+b)):a=b:=by
 grind[UInt8.toNat_ofNat']
theorem YM:∀(n m:Nat),numS n=numS m->n=m:=by
 intro n
 induction n using Nat.strongRecOn with
 |ind n ih=>
  intro m h;by_cases hn:n<10;grind[Ee,SP,Ez,qz]
  .by_cases hm:m<10
   grind
   .rw [Ez hn,Ez hm] at h
    obtain⟨h1,h2⟩:=List.append_inj' h sy;have h3:=ih (n / 10) oz _ h1;have h4:=SP (Nat.mod_lt _ oz) (Nat.mod_lt _ oz) (by simpa using h2);omega
theorem We (n:Nat):∀c∈numS n,48<=c.toNat/\c.toNat<=57:=by
 induction n using Nat.strongRecOn<;>grind[Ee,UInt8.toNat_ofNat',Ez]
theorem Hx (n:Nat):∀k,n<10 ^ k->1<=k->(numS n).length<=k:=by
 induction n using Nat.strongRecOn with
 |ind n ih=>
  intro k hk h1;by_cases hn:n<10;grind[Ee]
  .obtain ⟨k,rfl⟩:∃ j,k=j+1:=⟨k-1,oz⟩
   have hk1:1<=k:=by
    grind
   have:=ih (n / 10) oz k oz hk1;grind[Ez]
def AN (k:Nat):Str:=118::numS k
theorem Zu {a b:Nat}(h:AN a=AN b):a=b:=YM a b (by simpa[AN]using h)
noncomputable def Db (l:List Str)(k:Nat):Nat:=match l with
 |[]=>0
 |s::r=>(open Classical in if ∃j,k<=j/\s=AN j then 1 else 0)+Db r k
theorem HR (l:List Str)(k:Nat):Db l k<=l.length:=by
 induction l with
 |nil=>simp[Db]
 |cons s r ih=>simp only[Db,qJ];split<;>omega
theorem Lk (l:List Str)(k:Nat):Db l (k+1)<=Db l k:=by
 induction l with
 |nil=>simp[Db]
 |cons s r ih=>
  simp only[Db];split
  .rename_i h
   obtain⟨j,h1,h2⟩:=h;rw[if_pos ⟨j,oz,h2⟩];omega
  omega
theorem Nc {l:List Str}{k:Nat}(h:AN k∈l):Db l (k+1)<Db l k:=by
 induction l with
 |nil=>grind
 |cons s r ih=>
  have hm:=Lk r k;simp only[Db];rcases qF.1 h with rfl|h
  .rw[if_neg,if_pos ⟨k,qg _,rfl⟩]<;>grind[Zu]
  .have:=ih h
   split
   .rename_i h3
    obtain⟨j,h1,h2⟩:=h3;rw[if_pos ⟨j,oz,h2⟩];omega
   omega
def CO (taken:List Str):Nat->Nat->Nat->Nat
 |0,k,_=>k
 |f+1,k,n=>if AN k∈taken then CO taken f (k+1) n else if n=0 then k else CO taken f (k+1) (n-1)
theorem ED (taken:List Str):∀f k n,k<=CO taken f k n
 |0,k,n=>qg _
 |f+1,k,n=>by
  simp only[CO];split
  .exact qr oz (ED taken f (k+1) n)
  .split
   simp
   .exact qr oz (ED taken f (k+1) (n-1))
theorem NK (taken:List Str):∀f k n,CO taken f k n<=k+f
 |0,k,n=>by simp[CO]
 |f+1,k,n=>by
  simp only[CO];have h1:=NK taken f (k+1) n;have h2:=NK taken f (k+1) (n-1);grind
theorem LB (taken:List Str):∀f k n,n+Db taken k<f->AN (CO taken f k n)∉taken
 |0,k,n,h=>by omega
 |f+1,k,n,h=>by
  simp only[CO];split
  .rename_i hm
   exact LB taken f (k+1) n (by grind[Nc])
  .rename_i hm
   split;omega
   .exact LB taken f (k+1) (n-1) (by grind[Lk])
def AT (n:Nat)(taken:List Str):Nat:=CO taken (n+taken.length+1) 1 n
def Av (n:Nat)(taken:List Str):Str:=AN (AT n taken)
theorem JY (n:Nat)(taken:List Str):AT n taken<=n+taken.length+2:=by
 grind[NK,AT]
theorem Dv (n:Nat)(taken:List Str):Av n taken∉taken:=LB taken _ _ _ (by grind[HR])
end Go.Vs.Tryz
namespace Go.Vs
open Go
section
variable {C:Ctx}{E:LV1}{L:LO1}{oid:Nat}
@[simp] theorem b_quo {k:IntKind} {a b:Int} (h:b≠0):binV .quo 0 (.sc (.c (.int k a))) (.sc (.c (.int k b)))=some (.sc (.c (.int k (k.wrap (a.tdiv b)))),[]):=by simp[binV,binW,BH,Cz,h,CP]
@[simp] theorem x_slS {x:Opd} {lo hi:Option Opd}:Af C E L oid (.slS x lo hi)=(match x.val C E with
 |.sc (.c (.str s))=>match AS (hi.map (·.val C E)) s.length s.length with
  |none=>none
  |some h=>(AS (lo.map (·.val C E)) 0 h).map fun l=>(.sc (.c (.str ((s.take h).drop l))),[])
 |_=>none):=rfl
end
end Go.Vs
namespace Go.Vs.Tryz
open Go Go.Vs
variable {A:Ag}
def Zin:Str:=[48,49,50,51,52,53,54,55,56,57]
theorem Sk (n:Nat)(h0:n≠0)(h:n<10000000000000):(K A).call 73 [intV n] []=some (strV (numS n),[]):=by
 refine fnO v73 ?_;have h0':¬(n:Int)=0:=oz
 have hneg:¬(n:Int)<0:=oz
 have hlen:=Hx n 13 (by omega) (by omega);unfold v73;simp(disch:=try exact zd) [h0,h0'];refine Am (fun i s=>∃(k:Nat) (t:Str),k<=n/\t.length=i/\(if k=0 then numS n=t else numS n=numS k++t)/\s=⟨[(0,intV n),(3,strV t),(4,intV k)],[]⟩) (numS n).length ⟨n,[],qg _,rfl,by simp[h0],by first | rfl | simp⟩ ?_ ?_
 .rintro i s hi ⟨k,t,hk,ht,he,rfl⟩
  have hk0:k≠0:=by
   rintro rfl;rw[if_pos rfl]at he;rw[he]at hi;omega
  rw[if_neg hk0]at he;have hk0':¬(k:Int)=0:=oz
  obtain⟨d,hd,hd10⟩:∃d,d=k % 10/\d<10:=⟨k % 10,rfl,Nat.mod_lt _ oz⟩;have hmod:(k:Int).tmod 10=(d:Int):=by rw[Int.tmod_eq_emod_of_nonneg oz];omega
  have hdiv:(k:Int).tdiv 10=((k / 10:Nat):Int):=by rw[qa6 oz];omega
  have hb1:AS (some (intV ((d:Int)+1))) 10 10=some (d+1):=natBelow_cast (k:=.i64) (n:=d+1) oz;have hb2:AS (some (intV (d:Int))) 0 (d+1)=some d:=natBelow_cast (k:=.i64) (n:=d) oz;have hdr:∀d:Nat,d<10->List.drop d (48::List.take d [49,50,51,52,53,54,55,56,57])=[UInt8.ofNat (48+d)]:=by decide
  have hdd:=hdr d hd10;have hnd:¬(d:Int)<0:=oz
  have hnext:if k / 10=0 then numS n=UInt8.ofNat (48+d)::t else numS n=numS (k / 10)++UInt8.ofNat (48+d)::t:=by
   by_cases h10:k<10
   .rw [if_pos oz,he,Ee h10,hd,qav h10]
    rfl
   .rw [if_neg oz,he,Ez h10,hd]
    simp
  have htl:t.length<=13:=oz
  unfold Mo;simp(disch:=try exact zd) [hk0,hk0',hnd,hmod,hdiv,hb1,hb2,hdd];exact⟨k / 10,oz,UInt8.ofNat (48+d)::t,by simp[ht],hnext,by simp⟩
 .rintro s ⟨k,t,hk,ht,he,rfl⟩
  have hk0:k=0:=by
   by_cases hk0:k=0
   .exact hk0
   .rw [if_neg hk0] at he
    have:=RZ k;rw[he]at ht;simp at ht;rw[ht]at this;simp at this
  subst hk0;rw[if_pos rfl]at he;unfold Mo;simp(disch:=try exact zd) [hneg,he]
theorem RT (n:Nat)(taken:List Str)(hn:n<=584115552256)(ht:taken.length<=584115552256):(K A).call 110 [intV n,AB taken] []=some (strV (Av n taken),[]):=by
 refine fnO v110 ?_;have hmx:(if (0:Int)>(n:Int) then (0:Int) else (n:Int))=n:=by rw[if_neg oz]
 have hge:=ED taken (n+taken.length+1) 1 n;have hle:=JY n taken;have hnot:=Dv n taken;have hkdef:AT n taken=CO taken (n+taken.length+1) 1 n:=rfl;unfold v110;simp(disch:=try exact zd) [hmx];refine Am (fun i s=>∃j:Nat,j<=n/\i<=n+taken.length/\CO taken (n+taken.length+1-i) (1+i) j=AT n taken/\j+Db taken (1+i)<n+taken.length+1-i/\s=⟨[(0,intV j),(1,AB taken),(5,intV ((i:Int)+1))],[]⟩) (AT n taken-1)
  ⟨n,qg _,oz,rfl,by have:=HR taken 1;simp only[qbe,Nat.sub_zero];omega,by simp⟩ ?_ ?_
 .rintro i s hi ⟨j,hj,hin,hf,hlt,rfl⟩
  have hnum:=Sk (A:=A) (i+1) oz oz;have hlen:=Hx (i+1) 13 oz oz;have hhas:=Gi (A:=A) taken (AN (i+1)) oz;have hv:AN (i+1)=118::numS (i+1):=rfl;obtain⟨f,hfe⟩:∃f,n+taken.length+1-i=f+1:=⟨n+taken.length-i,oz⟩;rw[hfe,qbf 1 i,CO]at hf;rw[hfe,qbf 1 i]at hlt;rw[show(((i+1:Nat):Int))=(i:Int)+1 by omega]at hnum;rw[hv]at hhas;unfold Na;by_cases hm:AN (i+1)∈taken
  .rw [if_pos hm] at hf
   have hm':=hm;rw[hv]at hm';have hcl:=Nc hm;simp(disch:=try exact zd) [hnum,hhas,hm'];exact⟨j,hj,oz,by rw[show n+taken.length-i=f by omega,show 1+(i+1)=i+1+1 by omega];exact hf,by rw[show 1+(i+1)=i+1+1 by omega];omega,by simp⟩
  .rw [if_neg hm] at hf
   have hm':=hm;rw[hv]at hm';have hj0:j≠0:=by
    rintro rfl;rw[if_pos rfl]at hf;omega
   rw[if_neg hj0]at hf;have hj0':¬(j:Int)=0:=oz;have hcm:=Lk taken (i+1);have hsub:IntKind.i64.wrap ((j:Int)-1)=((j-1:Nat):Int):=(by rw[FW _ oz];omega);simp(disch:=try exact zd) [hnum,hhas,hm',hj0,hj0',hsub];exact⟨j-1,oz,oz,by rw[show n+taken.length-i=f by omega,show 1+(i+1)=i+1+1 by omega];exact hf,by rw[show 1+(i+1)=i+1+1 by omega];omega,by simp⟩
 .rintro s ⟨j,hj,hin,hf,hlt,rfl⟩
  have hk1:AT n taken-1+1=AT n taken:=oz
  have hnum:=Sk (A:=A) (AT n taken) oz oz;have hlen:=Hx (AT n taken) 13 oz oz;have hhas:=Gi (A:=A) taken (AN (AT n taken)) oz;have hv:AN (AT n taken)=118::numS (AT n taken):=rfl;have hm:AN (AT n taken)∉taken:=hnot;obtain⟨f,hfe⟩:∃f,n+taken.length+1-(AT n taken-1)=f+1:=⟨n+taken.length-(AT n taken-1),oz⟩;rw[hfe,qbf 1 _,hk1,CO,if_neg hm]at hf;have hj0:j=0:=by
   by_cases hj0:j=0
   .exact hj0
   .rw [if_neg hj0] at hf
    have:=ED taken f (AT n taken+1) (j-1);omega
  subst hj0;rw[hv]at hhas hm;rw[show(((AT n taken-1:Nat):Int))+1=(AT n taken:Int) by omega];unfold Na;simp(disch:=try exact zd) [hnum,hhas,hm,Av,AN]
def headEq (a b:Exp):Prop:=a.kind=b.kind/\a.num=b.num/\a.ty=b.ty/\a.kids.length=b.kids.length/\a.arms.length=b.arms.length
def Gm (a b:Exp):Prop:=∀(i:Nat) p q,a.arms[i]?=some p->b.arms[i]?=some q->p.1.con=q.1.con/\p.1.vars.length=q.1.vars.length
def Zhw (left right:List Str)(s t:Str):Prop:=rlast left s=rlast right t/\(0<=rlast left s\/s=t)
def YF (a:Exp)(l:List (Exp->List Str->List Str->Prop))(b:Exp)(left right:List Str):Prop:=
 headEq a b/\(a.kind=1->Zhw left right a.name b.name)/\(a.kind=2->a.name=b.name)/\
  (a.kind≠1->a.kind≠2->Gm a b/\∀(i:Nat) f y,l[i]?=some f->b.children[i]?=some y->f y (left++a.bound i) (right++b.bound i))
def Zit (a:Exp):Exp->List Str->List Str->Prop:=a.fold YF
def news (taken:List Str)(n k:Nat):List Str:=(List.range k).map fun j=>Av (n+j) taken
@[simp] theorem news_len (taken:List Str) (n k:Nat):(news taken n k).length=k:=by simp[news]
def Zgp (taken:List Str)(e:Exp)(l:List (List Str->List Str->Exp))(old Bm:List Str):Exp:=
 if e.kind=1 then (if 0<=rlast old e.name then .mk e.kind e.pos ((Bm[(rlast old e.name).toNat]?).getD []) e.num e.kids e.arms e.ty else e)
 else
  let cs:=l.zipIdx.map fun p=>p.1 (old++e.bound p.2) (Bm++news taken old.length (e.bound p.2).length)
  .mk e.kind e.pos (if e.kind=4\/e.kind=6\/e.kind=7 then Av old.length taken else e.name) e.num (cs.take e.kids.length)
   (List.zipWith (fun a c=>(⟨a.1.pos,a.1.con,news taken old.length a.1.vars.length⟩,c)) e.arms (cs.drop e.kids.length)) e.ty
def ST (taken:List Str)(e:Exp):List Str->List Str->Exp:=e.fold (Zgp taken)
def Tt (taken:List Str)(e:Exp)(old Bm:List Str):List Exp:=e.children.zipIdx.map fun p=>ST taken p.1 (old++e.bound p.2) (Bm++news taken old.length (e.bound p.2).length)
@[simp] theorem canonC_len (taken:List Str) (e:Exp) (old Bm:List Str):(Tt taken e old Bm).length=e.kids.length+e.arms.length:=by simp[Tt]
theorem Zct {e x:Exp}{i:Nat}(hk:e.kind≠1)(hx:e.children[i]?=some x){s:Str}(hs:s∈Ac x):s∈e.bound i\/s∈Ac e:=by
 by_cases hb:s∈e.bound i;grind
 .refine .inr ?_
  rw[Ef,if_neg hk,<-Pn];have key:∀n,n<=e.children.length->i<n->s∈outP e n:=by
   intro n
   induction n with
   |zero=>simp
   |succ n ih=>
    intro hn hi;obtain⟨y,hy⟩:=Ab (l:=e.children) (i:=n) oz;rw[Nk hy,Lu];grind
  grind
theorem Bw {e:Exp}{i:Nat}:e.bound i=if e.kind=4\/e.kind=7\/(e.kind=6/\i=1) then [e.name] else if e.kind=8/\0<i then ((e.arms[i-1]?).map fun a=>a.1.vars).getD [] else []:=rfl
section
variable (k p:Int)(n:Str)(m:Int)(ks:List Exp)(l:List (ArmH×Exp))(t:Ty)
theorem PJ:(Exp.mk k p n m ks l t).kind=k:=rfl
theorem Sw:(Exp.mk k p n m ks l t).pos=p:=rfl
theorem IF:(Exp.mk k p n m ks l t).name=n:=rfl
theorem Q1:(Exp.mk k p n m ks l t).num=m:=rfl
theorem Fg:(Exp.mk k p n m ks l t).kids=ks:=rfl
theorem Dt:(Exp.mk k p n m ks l t).arms=l:=rfl
theorem Vw:(Exp.mk k p n m ks l t).ty=t:=rfl
theorem E3 (i:Nat):(Exp.mk k p n m ks l t).bound i=if k=4\/k=7\/(k=6/\i=1) then [n] else if k=8/\0<i then ((l[i-1]?).map fun a=>a.1.vars).getD [] else []:=rfl
theorem BJ:(Exp.mk k p n m ks l t).children=ks++l.map (·.2):=rfl
end
theorem headEq.symm {a b:Exp}(h:headEq a b):headEq b a:=⟨h.1.symm,h.2.1.symm,h.2.2.1.symm,h.2.2.2.1.symm,h.2.2.2.2.symm⟩
theorem headEq.children {a b:Exp}(h:headEq a b):a.children.length=b.children.length:=by
 rw[a.children_len,b.children_len,h.2.2.2.1,h.2.2.2.2]
def DQ (e:Exp)(cs:List Exp):Exp:=.mk e.kind 0 e.name e.num (cs.take e.kids.length) (List.zipWith (fun(a:ArmH×Exp) c=>((⟨0,a.1.con,a.1.vars⟩:ArmH),c)) e.arms (cs.drop e.kids.length)) e.ty
def Aj (e:Exp):Exp:=e.fold DQ
theorem Em (e:Exp):Aj e=DQ e (e.children.map Aj):=Exp.fold_eq _ e
theorem VJ {α β γ:Type}{f:α->β->γ}{l:List α}{m:List β}(h:l.length=m.length)(g:γ->β)(hg:∀a b,g (f a b)=b):(List.zipWith f l m).map g=m:=by
 refine qH fun j=>?_;rw[qk,qaq];by_cases hj:j<l.length
 .rw [qj hj,qj (show j<m.length by omega)]
  simp[hg]
 .rw [qap oz,qap oz]
  rfl
theorem ET (e:Exp):(Aj e).kind=e.kind/\(Aj e).name=e.name/\(Aj e).num=e.num/\(Aj e).ty=e.ty/\(Aj e).kids.length=e.kids.length/\(Aj e).arms.length=e.arms.length/\
 (Aj e).children=e.children.map Aj/\(∀i:Nat,(Aj e).arms[i]?=(e.arms[i]?).map fun(a:ArmH×Exp)=>((⟨0,a.1.con,a.1.vars⟩:ArmH),Aj a.2)):=by
 have hl:(e.children.map Aj).length=e.kids.length+e.arms.length:=by simp
 have hkl:((e.children.map Aj).take e.kids.length).length=e.kids.length:=by rw[qQ,hl];omega
 have hdl:((e.children.map Aj).drop e.kids.length).length=e.arms.length:=by rw[qac,hl];omega
 have hal:(List.zipWith (fun(a:ArmH×Exp) (c:Exp)=>((⟨0,a.1.con,a.1.vars⟩:ArmH),c)) e.arms ((e.children.map Aj).drop e.kids.length)).length=e.arms.length:=by
  rw[List.length_zipWith,hdl];omega
 rw[Em];refine⟨rfl,rfl,rfl,rfl,by simp only[DQ,Fg,hkl],by simp only[DQ,Dt,hal],?_,?_⟩
 .simp only [DQ,BJ]
  rw[VJ (g:=fun(x:ArmH×Exp)=>x.2) (by rw[hdl]) (fun _ _=>rfl),qa7]
 .intro i
  simp only[DQ,Dt,qaq];have hd:(e.children.map Aj).drop e.kids.length=e.arms.map fun a=>Aj a.2:=by
   simp[Exp.children]
  rw[hd,qk];cases e.arms[i]?<;>rfl
theorem Y8 (e:Exp):(Aj e).weight=e.weight:=by
 induction e using Exp.ind with
 |h e ih=>
  obtain⟨h1,h2,h3,h4,h5,h6,h7,h8⟩:=ET e;rw[Exp.weight_eq,e.weight_eq,h7,qat];have ha:((Aj e).arms.map fun a=>a.1.vars.length)=e.arms.map fun a=>a.1.vars.length:=by
   refine qH fun i=>?_;rw[qk,qk,h8];cases e.arms[i]?<;>rfl
  have hc:e.children.map (Exp.weight∘Aj)=e.children.map Exp.weight:=qL fun x hx=>ih x hx;rw[ha,hc]
def Zie (e:Exp)(taken:List Str):Exp:=ST (taken++Ac e) (Aj e) [] []
end Go.Vs.Tryz
namespace Go.Vs
open Go
def elK (x:Option Obj)(N i:Nat):Bool:=match x with
 |some (.arr _ rows _)=>rows.length==N&&Nat.blt i N
 |_=>false
@[simp] theorem elK_some {s p N i:Nat} {rows:WW1}:elK (some (.arr s rows p)) N i=(rows.length==N&&Nat.blt i N):=rfl
@[simp] theorem elOk_eq {L:LO1} {k N i:Nat}:elOk L k N i=elK (L k) N i:=rfl
end Go.Vs
namespace Go.Vs.Tryz
open Go Go.Vs
variable {A:Ag}
abbrev exsV (l:List Exp):V:=.sc (.c (.sl (Exp.rows l)))
def Aw (zz:List (ArmH×Exp))(cs:List Exp):List (ArmH×Exp):=List.zipWith (fun(a:ArmH×Exp) c=>(a.1,c)) zz cs
@[simp] theorem armsW_len (zz:List (ArmH×Exp)) (cs:List Exp):(Aw zz cs).length=min zz.length cs.length:=by simp[Aw]
theorem CL {α:Type}{zs zz:List α}{i:Nat}{x:α}(hl:zs.length=zz.length)(hx:zs[i]?=some x):(zs.take i++zz.drop i).set i x=zs.take (i+1)++zz.drop (i+1):=by
 have hi:=(qf.1 hx).1;have htl:(zs.take i).length=i:=by simp;omega
 rw[AR hx,qaj];have hd:zz.drop i=zz[i]'(by omega)::zz.drop (i+1):=qaV oz;rw[hd,List.set_append_right _ _ oz,htl,qa2,List.set_cons_zero];rfl
theorem Fx (l:List (ArmH×Exp))(i:Nat)(x:ArmH×Exp):setRow (wr (Exp.armRows l)) i (wc (Ay x))=wr (Exp.armRows (l.set i x)):=by
 rw[setRow_set];simp[Exp.armRows_map,wr,qa8]
theorem Og (a:ArmH×Exp)(c:Exp):splice (wc (Ay a)) 3 (wc c.row)=some (wc (Ay (a.1,c))):=by
 rw[Ay,Ay,Exp.row_eq a.2,Exp.row_eq c];rfl
theorem CW {α:Type}{zs zz:List α}{i:Nat}(hl:zs.length=zz.length)(hi:i<zz.length):(zs.take i++zz.drop i)[i]?=zz[i]?:=by
 have htl:(zs.take i).length=i:=by simp;omega
 rw[qN oz,htl,qa2,qah];rfl
theorem CZ {α:Type}{zs zz:List α}{i:Nat}(hl:zs.length=zz.length):(zs.take i++zz.drop i).length=zz.length:=by
 simp;omega
theorem Qh (e:Exp)(cs:List Exp)(h:cs.length=e.kids.length+e.arms.length)(hl:e.weight<=687194767360):(K A).call 106 [expV e,exsV cs] []=
 some (.ag [.c (.int .i64 e.kind),.c (.int .i64 e.pos),.c (.str e.name),.c (.int .i64 e.num),.arr 0 e.kids.length,.arr 1 e.arms.length,.c (.int .i64 e.ty.kind),.c (.str e.ty.name),.c (.int .i64 e.ty.id),.c (.int .i64 e.ty.home),.c (.sl (Ty.rows e.ty.args))],
  [.arr 11 (wr (Exp.rows (cs.take e.kids.length))) 0,.arr 14 (wr (Exp.armRows (Aw e.arms (cs.drop e.kids.length)))) 0]):=by
 refine fnO v106 ?_;have hle:=e.children_le;rw[e.children_len]at hle;have hrow:wc e.row=[.c (.int .i64 e.kind),.c (.int .i64 e.pos),.c (.str e.name),.c (.int .i64 e.num),.c (.sl (Exp.rows e.kids)),.c (.sl (Exp.armRows e.arms)),.c (.int .i64 e.ty.kind),.c (.str e.ty.name),.c (.int .i64 e.ty.id),.c (.int .i64 e.ty.home),.c (.sl (Ty.rows e.ty.args))]:=by rw[Exp.row_eq];rfl
 have hzl:(Aw e.arms (cs.drop e.kids.length)).length=e.arms.length:=by rw[armsW_len,qac];omega
 have hfit:BN 11 (Exp.rows cs)=true:=by rw[Exp.rows_map];exact F5 Exp.row_len cs
 have htk:(Exp.rows cs).take e.kids.length=Exp.rows (cs.take e.kids.length):=by simp[Exp.rows_map,qaC]
 have hcl:(cs.take e.kids.length).length=e.kids.length:=by rw[qQ];omega
 unfold v106;simp(maxSteps:=9^7) (disch:=try exact zd) [h,hrow,hfit,htk,hcl,-getElem?_pos];refine An (fun i=>⟨[(1,exsV cs),(4,.sc (.ptr 128 0)),(5,intV e.kids.length),(6,.sc (.ptr 1152 0)),(7,intV i)],
  [(128,some (.box [zi,zi,zs,zi,.nil,.nil,zi,zs,zi,zi,.nil])),(1152,some (.box [.c (.int .i64 e.kind),.c (.int .i64 e.pos),.c (.str e.name),.c (.int .i64 e.num),.arr 1472 e.kids.length,.arr 1664 e.arms.length,.c (.int .i64 e.ty.kind),.c (.str e.ty.name),.c (.int .i64 e.ty.id),.c (.int .i64 e.ty.home),.c (.sl (Ty.rows e.ty.args))])),
    (1472,some (.arr 11 (wr (Exp.rows (cs.take e.kids.length))) 0)),(1664,some (.arr 14 (wr (Exp.armRows ((Aw e.arms (cs.drop e.kids.length)).take i++e.arms.drop i))) 0))]⟩) e.arms.length ?_ ?_ ?_
 .simp
 .intro i hi
  obtain⟨a,ha⟩:=Ab hi;obtain⟨c,hc⟩:=Ab (l:=cs) (i:=e.kids.length+i) oz;have hz:(Aw e.arms (cs.drop e.kids.length))[i]?=some (a.1,c):=by
   unfold Aw;rw[qaq,ha,qah,hc]
  have hg:=CW hzl hi;rw[ha]at hg;have hs:=CL hzl hz;have hln:=CZ (i:=i) hzl;rw[<-hs];generalize (Aw e.arms (cs.drop e.kids.length)).take i++e.arms.drop i=zz at hg hln |-;have hset:=Fx zz i (a.1,c);have hsp:=Og a c;have hnb:AH (intV ((e.kids.length:Int)+i)) cs.length=some (e.kids.length+i):=natBelow_cast (k:=.i64) (n:=e.kids.length+i) oz;unfold Im
  simp(maxSteps:=9^7) (disch:=try exact zd) [hi,hg,hln,hc,hnb,hsp,hset,Bz,-getElem?_pos]
 .have ht:(Aw e.arms (cs.drop e.kids.length)).take e.arms.length++e.arms.drop e.arms.length=Aw e.arms (cs.drop e.kids.length):=by
   rw[qay,qM,qh oz]
  rw[ht];unfold Im;simp(maxSteps:=9^7) (disch:=try exact zd) [hzl,-getElem?_pos]
def BW (l:List (ArmH×Exp)):List (ArmH×Exp):=l.map fun a=>(⟨0,a.1.con,a.1.vars⟩,a.2)
@[simp] theorem armsP_len (l:List (ArmH×Exp)):(BW l).length=l.length:=by simp[BW]
theorem O7 (a:ArmH×Exp):splice (wc (Ay a)) 0 [W.c (.int .i64 0)]=some (wc (Ay ((⟨0,a.1.con,a.1.vars⟩:ArmH),a.2))):=by
 rw[Ay,Ay,Exp.row_eq a.2];rfl
theorem Se (e:Exp):BW (Aw e.arms ((e.children.map Aj).drop e.kids.length))=(Aj e).arms:=by
 obtain⟨_,_,_,_,_,h6,_,h8⟩:=ET e;have hd:(e.children.map Aj).drop e.kids.length=e.arms.map fun a=>Aj a.2:=by simp[Exp.children]
 refine qH fun i=>?_;rw[h8,hd];unfold BW Aw;rw[qk,qaq,qk];cases e.arms[i]?<;>rfl
theorem Vv (e:Exp):(e.children.map Aj).take e.kids.length=(Aj e).kids:=by
 rw[Em];rfl
theorem Nz (e:Exp):wc (Aj e).row=[.c (.int .i64 e.kind),.c (.int .i64 0),.c (.str e.name),.c (.int .i64 e.num),.c (.sl (Exp.rows (Aj e).kids)),.c (.sl (Exp.armRows (Aj e).arms)),.c (.int .i64 e.ty.kind),.c (.str e.ty.name),.c (.int .i64 e.ty.id),.c (.int .i64 e.ty.home),.c (.sl (Ty.rows e.ty.args))]:=by
 obtain⟨h1,h2,h3,h4,_,_,_,_⟩:=ET e;have hp:(Aj e).pos=0:=by rw[Em];rfl
 rw[Exp.row_eq,h1,h2,h3,h4,hp];rfl
theorem NN (e:Exp):e.weight<=687194767360->(K A).call 51 [expV e] []=some (expV (Aj e),[]):=by
 induction e using Exp.ind with
 |h e ih=>
 intro hl;refine fnO v51 ?_;have hle:=e.children_le;rw[e.children_len]at hle;have hc:=EW (A:=A) e oz;have hml:(e.children.map Aj).length=e.children.length:=by simp
 have hw:=Qh (A:=A) e (e.children.map Aj) (by rw[hml,e.children_len]) hl;have hal:(Aw e.arms ((e.children.map Aj).drop e.kids.length)).length=e.arms.length:=by rw[armsW_len,qac,hml,e.children_len];omega
 rw[Vv]at hw;have hks:(Aj e).kids.length=e.kids.length:=(ET e).2.2.2.2.1;have has:(Aj e).arms.length=e.arms.length:=(ET e).2.2.2.2.2.1;unfold v51;simp(maxSteps:=9^7) (disch:=try exact zd) [hc,-getElem?_pos];refine An (fun i=>⟨[(1,.sc (.ptr 64 0)),(2,.sc (.ptr 128 0)),(3,.sc (.arr 288 e.children.length)),(4,intV i)],
  [(64,some (.box (wc e.row))),(128,some (.box [zi,zi,zs,zi,.nil,.nil,zi,zs,zi,zi,.nil])),(288,some (.arr 11 (wr (Exp.rows ((e.children.map Aj).take i++e.children.drop i))) 0))]⟩) e.children.length ?_ ?_ ?_
 .simp
 .intro i hi
  obtain⟨x,hx⟩:=Ab hi;have hmem:=qc hx;have hrec:=ih x hmem (by have:=Exp.child_lt hmem;omega);have hz:(e.children.map Aj)[i]?=some (Aj x):=by simp[hx]
  have hg:=CW hml hi;rw[hx]at hg;have hs:=CL hml hz;have hln:=CZ (i:=i) hml;rw[<-hs];generalize (e.children.map Aj).take i++e.children.drop i=zz at hg hln |-;have hset:=DM zz i (Aj x);have hi':(i:Int)<(e.kids.length:Int)+e.arms.length:=by rw[e.children_len]at hi;omega
  rw[e.children_len]at hln hi;unfold JZ;simp(maxSteps:=9^7) (disch:=try exact zd) [hi,hi',hg,hln,hrec,hset,Bz,-getElem?_pos]
 .have ht:(e.children.map Aj).take e.children.length++e.children.drop e.children.length=e.children.map Aj:=by
   rw[qay,qM,qh oz]
  rw[ht];unfold JZ;simp(maxSteps:=9^7) (disch:=try exact zd) [hw,hml,-getElem?_pos];have hsa:=Se e;generalize Aw e.arms ((e.children.map Aj).drop e.kids.length)=ws at *
  have hpl:(BW ws).length=ws.length:=armsP_len ws;refine An (fun i=>⟨[(2,.sc (.ptr 128 0)),(5,.sc (.ptr 1664 0)),(6,intV i)],
   [(128,some (.box [zi,zi,zs,zi,.nil,.nil,zi,zs,zi,zi,.nil])),(288,some (.arr 11 (wr (Exp.rows (e.children.map Aj))) (e.kids.length+e.arms.length))),(1632,some (.arr 11 (wr (Exp.rows (Aj e).kids)) 0)),
     (1633,some (.arr 14 (wr (Exp.armRows ((BW ws).take i++ws.drop i))) 0)),
     (1664,some (.box [.c (.int .i64 e.kind),zi,.c (.str e.name),.c (.int .i64 e.num),.arr 1632 e.kids.length,.arr 1633 e.arms.length,.c (.int .i64 e.ty.kind),.c (.str e.ty.name),.c (.int .i64 e.ty.id),.c (.int .i64 e.ty.home),.c (.sl (Ty.rows e.ty.args))]))]⟩) e.arms.length ?_ ?_ ?_
  .simp
  .intro i hi
   obtain⟨a,ha⟩:=Ab (l:=ws) (i:=i) oz;have hz:(BW ws)[i]?=some ((⟨0,a.1.con,a.1.vars⟩:ArmH),a.2):=by
    unfold BW;rw[qk,ha];rfl
   have hg:=CW (i:=i) hpl oz;rw[ha]at hg;have hs:=CL hpl hz;have hln:=CZ (i:=i) hpl;rw[<-hs];generalize (BW ws).take i++ws.drop i=zz at hg hln |-;have hset:=Fx zz i ((⟨0,a.1.con,a.1.vars⟩:ArmH),a.2);have hsp:=O7 a;have hln2:zz.length=e.arms.length:=oz;unfold LV;simp(maxSteps:=9^7) (disch:=try exact zd) [hi,hg,hln2,hsp,hset,Bz,-getElem?_pos]
  .have ht:(BW ws).take e.arms.length++ws.drop e.arms.length=(Aj e).arms:=by
    rw[<-hal,qay,qM,qh oz,hsa]
   rw[ht];have hsr:=Nz e;unfold LV;simp(maxSteps:=9^7) (disch:=try exact zd) [hsr,hks,has,-getElem?_pos]
end Go.Vs.Tryz
namespace Go.Vs
open Go
section
variable {C:Ctx}{E:LV1}{L:LO1}{oid:Nat}
def mkSK (oid s bytes:Nat)(zero:List W)(v:V):Option (V×Upd):=match KB v with
 |some (.ofNat m)=>bif Nat.ble (m*bytes) Dm&&zero.length==s&&Nat.blt 0 s&&Nat.ble m Bd then
  some (.sc (.arr oid m),[(oid,some (.arr s (List.replicate m zero) 0))]) else none
 |_=>none
@[simp] theorem x_mkS {s bytes:Nat} {zero:List W} {n:Opd}:Af C E L oid (.mkS s bytes zero n)=newK (L oid) (mkSK oid s bytes zero (n.val C E)):=by
 simp only[Af,newK,mkSK];cases L oid with
 |some _=>rfl
 |none=>
  cases KB (n.val C E)with
  |none=>rfl
  |some z=>cases z<;>rfl
@[simp] theorem mkSK_nat {s bytes m:Nat} {zero:List W} {k:IntKind} (h1:m*bytes<=140737488355328) (h2:zero.length=s) (h3:0<s) (h4:m<=9223372036854775807):mkSK oid s bytes zero (.sc (.c (.int k (m:Int))))=some (.sc (.arr oid m),[(oid,some (.arr s (List.replicate m zero) 0))]):=by
 have e:mkSK oid s bytes zero (.sc (.c (.int k (m:Int))))=bif Nat.ble (m*bytes) Dm&&zero.length==s&&Nat.blt 0 s&&Nat.ble m Bd then
  some (.sc (.arr oid m),[(oid,some (.arr s (List.replicate m zero) 0))]) else none:=rfl
 rw[e,qU (by unfold Dm;exact h1),qU (by unfold Bd;exact h4),show Nat.blt 0 s=true from qU h3,h2];simp
end
end Go.Vs
namespace Go.Vs.Tryz
open Go Go.Vs
variable {A:Ag}
def Pb (taken:List Str)(n:Nat)(l:List (ArmH×Exp)):List (ArmH×Exp):=l.map fun a=>(⟨a.1.pos,a.1.con,news taken n a.1.vars.length⟩,a.2)
@[simp] theorem armsN_len (taken:List Str) (n:Nat) (l:List (ArmH×Exp)):(Pb taken n l).length=l.length:=by simp[Pb]
theorem Q2 (l:List Str)(i:Nat)(x:Str):setRow (wr (Al l)) i [W.c (.str x)]=wr (Al (l.set i x)):=by
 rw[setRow_set];simp[Al,wr,qa8,DX]
abbrev B9:Obj:=.box [zi,zi,zs,zi,.nil,.nil,zi,zs,zi,zi,.nil]
variable {A:Ag}
def Zh9 (k:Nat):List Str:=[[118,49],118::numS (k+2)]
end Go.Vs.Tryz
