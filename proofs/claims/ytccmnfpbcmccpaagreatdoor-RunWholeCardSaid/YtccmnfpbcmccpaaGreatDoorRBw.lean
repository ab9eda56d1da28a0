/- Equal expressions by the reference (positions apart), walked. -/
import Derived.Test.YtccmnfpbcmccpaaGreatDoorRAw
set_option linter.all false
set_option maxHeartbeats 32000000
set_option maxRecDepth 10000
namespace Go.Vs.Tryz
open Go Go.Vs
variable {A:Ag}
theorem WY (l m:List Str)(h:l.length<=1649267441664):(K A).call 53 [AA l,AA m] []=some (Ac (decide (l=m)),[]):=by
 refine Ah (vf:=v53) (by kernel_rfl) rfl (by decide) ?_;unfold v53;by_cases hl:l.length=m.length
 .have hp:=Vg l m
  simp(disch:=try exact zd) [hl];refine Am (fun i=>⟨[(0,AA l),(1,AA m),(5,intV i)],[]⟩) (Ck l m) ?_ ?_ ?_
  .simp
  .intro i hi
   obtain⟨x,hx,hy⟩:=QS hi;have hlt:i<m.length:=oz;unfold M0;simp(disch:=try exact zd) [hx,hy,hlt,hl,-getElem?_pos]
  .unfold M0
   by_cases hm:Ck l m<l.length
   .obtain ⟨x,y,hx,hy,hxy⟩:=SN hl hm
    have hne:l≠m:=fun h=>by rw[<-PX hl]at h;omega
    have hm':Ck l m<m.length:=oz;simp(disch:=try exact zd) [hx,hy,hm',hl,hxy,hne,-getElem?_pos]
   .have he:l=m:=(PX hl).1 oz
    subst he;simp(disch:=try exact zd) [hm,-getElem?_pos]
 .have hne:l≠m:=fun h=>hl (by rw [h])
  have hl':¬(l.length:Int)=m.length:=oz
  simp(disch:=try exact zd) [hl',hne,hl]
theorem Zg2 (l m:List Exp)(hl:l.length<=687194767360)(ih:∀x∈l,∀y∈m,∃r,IffB (sameP x y) r/\(K A).call 18 [expV x,expV y] []=some r):
 ∃r,IffB (allR sameP l m) r/\(K A).call 54 [exsV l,exsV m] []=some r:=by
 refine fnE v54 ?_;unfold v54;by_cases hn:l.length=m.length
 .simp (disch:=try exact zd) [hn]
  refine Al (fun i s=>(∀(j:Nat) x y,j<i->l[j]?=some x->m[j]?=some y->sameP x y)/\s=⟨[(0,exsV l),(1,exsV m),(5,intV i)],[]⟩) l.length ⟨oz,by simp⟩ ?_ ?_
  .rintro i s hi ⟨hs,rfl⟩
   obtain⟨x,hx⟩:=Ab hi;obtain⟨y,hy⟩:=Ab (l:=m) (i:=i) oz;obtain⟨_,⟨b,hb,rfl⟩,hc⟩:=ih x (qc hx) y (qc hy);unfold Qg;cases b with
   |true=>
    have hxy:=hb.1 rfl;simp(disch:=try exact zd) [hi,hx,hy,hc,-getElem?_pos];intro j x' y' hj hx' hy';by_cases hji:j=i
    .subst hji
     rw[hx]at hx';rw[hy]at hy';cases hx';cases hy';exact hxy
    .exact hs j x' y' oz hx' hy'
   |false=>
    simp(disch:=try exact zd) [hi,hx,hy,hc,-getElem?_pos];exact IffB.no fun h=>by have:=hb.2 (h.2 i x y hx hy);cases this
  .rintro s ⟨hs,rfl⟩
   unfold Qg;simp(disch:=try exact zd);exact IffB.yes ⟨hn,fun i x y hx hy=>hs i x y (qf.1 hx).1 hx hy⟩
 .have hn':¬(l.length:Int)=m.length:=oz
  simp(disch:=try exact zd) [hn,hn'];exact IffB.no fun h=>hn h.1
theorem R8 (a:Exp):∀b,tyBd a->a.weight<=687194767360->b.weight<=687194767360->∃r,IffB (sameP a b) r/\(K A).call 18 [expV a,expV b] []=some r:=by
 induction a using Exp.ind with
 |h a ih=>
 intro b ht hw hwb;have hal:=a.children_le;have hbl:=b.children_le;have hchA:=a.children_len;have hchB:=b.children_len;refine fnE v18 ?_;obtain⟨_,⟨t,h3,rfl⟩,hc3⟩:=So (A:=A) 687194767360 a.ty b.ty ht.one oz;have hca:=E7 (A:=A) a oz;have hcb:=E7 (A:=A) b oz
 obtain⟨_,⟨vk,hK,rfl⟩,hck⟩:=Zg2 (A:=A) a.children b.children oz fun x hx y hy=>ih x hx y (ht.child hx) (by have:=Exp.child_lt hx;omega) (by have:=Exp.child_lt hy;omega);unfold v18;by_cases q1:a.kind=b.kind
 case neg=>
  simp(disch:=try exact zd) [q1];exact IffB.no fun h=>by rw[DO]at h;exact q1 h.1
 by_cases q2:a.name=b.name
 case neg=>
  simp(disch:=try exact zd) [q1,q2];exact IffB.no fun h=>by rw[DO]at h;exact q2 h.2.1
 by_cases q3:a.num=b.num
 case neg=>
  simp(disch:=try exact zd) [q1,q2,q3];exact IffB.no fun h=>by rw[DO]at h;exact q3 h.2.2.1
 cases t with
 |false=>
  simp(disch:=try exact zd) [q1,q2,q3,hc3];exact IffB.no fun h=>by rw[DO]at h;have:=h3.2 h.2.2.2.1;cases this
 |true=>
 have q4:=h3.1 rfl;by_cases q5:a.kids.length=b.kids.length
 case neg=>
  have q5':¬(a.kids.length:Int)=b.kids.length:=oz
  simp(disch:=try exact zd) [q1,q2,q3,hc3,q5,q5'];exact IffB.no fun h=>by rw[DO]at h;exact q5 h.2.2.2.2.1
 by_cases q6:a.arms.length=b.arms.length
 case neg=>
  have q6':¬(a.arms.length:Int)=b.arms.length:=oz
  simp(disch:=try exact zd) [q1,q2,q3,hc3,q5,q6,q6'];exact IffB.no fun h=>by rw[DO]at h;exact q6 h.2.2.2.2.2.1
 have hrest:(∀(i:Nat) p q,a.arms[i]?=some p->b.arms[i]?=some q->p.1.con=q.1.con/\p.1.vars=q.1.vars)->IffB (sameP a b) (Ac vk,[]):=by
  intro harms;refine⟨vk,hK.trans ?_,rfl⟩;rw[DO];exact⟨fun h=>⟨q1,q2,q3,q4,q5,q6,harms,h.2⟩,fun h=>⟨oz,h.2.2.2.2.2.2.2⟩⟩
 have hbad:∀(i:Nat) p q,a.arms[i]?=some p->b.arms[i]?=some q->¬(p.1.con=q.1.con/\p.1.vars=q.1.vars)->IffB (sameP a b) (Ac false,[]):=by
  intro i p q hp hq h;exact IffB.no fun h'=>by rw[DO]at h';exact h (h'.2.2.2.2.2.2.1 i p q hp hq)
 generalize sameP a b=P at hrest hbad |-;clear ih hK ht;simp(disch:=try exact zd) [q1,q2,q3,hc3,q5,q6];refine Al (fun i s=>(∀(j:Nat) p q,j<i->a.arms[j]?=some p->b.arms[j]?=some q->p.1.con=q.1.con/\p.1.vars=q.1.vars)/\s=⟨[(2,.sc (.ptr 64 0)),(3,.sc (.ptr 128 0)),(5,intV i)],[(64,some (.box (wc a.row))),(128,some (.box (wc b.row)))]⟩) a.arms.length ⟨oz,by simp⟩ ?_ ?_
 .rintro i s hi ⟨hs,rfl⟩
  obtain⟨p,hp⟩:=Ab hi;obtain⟨q,hq⟩:=Ab (l:=b.arms) (i:=i) oz;have hv:=Exp.vars_le (qc hp);have hc:=WY (A:=A) p.1.vars q.1.vars oz;have hib:i<b.arms.length:=oz
  have bad:=hbad i p q hp hq;have hiI:(i:Int)<b.arms.length:=oz
  unfold Mq;by_cases c1:p.1.con=q.1.con
  .by_cases c2:p.1.vars=q.1.vars
   .rw [c2] at hc
    simp(maxSteps:=9^7) (disch:=try exact zd) [hi,hib,hiI,hp,hq,hc,c1,c2,q6,-getElem?_pos];intro j x1 x2 y1 y2 hj hx' hy';by_cases hji:j=i
    .subst hji
     rw[hp]at hx';rw[hq]at hy';cases hx';cases hy';exact⟨c1,c2⟩
    .exact hs j _ _ oz hx' hy'
   .simp (maxSteps:=9^7) (disch:=try exact zd) [hi,hib,hiI,hp,hq,hc,c1,c2,q6,-getElem?_pos]
    exact bad fun h=>c2 h.2
  .simp (maxSteps:=9^7) (disch:=try exact zd) [hi,hib,hiI,hp,hq,hc,c1,q6,-getElem?_pos]
   exact bad fun h=>c1 h.1
 .rintro s ⟨hs,rfl⟩
  have yes:=hrest fun i p q hp hq=>hs i p q (qf.1 hp).1 hp hq;unfold Mq;simp(maxSteps:=9^7) (disch:=try exact zd) [hca,hcb,hck,q6];exact yes
variable {A:Ag}
theorem NR:∀s∈Cd,s.length<=2:=by decide
theorem rawE.free {ds:List DataD}{e:Exp}:rawE ds e->∀s∈Ad e,s∈Cd:=by
 induction e using Exp.ind with
 |h e ih=>
  intro h s hs;by_cases hk:e.kind=1
  .rw [CI hk] at hs
   subst hs;obtain⟨_,_,_,_,_,h⟩:=h.one;rcases h with ⟨_,n,_⟩|⟨k,_⟩|⟨k,_⟩|⟨k,_⟩|⟨k,_⟩|⟨k,_⟩|⟨k,_⟩|⟨k,_⟩
   .exact n
   all_goals (exfalso;omega)
  .obtain ⟨i,x,hx,h1,_⟩:=(B8 hk).1 hs
   exact ih x (qc hx) (h.child (qc hx)) s h1
def tkOk (n:Nat)(l:List Str):Prop:=l.length=n/\∀s∈l,s.length<=2
variable {A:Ag}
theorem U3 (e:Exp)(x:Str)(b:Exp)(hb:shp b)(hbw:b.weight<=100000000000)(hbn:nmL b)(hxl:x.length<=1000)(hl:e.weight<=100000000000)(hs:shp e)(hp:properP e)(hn:nmL e):
 (K A).call 155 [expV e,strV x,expV b] []=some (expV (subP e x b),[]):=by
 refine fnO v155 ?_;have hfl:=D4 b;have h1:=UC (A:=A) x b hb oz (fun s hs=>hbn s (Mg b s hs)) hxl e.weight e (qg _) hl hs hp hn;have h2:=Vh (A:=A) b hb.wf oz;have hrb:=BQ b;simp only[expV,hrb]at h2;unfold v155 subP;simp_all
def ImpB (P:Prop)(r:V×List Obj):Prop:=∃v:Bool,(v=true->P)/\r=(Ac v,[])
theorem rawE.nmL {ds:List DataD}(hc:ET ds){e:Exp}:rawE ds e->nmL e:=by
 have hcok:∀s,cOk ds s->s.length<=1000:=by
  rintro s (rfl|⟨d,hd,c,hcc,rfl⟩);simp
  .have:=(hc d hd c hcc).1
   omega
 induction e using Exp.ind with
 |h e ih=>
  intro h s hs;rcases A1.1 hs with h1|⟨i,x,hx,h1⟩
  .obtain ⟨_,_,_,_,_,hS⟩:=h.one
   rcases hS with ⟨_,n,_⟩|⟨_,n,_⟩|⟨_,n,_⟩|⟨_,n,_⟩|⟨_,n,_⟩|⟨_,n,_⟩|⟨_,n,_⟩|⟨_,n,_⟩<;>grind[NR]
  .rcases h1 with h1|h1
   .rw [Bx] at h1
    split at h1
    .rename_i hk
     obtain⟨_,_,_,_,_,hS⟩:=h.one;rw[qo]at h1;have:e.name∈Cd:=by
      rcases hS with ⟨k,n,_⟩|⟨k,n,_⟩|⟨k,n,_⟩|⟨k,n,_⟩|⟨k,n,_⟩|⟨k,n,_⟩|⟨k,n,_⟩|⟨k,n,_⟩<;>grind
     grind[NR]
    .split at h1
     .cases ha:e.arms[i-1]? with
      |none=>grind
      |some a=>
       rw[ha]at h1;have:=NR _ ((h.one.2.1 a (qc ha)).2.2.2 s h1);omega
     grind
   .exact ih x (qc hx) (h.child (qc hx)) s h1
variable {A:Ag}
theorem Zbv {x:Str}{free:List Str}{e:Exp}(hs:shp e)(hp:properP e)(hn:nmL e)(hl:e.weight<=100000000000/\free.length<=100000000000):nmL (Bf x free e):=by
 have hal:=FC e hs.wf;unfold Bf;by_cases h:e.kind=4\/e.kind=6\/e.kind=7
 .rw [if_pos h]
  obtain⟨ha,hc⟩:=Ew oz hs.one;unfold CX;split
  .exact hn
  .have hf:=GO 0 (allP e++free++[x]) (by simp;omega)
   generalize Au 0 (allP e++free++[x])=to at hf |-;intro s hs';rcases A1.1 hs' with h1|⟨i,y,hy,h1⟩
   .rw[h1,IG];exact hf
   .have hc':∀ ks,(Exp.mk e.kind e.pos to e.num ks e.arms e.ty).children=ks:=fun ks=>by rw [BD,ha];simp
    rw[hc']at hy;have hlt:=(qf.1 hy).1;simp only[qat,List.length_zipIdx]at hlt;obtain⟨z,hz⟩:=Ab hlt;simp only[qk,qan,hz,qv,qaI,qd]at hy;have hnz:nmL z:=hn.child (i:=i) (by rw[hc];exact hz);rcases h1 with h1|h1
    .rw [EZ] at h1
     split at h1
     .rw [qo] at h1
      exact h1▸hf
     .rw [if_neg oz] at h1
      simp at h1
    .subst hy
     split at h1
     .exact hnz s h1
     .exact PT hnz hf s h1
 .rw [if_neg h]
  by_cases h8:e.kind=8
  .rw [if_pos h8]
   have hk1:=hs.one.1.1 h8;have harm:∀p∈e.arms,nmL (armP x free p).2/\∀s∈(armP x free p).1.vars,s.length<=1000:=by
    intro p hm;obtain⟨j,hj⟩:=qn.1 hm;have hnp:nmL p.2:=hn.child (Ei hj);have hv:∀s∈p.1.vars,s.length<=1000:=fun s hs'=>by
     refine hn s (A1.2 (.inr ⟨e.kids.length+j,p.2,Ei hj,.inl ?_⟩));rw[Bx,if_neg oz,if_pos ⟨h8,oz⟩,hk1,show 1+j-1=j by omega,hj];exact hs'
    have hvl:=Exp.vars_le hm;have hwl:=Exp.child_lt (Bp hm);unfold armP;split
    .exact⟨hnp,hv⟩
    .rename_i hx
     exact Jj (hp.one p hm) hx (hs.child (Bp hm)) (hp.child (Bp hm)) oz hnp hv p.1.vars.length (qg _)
   intro s hs';rcases A1.1 hs' with h1|⟨i,y,hy,h1⟩
   .rw[h1,IG];exact hn _ (A1.2 (.inl rfl))
   .rw [BD] at hy
    rcases qbo i e.kids.length with hk|hk
    .rw [qF hk] at hy
     rcases h1 with h1|h1
     .rw [EZ,if_neg oz,if_neg oz] at h1
      simp at h1
     .exact hn.child (i:=i) (Qn hy) s h1
    .rw [qN hk,qk] at hy
     obtain⟨q,hq,rfl⟩:=qu.1 hy;have hq':=hq;rw[qk]at hq;obtain⟨p,hp',rfl⟩:=qu.1 hq;obtain⟨g1,g2⟩:=harm p (qc hp');rcases h1 with h1|h1
     .rw [EZ,if_neg oz,if_pos ⟨h8,oz⟩,show i-1=i-e.kids.length by omega,hq'] at h1
      exact g2 s h1
     .exact g1 s h1
  .rw [if_neg h8]
   exact hn
theorem ST {x:Str}{b:Exp}(hb:nmL b)(hbl:b.weight<=100000000000):∀(n:Nat) (e:Exp),e.weight<=n->e.weight<=100000000000->shp e->properP e->nmL e->nmL (subN n e x b)
 |0,e,_,_,_,_,hn=>hn
 |n+1,e,h,hl,hs,hp,hn=>by
  rw[FW];by_cases hk:e.kind=1
  .rw [if_pos hk]
   split
   .exact hb
   .exact hn
  .rw [if_neg hk]
   have hP:=Fy (x:=x) (b:=b) hs hp;have hfl:=D4 b;have hN:=Zbv (x:=x) (free:=Ad b) hs hp hn oz;generalize Bf x (Ad b) e=e' at hP hN |-;intro s hs';rcases A1.1 hs' with h1|⟨i,y,hy,h1⟩
   .exact hN s (A1.2 (.inl h1))
   .rw [(B7 (subC_len n e' x b)).2.2.1] at hy
    rw[Ir (subC_len n e' x b)]at h1;obtain⟨x1,hx1⟩:=Ab (l:=e'.children) (i:=i) (by have:=(qf.1 hy).1;rw[subC_len,<-e'.children_len]at this;exact this);obtain⟨x0,hx0⟩:=Ab (l:=e.children) (i:=i) (by rw[<-Ed hP];exact(qf.1 hx1).1);have hK:=hP.kids i x0 x1 hx0 hx1;have hlt:=Exp.child_lt (qc hx0);have hw:=hK.weight;rw[EG hx1]at hy;cases hy;rcases h1 with h1|h1
    .exact hN s (A1.2 (.inr ⟨i,x1,hx1,.inl h1⟩))
    .split at h1
     .exact hN s (A1.2 (.inr ⟨i,x1,hx1,.inr h1⟩))
     .exact ST hb hbl n x1 oz oz hK.shape hK.proper (hN.child hx1) s h1
theorem Um {x:Str}{e b:Exp}(hs:shp e)(_:shp b)(hp:properP e)(hn:nmL e)(hb:nmL b)(hl:e.weight<=100000000000)(hbl:b.weight<=100000000000)(_:x.length<=1000):nmL (subP e x b):=ST hb hbl _ e (qg _) hl hs hp hn
theorem instR.tyBd (a:Exp):∀(c:Exp) (V:Rep),instR a c V->tyBd a->(∀s d,V s d->tyBd d)->tyBd c:=by
 induction a using Exp.ind with
 |h a ih=>
  intro c V h ht hv;by_cases hk:a.kind=1
  .exact hv _ _ (h.var hk)
  .obtain ⟨h1,h2,h3,h4⟩:=h.node hk
   rw[Ez];refine⟨h1.2.2.1▸ht.one,fun y hy=>?_⟩;obtain⟨i,hi⟩:=qn.1 hy;obtain⟨x,hx⟩:=Ab (l:=a.children) (i:=i) (by rw[h1.children];grind);refine ih x (qc hx) y _ (h4 i x y hx hi) (ht.child (qc hx)) fun s d hd=>?_;rcases hd with ⟨_,t,_,_,hvv⟩|⟨_,q,_⟩
   .obtain ⟨_,_,_,ty,ks,am⟩:=hvv
    rw[Ez,ty];refine⟨by decide,fun z hz=>?_⟩;grind[Exp.children]
   grind
def ZiR:List Str:=[[120],[121],[122],[102],[118,49]]
theorem RJ:∀(l:List (Str×Exp))(e:Exp),okE e->nmL e->(∀k,(AJ (l.take k) e).weight<=100000000000)->(∀p∈l,okE p.2/\nmL p.2/\p.2.weight<=100000000000/\p.1.length<=1000)->nmL (AJ l e)
 |[],_,_,h,_,_=>h
 |p::l,e,he,h,hw,hl=>by
  obtain⟨h1,h2,h3,h4⟩:=hl p sy;rw[Ey];refine RJ l _ (Dw he h1) (Um he.1 h1.1 he.2.1 h h2 ?_ h3 h4) (fun k=>?_) fun q hq=>hl q (by simp[hq])
  .have:=hw 0
   simpa[AJ]using this
  .have:=hw (k+1)
   rw[qa1,Ey]at this;exact this
end Go.Vs.Tryz
namespace Go.Vs
open Go
def tyO:Option Ty->List W
 |none=>[zi,zs,zi,zi,.nil]
 |some t=>wc t.row
def tyOs (l:List (Option Ty)):WW1:=l.map tyO
def boOs (l:List Bool):WW1:=l.map fun b=>[.c (.bool b)]
@[simp] theorem tyOs_len (l:List (Option Ty)):(tyOs l).length=l.length:=by simp[tyOs]
@[simp] theorem boOs_len (l:List Bool):(boOs l).length=l.length:=by simp[boOs]
@[simp] theorem tyOs_get (l:List (Option Ty)) (i:Nat):(tyOs l)[i]?=(l[i]?).map tyO:=by simp[tyOs]
@[simp] theorem boOs_get (l:List Bool) (i:Nat):(boOs l)[i]?=(l[i]?).map fun b=>[W.c (.bool b)]:=by simp[boOs]
theorem Zcu (o:Option Ty):(tyO o).length=5:=by cases o<;>simp[tyO,wc]
theorem RN (n:Nat):List.replicate n [zi,zs,zi,zi,W.nil]=tyOs (List.replicate n none):=by simp[tyOs,tyO]
theorem ON (n:Nat):List.replicate n [W.c (.bool false)]=boOs (List.replicate n false):=by simp[boOs]
theorem YX (l:List (Option Ty))(i:Nat)(t:Ty):(tyOs l).set i (wc t.row)=tyOs (l.set i (some t)):=by simp[tyOs,tyO,qa8]
theorem XM (l:List Bool)(i:Nat)(b:Bool):(boOs l).set i [W.c (.bool b)]=boOs (l.set i b):=by simp[boOs,qa8]
theorem K8 {α:Type}:∀(l:List α) (i:Nat) (a:α),setRow l i a=l.set i a
 |[],_,_=>by simp[setRow]
 |_::_,0,_=>by simp[setRow]
 |_::r,n+1,a=>by simp[setRow,K8 r n a]
theorem Yx (l:List (Option Ty))(i:Nat)(t:Ty):setRow (tyOs l) i (wc t.row)=tyOs (l.set i (some t)):=by rw[K8,YX]
theorem ZhO (l:List Bool)(i:Nat)(b:Bool):setRow (boOs l) i [W.c (.bool b)]=boOs (l.set i b):=by rw[K8,XM]
theorem Zf3 (L:LO1)(d:Nat)(l:List (Option Ty)):Ae (Ae (W.toC L d)) (tyOs l)=some (l.map fun o=>(o.getD (.mk 0 [] 0 0 [])).row):=by
 unfold tyOs
 induction l with
 |nil=>rfl
 |cons a r ih=>
  have h1:Ae (W.toC L d) (tyO a)=some (a.getD (.mk 0 [] 0 0 [])).row:=by
   cases a with
   |none=>simp[tyO,Ty.row,Ae,Ty.rows]
   |some t=>simp[tyO]
  simp only[qt,Ae,h1,ih]
theorem XN (L:LO1)(d:Nat)(o:Option Ty){y:W}(hy:y∈tyO o):W.ids L d y=[]:=by
 cases o with
 |none=>
  simp only[tyO,qG,qag,or_false]at hy;rcases hy with rfl|rfl|rfl|rfl|rfl<;>cases d<;>rfl
 |some t=>
  have h:=wc_ids L d t.row;rw[qaf]at h;exact h y hy
@[simp] theorem tyOs_allIds (L:LO1) (d:Nat) (l:List (Option Ty)) (p:Nat->Bool):((tyOs l).all fun a=>a.all fun b=>(W.ids L d b).all p)=true:=by
 simp only[qE,tyOs,qJ];rintro _ ⟨o,_,rfl⟩ y hy;rw[XN L d o hy];simp
@[simp] theorem tyOs_refs (d:Nat) (l:List (Option Ty)):(tyOs l).flatMap (fun x=>x.flatMap (W.refs d))=[]:=by
 simp only[qaf,tyOs,qJ];rintro _ ⟨o,_,rfl⟩ y hy;cases o with
 |none=>
  simp only[tyO,qG,qag,or_false]at hy;rcases hy with rfl|rfl|rfl|rfl|rfl<;>cases d<;>rfl
 |some t=>
  have h:=wc_refs d t.row;rw[qaf]at h;exact h y hy
@[simp] theorem boOs_refs (d:Nat) (l:List Bool):(boOs l).flatMap (fun x=>x.flatMap (W.refs d))=[]:=by
 simp only[qaf,boOs,qJ];rintro _ ⟨o,_,rfl⟩ y hy;simp only[qG,qag,or_false]at hy;subst hy;cases d<;>rfl
@[simp] theorem tyOs_ren (ρ:LN1) (d:Nat) (l:List (Option Ty)):(tyOs l).map (fun x=>x.map (W.ren ρ d))=tyOs l:=by
 unfold tyOs;rw[qas];refine qM fun o _=>?_;cases o with
 |none=>cases d<;>rfl
 |some t=>simp[tyO]
@[simp] theorem boOs_ren (ρ:LN1) (d:Nat) (l:List Bool):(boOs l).map (fun x=>x.map (W.ren ρ d))=boOs l:=by
 unfold boOs;rw[qas];refine qM fun o _=>?_;cases d<;>rfl
end Go.Vs
namespace Go.Vs.Tryz
open Go Go.Vs
variable {A:Ag}
def InsI (n:Nat)(l:List (Option Ty))(ks:List Bool):Prop:=l.length=n/\ks.length=n/\(∀t,some t∈l->t.size<=687194767360)/\∀i:Nat,ks[i]?=some true->∃t,l[i]?=some (some t)
def InsR (n:Nat)(r:V×List Obj):Prop:=∃(b:Bool) (l:List (Option Ty)) (ks:List Bool),InsI n l ks/\r=(Ac b,[.arr 5 (tyOs l) 0,.arr 1 (boOs ks) 0])
theorem Zhq (o:Option Ty)(t:Ty):splice (tyO o) 0 (wc t.row)=some (wc t.row):=by
 have h1:=Zcu o;unfold splice;simp[h1]
theorem W8 {q:Nat}(n:Nat)(hn:n<=687194767360)(p:Ty):∀(t:Ty) (l:List (Option Ty)) (ks:List Bool),tyB 0 q p->t.size<=687194767360->InsI n l ks->
 ∃r,InsR n r/\(K A).call 185 [tyV p,tyV t,.sc (.arr 0 n),.sc (.arr 1 n)] [.arr 5 (tyOs l) 0,.arr 1 (boOs ks) 0]=some r:=by
 induction p using Ty.ind with
 |h p ih=>
 intro t l ks hp ht hI;obtain⟨hl,hk,hs,hkn⟩:=hI;have htl:=t.args_lt;refine fnE v185 ?_;unfold v185;by_cases h2:p.kind=2/\p.id<n
 .obtain ⟨h2,h3⟩:=h2
  have h0:=hp.one.2.1 h2;obtain⟨i,hi⟩:∃i:Nat,p.id=i:=⟨p.id.toNat,oz⟩;have hin:i<n:=oz
  have hin2:(i:Int)<n:=oz
  obtain⟨b,hb⟩:=Ab (l:=ks) (i:=i) oz;obtain⟨o',ho⟩:=Ab (l:=l) (i:=i) oz;cases b with
  |true=>
   obtain⟨u,hu⟩:=hkn i hb;rw[hu]at ho;cases ho;obtain⟨_,⟨e,rfl⟩,hc⟩:=Up (A:=A) 687194767360 u t (hs u (qc hu)) oz;simp(disch:=try exact zd) [h2,hi,hin,hin2,hb,hu,hc,hl,hk,tyO,elOk,-getElem?_pos];exact⟨e,l,ks,⟨hl,hk,hs,hkn⟩,rfl⟩
  |false=>
   simp(disch:=try exact zd) [h2,hi,hin,hin2,hb,ho,hl,hk,elOk,Zhq,-getElem?_pos];simp only[Yx,ZhO,<-qas,tyOs_ren,boOs_ren];refine⟨true,l.set i (some t),ks.set i true,⟨by simp[hl],by simp[hk],?_,?_⟩,rfl⟩
   .intro u hu
    rcases List.mem_or_eq_of_mem_set hu with hu|hu
    .exact hs u hu
    .cases hu
     omega
   .intro j hj
    by_cases hji:j=i
    .subst hji
     exact⟨t,by simp[hl,hin]⟩
    .rw [qaN (fun h=>hji h.symm)] at hj
     obtain⟨u,hu⟩:=hkn j hj;exact⟨u,by rw[qaN (fun h=>hji h.symm)];exact hu⟩
 .have same:InsR n (Ac false,[.arr 5 (tyOs l) 0,.arr 1 (boOs ks) 0]):=⟨false,l,ks,⟨hl,hk,hs,hkn⟩,rfl⟩
  have fin:p.args.length=t.args.length->wp (K A) (.loop Jq) (BH 0 (BO (K A) (.seq (.region [] [o 8 (.mv kt)] [] [8]) .ret) (B3 false 2 [.tmp 8] (InsR n))))
   ⟨[(2,.sc (.arr 0 n)),(3,.sc (.arr 1 n)),(4,.sc (.ptr 64 0)),(5,.sc (.ptr 128 0)),(9,intV 0)],
     [(0,some (.arr 5 (tyOs l) 0)),(1,some (.arr 1 (boOs ks) 0)),(64,some (.box (wc p.row))),(128,some (.box (wc t.row)))]⟩:=by
   intro hpt;refine Al (fun i s=>∃l ks,InsI n l ks/\s=⟨[(2,.sc (.arr 0 n)),(3,.sc (.arr 1 n)),(4,.sc (.ptr 64 0)),(5,.sc (.ptr 128 0)),(9,intV i)],
    [(0,some (.arr 5 (tyOs l) 0)),(1,some (.arr 1 (boOs ks) 0)),(64,some (.box (wc p.row))),(128,some (.box (wc t.row)))]⟩) p.args.length ⟨l,ks,⟨hl,hk,hs,hkn⟩,by simp⟩ ?_ ?_
   .rintro i s hi ⟨l,ks,hI,rfl⟩
    obtain⟨x,hx⟩:=Ab hi;obtain⟨y,hy⟩:=Ab (l:=t.args) (i:=i) oz;have hys:=Ty.arg_lt (qc hy);obtain⟨_,⟨b,l2,ks2,hI2,rfl⟩,hc⟩:=ih x (qc hx) y l ks (hp.arg (qc hx)) oz hI;have hn0:=hI.1;have hn1:=hI.2.1;have hi':i<t.args.length:=oz;have hn2:=hI2.1;have hn3:=hI2.2.1;unfold Jq;cases b with
    |true=>
     simp(disch:=try exact zd) [hi,hi',hx,hy,hc,hpt,hn0,hn1,hn2,hn3,-getElem?_pos];exact⟨l2,ks2,hI2,rfl,rfl⟩
    |false=>
     simp(disch:=try exact zd) [hi,hi',hx,hy,hc,hpt,hn0,hn1,hn2,hn3,-getElem?_pos];exact⟨false,l2,ks2,hI2,rfl⟩
   .rintro s ⟨l,ks,hI,rfl⟩
    unfold Jq;simp(disch:=try exact zd) [-getElem?_pos];exact⟨true,l,ks,hI,rfl⟩
  have h2':p.kind=2->¬p.id<n:=fun a b=>h2 ⟨a,b⟩;refine D3 ⟨[(2,.sc (.arr 0 n)),(3,.sc (.arr 1 n)),(4,.sc (.ptr 64 0)),(5,.sc (.ptr 128 0))],[(0,some (.arr 5 (tyOs l) 0)),(1,some (.arr 1 (boOs ks) 0)),(64,some (.box (wc p.row))),(128,some (.box (wc t.row)))]⟩ sy ?_
  refine D3 ⟨[(2,.sc (.arr 0 n)),(3,.sc (.arr 1 n)),(4,.sc (.ptr 64 0)),(5,.sc (.ptr 128 0)),(19,Ac false)],[(0,some (.arr 5 (tyOs l) 0)),(1,some (.arr 1 (boOs ks) 0)),(64,some (.box (wc p.row))),(128,some (.box (wc t.row)))]⟩ ?_ ?_
  .by_cases hk2:p.kind=2
   .have hid:=h2' hk2
    simp(disch:=try exact zd) [hk2,hid,hl]
   .simp(disch:=try exact zd) [hk2]
  .by_cases a1:p.kind=t.kind
   .by_cases a2:p.name=t.name
    .by_cases a3:p.id=t.id
     .by_cases a4:p.home=t.home
      .by_cases a5:p.args.length=t.args.length
       .simp (disch:=try exact zd) [a1,a2,a3,a4,a5]
        exact fin a5
       .have a5':¬(p.args.length:Int)=t.args.length:=oz
        simp(disch:=try exact zd) [a1,a2,a3,a4,a5,a5'];exact same
      .simp (disch:=try exact zd) [a1,a2,a3,a4]
       exact same
     .simp (disch:=try exact zd) [a1,a2,a3]
      exact same
    .simp (disch:=try exact zd) [a1,a2]
     exact same
   .simp (disch:=try exact zd) [a1]
    exact same
def Zf4 (r:V×List Obj):Prop:=∃(w:CC1) (b:Bool),r=(.tu [.sc (.c (.sl w)),Ac b],[])
theorem ZfB {q:Nat}(n:Nat)(hn:n<=1073741)(c t:Ty)(hc:tyB 0 q c)(ht:t.size<=687194767360):∃r,Zf4 r/\(K A).call 136 [schV n c,tyV t] []=some r:=by
 refine fnE v136 ?_;obtain⟨_,⟨b,l,ks,⟨h1,h2,h3,h4⟩,rfl⟩,hcl⟩:=W8 (A:=A) n oz c t (List.replicate n none) (List.replicate n false) hc ht ⟨by simp,by simp,by simp,fun i hi=>by
  rw[List.getElem?_replicate]at hi;split at hi<;>cases hi⟩
 have hr1:(List.replicate n (none:Option Ty)).length=n:=by simp
 have hr2:(List.replicate n false).length=n:=by simp
 generalize hL0:List.replicate n (none:Option Ty)=L0 at *
 generalize hK0:List.replicate n false=K0 at *
 have htc:=fun L d=>Zf3 L d l;unfold v136;cases b with
 |true=>
  simp(disch:=try exact zd) [AY,RN,ON,hL0,hK0,hr1,hr2,hcl,h1,h2,htc];exact⟨_,true,rfl⟩
 |false=>
  simp(disch:=try exact zd) [AY,RN,ON,hL0,hK0,hr1,hr2,hcl,h1,h2,htc];exact⟨_,false,rfl⟩
variable {A:Ag}
def B1:List Str:=Cd++[[119],[112],[113],[114],[115]]
theorem Ge {s:Str}(h:s∈Cd):s∈B1:=qp.2 (.inl h)
def mkS (ds:List DataD)(e:Exp):Prop:=
 (e.kind=1/\e.name∈B1/\e.kids=[]/\e.arms=[])\/(e.kind=2/\cOk ds e.name/\e.kids=[]/\e.arms=[])\/((e.kind=3\/e.kind=10)/\e.name=[]/\e.kids=[]/\e.arms=[])\/
 (e.kind=4/\e.name∈B1/\(∃x,e.kids=[x])/\e.arms=[])\/(e.kind=5/\e.name=[]/\(∃x y,e.kids=[x,y])/\e.arms=[])\/((e.kind=6\/e.kind=7)/\e.name∈B1/\(∃x y,e.kids=[x,y])/\e.arms=[])\/
 ((e.kind=9\/e.kind=11)/\e.name=[]/\(∃x,e.kids=[x])/\e.arms=[])\/(e.kind=8/\e.name=[]/\(∃x,e.kids=[x])/\e.arms≠[])
def armM (ds:List DataD)(a:ArmH×Exp):Prop:=a.1.pos=0/\cOk ds a.1.con/\a.1.vars.length<=2/\a.1.vars.Nodup/\∀v∈a.1.vars,v∈B1
def wrT (t:Ty):Prop:=tyS 0 t/\Ty.all (fun u=>u.kind≠3) t
def annT (e:Exp):Prop:=(e.kind≠9->e.ty=tz)/\(e.kind=9->wrT e.ty)
def numB (e:Exp):Prop:=(e.kind≠3->e.num=0)/\0<=e.num/\e.num<=999
def mkE1 (ds:List DataD)(e:Exp):Prop:=e.pos=0/\(∀a∈e.arms,armM ds a)/\e.ty.size<=687194767360/\annT e/\numB e/\mkS ds e
def mkE (ds:List DataD)(e:Exp):Prop:=e.fold fun e l=>mkE1 ds e/\∀p∈l,p
theorem Kf (ds:List DataD)(e:Exp):mkE ds e=(mkE1 ds e/\∀x∈e.children,mkE ds x):=by
 have:=Exp.fold_eq (fun e (l:List Prop)=>mkE1 ds e/\∀p∈l,p) e;unfold mkE;rw[this];simp only[qU]
theorem F5 (ds:List DataD) (k p n m ks l t):mkE ds (Exp.mk k p n m ks l t)=(mkE1 ds (Exp.mk k p n m ks l t)/\(∀x∈ks,mkE ds x)/\∀a∈l,mkE ds a.2):=by
 grind[Kf,Exp.kids,Exp.arms,Exp.children]
theorem mkE.one {ds:List DataD}{e:Exp}(h:mkE ds e):mkE1 ds e:=by grind[Kf]
theorem mkE.child {ds:List DataD}{e x:Exp}(h:mkE ds e)(hx:x∈e.children):mkE ds x:=by grind[Kf]
theorem mkE1.wf1 {ds:List DataD}{e:Exp}(h:mkE1 ds e):e.wf1:=by
 obtain⟨_,_,_,_,_,h⟩:=h;unfold Exp.wf1;rcases h with ⟨k,_,hk,ha⟩|⟨k,_,hk,ha⟩|⟨k,_,hk,ha⟩|⟨k,_,⟨x,hk⟩,ha⟩|⟨k,_,⟨x,y,hk⟩,ha⟩|⟨k,_,⟨x,y,hk⟩,ha⟩|⟨k,_,⟨x,hk⟩,ha⟩|⟨k,_,⟨x,hk⟩,ha⟩<;>grind
theorem mkE.wf {ds:List DataD}{e:Exp}:mkE ds e->e.wf:=by
 induction e using Exp.ind with
 |h e ih=>
  intro h;rw[Exp.wf_eq];exact⟨h.one.wf1,fun x hx=>ih x hx (h.child hx)⟩
theorem mkE.tyBd {ds:List DataD}{e:Exp}:mkE ds e->tyBd e:=by
 induction e using Exp.ind with
 |h e ih=>
  intro h;rw[Ez];exact⟨h.one.2.2.1,fun x hx=>ih x hx (h.child hx)⟩
def ctxOk (n m:Nat)(l:List EntD):Prop:=l.length<=n/\∀x∈l,x.name∈B1/\(∃c:Nat,x.count=c/\c<=900)/\tyB 0 x.count.toNat x.ty/\x.ty.size<=m
theorem Hu (l:List EntD):∀(i:Nat),∀x∈Cj l i,x∈l
 |0,x,hx=>by simp[Cj]at hx
 |i+1,x,hx=>by
  unfold Cj at hx;split at hx
  .exact Hu l i x hx
  .rename_i e he
   split at hx
   .exact Hu l i x hx
   .rcases qp.1 hx with hx|hx
    .exact Hu l i x hx
    grind
def MkR (L:List Int)(ds:List DataD)(B:Nat)(r:V×List Obj):Prop:=∃e J,mkE ds e/\e.weight<=B/\J<=L.length/\r=(expV e,[Ao L J])
theorem Fs {ds:List DataD}{k num:Int}{s:Str}(h:mkE1 ds (.mk k 0 s num [] [] tz)):mkE ds (.mk k 0 s num [] [] tz):=by
 grind[F5]
theorem Hs (k num:Int)(s:Str):(Exp.mk k 0 s num [] [] tz).row=[.int .i64 k,.int .i64 0,.str s,.int .i64 num,.sl [],.sl [],.int .i64 0,.str [],.int .i64 0,.int .i64 0,.sl []]:=by
 rfl
theorem F6 (k num:Int)(s:Str):(Exp.mk k 0 s num [] [] tz).weight<=1:=by
 rw[Gi];simp
theorem Kn (L:List Int)(ds:List DataD)(hL:L.length<=687194767360){n m:Nat}(hn:n<=1000000)(ctx:List EntD)(hctx:ctxOk n m ctx)(goal:Ty)(hg:goal.size<=687194767360)(I:Nat)(hI:I<=L.length):
 ∃r,MkR L ds 1 r/\(K A).call 83 [.sc (.ptr 0 0),Aw ds,Be ctx,tyV goal] [Ao L I]=some r:=by
 obtain⟨hc1,hc2⟩:=hctx;have hs:=PY (A:=A) ctx oz;have hsl:=HV ctx ctx.length;have hsub:=Hu ctx ctx.length;generalize Cj ctx ctx.length=l at *
 have hi:=Ff (A:=A);obtain⟨_,⟨eb,rfl⟩,heq⟩:=Up (A:=A) 687194767360 goal (.mk 4 [73,110,116] 0 0 []) hg oz;have hole:∀J,J<=L.length->MkR L ds 1 (expV (.mk 10 0 [] 0 [] [] tz),[Ao L J]):=fun J hJ=>
  ⟨_,J,Fs (by simp[mkE1,mkS,annT,numB,Exp.kind,Exp.pos,Exp.name,Exp.num,Exp.kids,Exp.arms,Exp.ty,tz,Ty.size_leaf]),F6 _ _ _,hJ,rfl⟩
 refine AB _ (vf:=v83) (by rfl) rfl sy ?_;unfold v83;simp(disch:=try exact zd) [hs];refine Al (fun i st=>∃fs:List Str,fs.length<=i/\(∀s∈fs,s∈B1)/\st=⟨[(0,.sc (.ptr 0 0)),(7,.sc (.ptr 64 0)),(8,.sc (.ptr 128 0)),(9,.sc (.arr 193 fs.length)),(10,Be l),(11,intV i)],
  [(0,some (Ao L I)),(64,some (.box (wc goal.row))),(128,some (.box [zi,zi,zs,zi,.nil,.nil,zi,zs,zi,zi,.nil])),(193,some (.arr 1 (wr (Ak fs)) 0))]⟩) l.length ⟨[],by simp,by simp,by simp⟩ ?_ ?_
 .rintro i st hi2 ⟨fs,hf1,hf2,rfl⟩
  obtain⟨x,hx⟩:=Ab hi2;obtain⟨x1,⟨c,hc,hcl⟩,x3,x4⟩:=hc2 x (hsub x (qc hx));obtain⟨_,⟨w,b,rfl⟩,hin⟩:=ZfB (A:=A) c oz x.ty goal x3 hg;rw[<-hc]at hin;unfold Qf;cases b with
  |true=>
   simp(disch:=try exact zd) [hi2,hx,hin,-getElem?_pos];refine⟨fs++[x.name],by grind,?_,by simp⟩;grind
  |false=>
   simp(disch:=try exact zd) [hi2,hx,hin,-getElem?_pos];grind
 .rintro st ⟨fs,hf1,hf2,rfl⟩
  unfold Qf;by_cases hf:fs=[]
  .subst hf
   cases eb with
   |false=>
    simp(disch:=try exact zd) [hi,heq,-getElem?_pos];exact hole I hI
   |true=>
    obtain⟨k2,J1,hk2,hJ1,hc2⟩:=BC (A:=A) L I 4 hI hL oz oz;by_cases hk20:0<k2
    .obtain ⟨q,J2,hq,hJ2,hcq⟩:=BC (A:=A) L J1 3 hJ1 hL oz oz
     simp(disch:=try exact zd) [hi,heq,hc2,hk20,hcq];exact⟨.mk 3 0 [] q [] [] tz,J2,Fs (by grind[mkE1,mkS,annT,numB,Exp.kind,Exp.pos,Exp.name,Exp.num,Exp.kids,Exp.arms,Exp.ty,tz,Ty.size_leaf]),F6 _ _ _,hJ2,by rfl⟩
    .simp (disch:=try exact zd) [hi,heq,hc2,hk20,-getElem?_pos]
     exact hole J1 hJ1
  .have hpos:0<fs.length:=qay.2 hf
   obtain⟨k,J,hk,hJ,hc⟩:=BC (A:=A) L I 6 hI hL oz oz;by_cases hk0:0<k
   .obtain ⟨q,J2,hq,hJ2,hcq⟩:=BC (A:=A) L J fs.length hJ hL oz oz
    obtain⟨s,hsq⟩:=Ab (l:=fs) (i:=q) oz;have hsn:=hf2 s (qc hsq);simp(disch:=try exact zd) [hpos,hc,hk0,hcq,hsq,-getElem?_pos];exact⟨.mk 1 0 s 0 [] [] tz,J2,Fs (by grind[mkE1,mkS,annT,numB,Exp.kind,Exp.pos,Exp.name,Exp.num,Exp.kids,Exp.arms,Exp.ty,tz,Ty.size_leaf]),F6 _ _ _,hJ2,by rfl⟩
   .have hk1:k=0:=oz
    cases eb with
    |false=>
     simp(disch:=try exact zd) [hpos,hc,hk0,hi,heq,-getElem?_pos];exact hole J hJ
    |true=>
     obtain⟨k2,J1,hk2,hJ1,hc2⟩:=BC (A:=A) L J 4 hJ hL oz oz;by_cases hk20:0<k2
     .obtain ⟨q,J2,hq,hJ2,hcq⟩:=BC (A:=A) L J1 3 hJ1 hL oz oz
      simp(disch:=try exact zd) [hpos,hc,hk0,hi,heq,hc2,hk20,hcq];exact⟨.mk 3 0 [] q [] [] tz,J2,Fs (by grind[mkE1,mkS,annT,numB,Exp.kind,Exp.pos,Exp.name,Exp.num,Exp.kids,Exp.arms,Exp.ty,tz,Ty.size_leaf]),F6 _ _ _,hJ2,by rfl⟩
     .simp (disch:=try exact zd) [hpos,hc,hk0,hi,heq,hc2,hk20]
      exact hole J1 hJ1
theorem X4 {k:Nat}(h:k<10000000000):nameOk 97 122 (AK k):=by
 refine⟨?_,⟨118,rfl,by decide,by decide⟩,?_,?_⟩
 .have:=GY k 10 oz oz
  grind[AK]
 .intro c hc
  have hd:∀c:UInt8,48<=c.toNat/\c.toNat<=57->It c=true:=by
   grind[It]
  rcases qG.1 hc with rfl|hc
  rfl;grind[Q1]
 .intro hk
  have key:∀w∈keyWords,∀c∈w,¬(48<=c.toNat/\c.toNat<=57):=by decide
  grind[numS,Q1,List.mem_cons_self,AK]
theorem Om {n:Nat}{taken:List Str}(h:n+taken.length<9000000000):nameOk 97 122 (Au n taken):=
 X4 (by grind[JB])
def lowK (k:Int):Prop:=k=1\/k=4\/k=6\/k=7
def lowE1 (e:Exp):Prop:=(lowK e.kind->nameOk 97 122 e.name)/\(e.kind=2->nameOk 65 90 e.name)/\(¬lowK e.kind->e.kind≠2->e.name=[])/\∀a∈e.arms,∀v∈a.1.vars,nameOk 97 122 v
def lowE (e:Exp):Prop:=e.fold fun e l=>lowE1 e/\∀p∈l,p
theorem Es (e:Exp):lowE e=(lowE1 e/\∀x∈e.children,lowE x):=by
 have:=Exp.fold_eq (fun e (l:List Prop)=>lowE1 e/\∀p∈l,p) e;unfold lowE;rw[this];simp only[qU]
theorem lowE.one {e:Exp}(h:lowE e):lowE1 e:=by grind[Es]
theorem lowE.child {e x:Exp}(h:lowE e)(hx:x∈e.children):lowE x:=by grind[Es]
theorem lowE1.with {e:Exp}{cs:List Exp}(hl:cs.length=e.kids.length+e.arms.length)(h:lowE1 e):lowE1 (AD e cs):=by
 obtain⟨_,_,_,h4⟩:=B7 hl;refine⟨h.1,h.2.1,h.2.2.1,fun a ha=>?_⟩;obtain⟨i,hi⟩:=qn.1 ha;have:=h4 i;rw[hi]at this;cases hq:e.arms[i]? with
 |none=>grind
 |some q=>
  rw[hq]at this;simp only[qv,qd]at this;rw[this];exact h.2.2.2 q (qc hq)
theorem Mz {e:Exp}{cs:List Exp}(hl:cs.length=e.kids.length+e.arms.length)(he:lowE e)(hc:∀c∈cs,lowE c):lowE (AD e cs):=by
 rw[Es,(B7 hl).2.2.1];exact⟨he.one.with hl,hc⟩
theorem isVar.low {s:Str}{c:Exp}(h:isVar s c)(hs:nameOk 97 122 s):lowE c:=by
 obtain⟨k,nm,_,_,ks,am⟩:=h;rw[Es];refine⟨⟨fun _=>nm▸hs,fun q=>by omega,fun q=>absurd (.inl k) q,by grind⟩,fun z hz=>?_⟩;grind[Exp.children]
theorem ZcU {s:Str}(hs:nameOk 97 122 s):lowE (varX s):=(show isVar s (varX s)from⟨rfl,rfl,rfl,rfl,rfl,rfl⟩).low hs
theorem QU {frm to:Str}(ht:nameOk 97 122 to)(e:Exp):lowE e->lowE (repl frm to e):=by
 induction e using Exp.ind with
 |h e ih=>
  intro h;by_cases hk:e.kind=1
  .rw [E3 hk]
   split
   .rw [Es]
    exact⟨⟨fun _=>ht,fun q=>absurd (show e.kind=2 from q) oz,fun q=>absurd (show lowK e.kind from .inl hk) q,h.one.2.2.2⟩,fun x hx=>h.child hx⟩
   omega
  .rw [EI hk]
   refine Mz (replC_len frm to e) h fun c hc=>?_;obtain⟨i,hi⟩:=qn.1 hc;obtain⟨x,hx⟩:=Ab (l:=e.children) (i:=i) (by have:=(qf.1 hi).1;simp_all);rw[Eh hx]at hi;cases hi;have hm:=qc hx;split
   .exact h.child hm
   .exact ih x hm (h.child hm)
theorem Wp {x:Str}{free vars:List Str}{b:Exp}(hn:inj vars)(hx:x∉vars)(hs:shp b)(hp:properP b)(hl:b.weight+vars.length+free.length<=4000000000)(hb:lowE b)(hv:∀s∈vars,nameOk 97 122 s):
 ∀k,k<=vars.length->lowE (BN x free vars b k).2/\∀s∈(BN x free vars b k).1,nameOk 97 122 s
 |0,_=>⟨hb,hv⟩
 |k+1,hk=>by
  obtain⟨h1,h2⟩:=Wp (free:=free) hn hx hs hp hl hb hv k oz;have ho:=GV (free:=free) hn hx hs hp k oz;rw[Hi];generalize BN x free vars b k=p at *
  obtain⟨vs,bk⟩:=p;simp only at *
  unfold Ef;simp only;cases hv2:vs[k]? with
  |none=>grind
  |some v=>
   simp only;split;grind
   .have hal:=FC bk ho.shape.wf
    have hf:nameOk 97 122 (Au 0 (allP bk++vs++free++[x])):=Om (by have:=ho.weight;have:=ho.len;grind);grind[QU]
theorem Zc2 {x:Str}{free:List Str}{e:Exp}(hs:shp e)(hp:properP e)(h:lowE e)(hl:e.weight+free.length<=2000000000):lowE (Bf x free e):=by
 have hal:=FC e hs.wf;unfold Bf;by_cases hk:e.kind=4\/e.kind=6\/e.kind=7
 .rw [if_pos hk]
  obtain⟨ha,hc⟩:=Ew oz hs.one;unfold CX;split;omega
  .have hf:nameOk 97 122 (Au 0 (allP e++free++[x])):=Om (by grind)
   generalize Au 0 (allP e++free++[x])=to at hf |-;rw[Es];refine⟨⟨fun _=>hf,fun q=>absurd (show e.kind=2 from q) oz,fun q=>absurd (show lowK e.kind from .inr hk) q,h.one.2.2.2⟩,fun y hy=>?_⟩;have hc':∀ks,(Exp.mk e.kind e.pos to e.num ks e.arms e.ty).children=ks:=fun ks=>by grind[BD]
   rw[hc']at hy;obtain⟨⟨z,i⟩,hz,rfl⟩:=qJ.1 hy;have hzk:=qc (qal.1 hz);simp only;split
   .exact h.child (AE hzk)
   .exact QU hf _ (h.child (AE hzk))
 .rw [if_neg hk]
  by_cases h8:e.kind=8
  .rw [if_pos h8]
   have harm:∀p∈e.arms,lowE (armP x free p).2/\∀s∈(armP x free p).1.vars,nameOk 97 122 s:=by
    intro p hm;have hnp:lowE p.2:=h.child (Bp hm);have hv:=h.one.2.2.2 p hm;have hvl:=Exp.vars_le hm;have hwl:=Exp.child_lt (Bp hm);unfold armP;split;grind
    .rename_i hx
     exact Wp (hp.one p hm) hx (hs.child (Bp hm)) (hp.child (Bp hm)) oz hnp hv p.1.vars.length (qg _)
   rw[Es];refine⟨⟨h.one.1,h.one.2.1,h.one.2.2.1,fun a ha=>?_⟩,fun y hy=>?_⟩
   .obtain ⟨p,hp',rfl⟩:=qJ.1 (show a∈e.arms.map (armP x free) from ha)
    grind
   .rw [BD] at hy
    rcases qp.1 hy with hy|hy
    .exact h.child (AE hy)
    grind
  grind
theorem TC {x:Str}{b:Exp}(hb:lowE b)(hbl:b.weight<=1000000000):∀(n:Nat) (e:Exp),e.weight<=n->e.weight<=1000000000->shp e->properP e->lowE e->lowE (subN n e x b)
 |0,e,_,_,_,_,hn=>hn
 |n+1,e,h,hl,hs,hp,hn=>by
  rw[FW];by_cases hk:e.kind=1;grind
  .rw [if_neg hk]
   have hP:=Fy (x:=x) (b:=b) hs hp;have hfl:=D4 b;have hN:=Zc2 (x:=x) (free:=Ad b) hs hp hn oz;generalize Bf x (Ad b) e=e' at hP hN |-;refine Mz (subC_len n e' x b) hN fun y hy=>?_;obtain⟨i,hi⟩:=qn.1 hy;obtain⟨x1,hx1⟩:=Ab (l:=e'.children) (i:=i) (by have:=(qf.1 hi).1;simp_all);obtain⟨x0,hx0⟩:=Ab (l:=e.children) (i:=i) (by grind[Ed]);have hK:=hP.kids i x0 x1 hx0 hx1
   have hlt:=Exp.child_lt (qc hx0);have hw:=hK.weight;rw[EG hx1]at hi;cases hi;split
   .exact hN.child (qc hx1)
   .exact TC hb hbl n x1 oz oz hK.shape hK.proper (hN.child (qc hx1))
theorem El {e:Exp}:lowE e->nmL e:=by
 induction e using Exp.ind with
 |h e ih=>
  intro h s hs;have l12:∀{lo hi:Nat} {s:Str},nameOk lo hi s->s.length<=1000:=fun q=>qr q.1 (by decide);have hnm:e.name.length<=1000:=by
   by_cases hk:lowK e.kind
   .exact l12 (h.one.1 hk)
   .by_cases h2:e.kind=2
    .exact l12 (h.one.2.1 h2)
    .rw [h.one.2.2.1 hk h2]
     decide
  rcases A1.1 hs with h1|⟨i,x,hx,h1|h1⟩
  grind
  .rw [Bx] at h1
   split at h1;grind
   .split at h1
    .cases ha:e.arms[i-1]? with
     |none=>grind
     |some a=>
      rw[ha]at h1;exact l12 (h.one.2.2.2 a (qc ha) s h1)
    grind
  .have hm:=qc hx
   exact ih x hm (h.child hm) s h1
def G7 (e:Exp):Prop:=1<=e.kind/\e.kind<=11/\((e.kind≠3->e.num=0)/\0<=e.num/\e.num<=999999999)/\e.ty.size<=687194767360/\annT e/\(e.kind=8->e.arms≠[])/\∀a∈e.arms,nameOk 65 90 a.1.con/\a.1.vars.length<=2
def fixE (e:Exp):Prop:=e.fold fun e l=>G7 e/\∀p∈l,p
theorem Fz (e:Exp):fixE e=(G7 e/\∀x∈e.children,fixE x):=by
 have:=Exp.fold_eq (fun e (l:List Prop)=>G7 e/\∀p∈l,p) e;unfold fixE;rw[this];simp only[qU]
theorem fixE.one {e:Exp}(h:fixE e):G7 e:=by grind[Fz]
theorem fixE.child {e x:Exp}(h:fixE e)(hx:x∈e.children):fixE x:=by grind[Fz]
theorem MU {a c:Exp}(h1:a.kind=c.kind)(h2:a.num=c.num)(h3:a.ty=c.ty)(h4:a.arms.length=c.arms.length)(h5:∀(i:Nat) p q,a.arms[i]?=some p->c.arms[i]?=some q->p.1.con=q.1.con/\p.1.vars.length=q.1.vars.length)(h:G7 a):G7 c:=by
 obtain⟨g1,g2,g3,g4,g5,g6,g7⟩:=h;refine⟨h1▸g1,h1▸g2,?_,h3▸g4,⟨fun q=>h3▸g5.1 (h1▸q),fun q=>h3▸g5.2 (h1▸q)⟩,fun q=>?_,fun q hq=>?_⟩;omega;grind
 .obtain ⟨i,hi⟩:=qn.1 hq
  obtain⟨p,hp⟩:=Ab (l:=a.arms) (i:=i) (by grind);grind
theorem isVar.fix {s:Str}{c:Exp}(h:isVar s c):fixE c:=by
 obtain⟨k,_,nu,ty,ks,am⟩:=h;rw[Fz];refine⟨⟨oz,oz,⟨fun _=>nu,oz,oz⟩,by rw[ty];decide,⟨fun _=>ty,fun q=>by omega⟩,fun q=>by omega,by grind⟩,fun z hz=>?_⟩;grind[Exp.children]
theorem instR.fix (a:Exp):∀(c:Exp) (V:Rep),instR a c V->fixE a->(∀s d,V s d->fixE d)->fixE c:=by
 induction a using Exp.ind with
 |h a ih=>
  intro c V h ht hv;by_cases hk:a.kind=1
  .exact hv _ _ (h.var hk)
  .obtain ⟨h1,h2,h3,h4⟩:=h.node hk
   rw[Fz];refine⟨MU h1.1 h1.2.1 h1.2.2.1 h1.2.2.2.2 h3 ht.one,fun y hy=>?_⟩;obtain⟨i,hi⟩:=qn.1 hy;obtain⟨x,hx⟩:=Ab (l:=a.children) (i:=i) (by rw[h1.children];grind);refine ih x (qc hx) y _ (h4 i x y hx hi) (ht.child (qc hx)) fun s d hd=>?_;rcases hd with ⟨_,t,_,_,hvv⟩|⟨_,q,_⟩
   .exact hvv.fix
   grind
theorem Zd4 {e:Exp}{cs:List Exp}(hl:cs.length=e.kids.length+e.arms.length)(he:fixE e)(hc:∀c∈cs,fixE c):fixE (AD e cs):=by
 obtain⟨_,h2,h3,h4⟩:=B7 hl;rw[Fz,h3];refine⟨MU (a:=e) rfl rfl rfl h2.symm (fun i p q hp hq=>?_) he.one,hc⟩;grind
theorem ZdO (s:Str):fixE (varX s):=(show isVar s (varX s)from⟨rfl,rfl,rfl,rfl,rfl,rfl⟩).fix
def lfE (e:Exp):Prop:=lowE e/\fixE e
theorem lfE.child {e x:Exp}(h:lfE e)(hx:x∈e.children):lfE x:=⟨h.1.child hx,h.2.child hx⟩
theorem T4 {x:Str}{e b:Exp}(he:okE e)(hb:okE b)(hel:e.weight<=1000000000)(hbl:b.weight<=1000000000)(h:lfE e)(hr:lfE b):lfE (subP e x b):=by
 refine⟨TC hr.1 hbl _ e (qg _) hel he.1 he.2.1 h.1,instR.fix e _ _ (G1 x b hb.1 e.weight e (qg _) he.1 he.2.1) h.2 fun s d hd=>?_⟩;unfold subV at hd;split at hd
 .exact hd▸hr.2
 .exact hd.fix
theorem Zfi (a:Exp):∀b,sameP a b->lfE a->lfE b:=by
 induction a using Exp.ind with
 |h a ih=>
  intro b h ha;obtain⟨⟨h1,h2,h3,h4,h5,h6,h7⟩,h8⟩:=BA.1 h;have hk:∀y∈b.children,lfE y:=fun y hy=>by
   obtain⟨i,hi⟩:=qn.1 hy;obtain⟨x,hx⟩:=Ab (l:=a.children) (i:=i) (by rw[h.kids_len];grind);have hm:=qc hx;exact ih x hm y (h8 i x y hx hi) (ha.child hm)
  refine⟨?_,?_⟩
  .rw [Es]
   obtain⟨g1,g2,g3,g4⟩:=ha.1.one;refine⟨⟨by grind,by grind,by grind,fun q hq=>?_⟩,fun y hy=>(hk y hy).1⟩;obtain⟨i,hi⟩:=qn.1 hq;obtain⟨p,hp⟩:=Ab (l:=a.arms) (i:=i) (by grind);grind
  .rw [Fz]
   exact⟨MU h1 h3 h4 h6 (fun i p q hp hq=>by grind) ha.2.one,fun y hy=>(hk y hy).2⟩
theorem Zee {e:Exp}(h:lfE e):lfE (Aj e):=Zfi e _ (KE e) h
def asz (ρ:Str->Nat)(bs:List Str):Str->Nat:=fun s=>if s∈bs then 0 else ρ s
def cF (e:Exp)(l:List ((Str->Nat)->Nat))(ρ:Str->Nat):Nat:=if e.kind=1 then ρ e.name else (l.zipIdx.map fun p=>p.1 (asz ρ (e.bound p.2))).sum
def cV (e:Exp):(Str->Nat)->Nat:=e.fold cF
theorem DJ {e:Exp}(h:e.kind=1)(ρ:Str->Nat):cV e ρ=ρ e.name:=by
 unfold cV;rw[Exp.fold_eq,cF,if_pos h]
theorem DI {e:Exp}(h:e.kind≠1)(ρ:Str->Nat):cV e ρ=(e.children.zipIdx.map fun p=>cV p.1 (asz ρ (e.bound p.2))).sum:=by
 unfold cV;rw[Exp.fold_eq,cF,if_neg h,Ok]
theorem KI (e:Exp):∀(ρ σ:Str->Nat),(∀s∈Ad e,ρ s<=σ s)->cV e ρ<=cV e σ:=by
 induction e using Exp.ind with
 |h e ih=>
  intro ρ σ h;by_cases hk:e.kind=1
  .grind[DJ,CI]
  .rw [DI hk,DI hk]
   refine Fu _ _ 0 rfl fun i x y hx hy=>?_;rw[hx]at hy;cases hy;refine ih x (qc hx) _ _ fun s hs=>?_;grind[asz,B8]
theorem VC {α:Type}{f:α×Nat->Nat}:∀(l:List α) (k:Nat),(∀(i:Nat) x,l[i]?=some x->f (x,k+i)=0)->((l.zipIdx k).map f).sum=0
 |[],_,_=>rfl
 |a::l,k,h=>by
  simp only[qaY,qt,qQ];have h1:=h 0 a rfl;have h2:=VC (f:=f) l (k+1) fun i x hx=>by
   have:=h (i+1) x (by simpa using hx);grind
  grind
theorem NU (e:Exp)(ρ:Str->Nat)(h:∀s∈Ad e,ρ s=0):cV e ρ=0:=by
 induction e using Exp.ind generalizing ρ with
 |h e ih=>
  by_cases hk:e.kind=1
  .grind[DJ,CI]
  .rw [DI hk]
   refine VC _ 0 fun i x hx=>ih x (qc hx) _ fun s hs=>?_;grind[asz,B8]
theorem N4 {α:Type}{f g h:α×Nat->Nat}:∀(l:List α) (k:Nat),(∀(i:Nat) x,l[i]?=some x->f (x,k+i)<=g (x,k+i)+h (x,k+i))->((l.zipIdx k).map f).sum<=((l.zipIdx k).map g).sum+((l.zipIdx k).map h).sum
 |[],_,_=>by simp
 |a::l,k,hf=>by
  simp only[qaY,qt,qQ];have h1:=hf 0 a rfl;have h2:=N4 (f:=f) (g:=g) (h:=h) l (k+1) fun i x hx=>by
   have:=hf (i+1) x (by simpa using hx);grind
  grind
theorem ZdN (e:Exp):∀(ρ σ τ:Str->Nat),(∀s∈Ad e,ρ s<=σ s+τ s)->cV e ρ<=cV e σ+cV e τ:=by
 induction e using Exp.ind with
 |h e ih=>
  intro ρ σ τ h;by_cases hk:e.kind=1
  .grind[DJ,CI]
  .rw [DI hk,DI hk,DI hk]
   refine N4 _ 0 fun i x hx=>ih x (qc hx) _ _ _ fun s hs=>?_;grind[asz,B8]
theorem Tw {M:Nat}(e:Exp):∀(ρ σ:Str->Nat),(∀s∈Ad e,ρ s<=1+M*σ s)->wV e ρ<=e.weight+M*cV e σ:=by
 induction e using Exp.ind with
 |h e ih=>
  intro ρ σ h;have hp:=e.weight_pos;by_cases hk:e.kind=1
  .have:=h e.name ((CI hk).2 rfl)
   rw[Fm hk,DJ hk];omega
  .rw [Gs hk,DI hk,e.weight_eq,Oi]
   have h1:=N4 (f:=fun p=>wV p.1 (asg ρ (e.bound p.2))) (g:=fun p:Exp×Nat=>p.1.weight) (h:=fun p=>M*cV p.1 (asz σ (e.bound p.2))) e.children 0 fun i x hx=>by
    refine ih x (qc hx) _ _ fun s hs=>?_;have:=fun hb=>h s ((B8 hk).2 ⟨i,x,hx,hs,hb⟩);unfold asg asz;split<;>grind
   have h2:(e.children.zipIdx.map fun p=>M*cV p.1 (asz σ (e.bound p.2))).sum=M*(e.children.zipIdx.map fun p=>cV p.1 (asz σ (e.bound p.2))).sum:=by
    generalize e.children.zipIdx=l
    induction l with
    |nil=>rfl
    |cons a l ih=>simp only[qt,qQ,ih,Nat.mul_add]
   omega
theorem Re (a:Exp):∀(c:Exp) (V:Rep) (ρ σ:Str->Nat),instR a c V->(∀s∈Ad a,∀d,V s d->cV d σ<=ρ s)->cV c σ<=cV a ρ:=by
 induction a using Exp.ind with
 |h a ih=>
  intro c V ρ σ h hv;by_cases hk:a.kind=1
  .rw [DJ hk]
   exact hv _ ((CI hk).2 rfl) _ (h.var hk)
  .obtain ⟨h1,h2,h3,h4⟩:=h.node hk
   have hl:c.children.length=a.children.length:=h1.children.symm;rw[DI (show c.kind≠1 from fun q=>hk (h1.1.trans q)),DI hk];refine Fu _ _ 0 hl fun i y x hy hx=>?_;refine ih x (qc hx) y _ _ _ (h4 i x y hx hy) fun s hs d hd=>?_;simp only[qaI];rcases hd with ⟨hb,t,ht,_,hvt⟩|⟨hb,hvd,hf⟩
   .rw [DJ hvt.1,hvt.2.1]
    grind[asz]
   .refine qr (KI d _ σ fun u hu=>?_) (qr (hv s ((B8 hk).2 ⟨i,x,hx,hs,hb⟩) d hvd) ?_)<;>grind[asz]
theorem Zgi {x:Str}{b e:Exp}(hb:okE b)(he:okE e)(σ:Str->Nat):cV (subP e x b) σ<=cV e (fun s=>if s=x then cV b σ else σ s):=by
 refine Re e _ _ _ σ (G1 x b hb.1 e.weight e (qg _) he.1 he.2.1) fun s _ d hd=>?_;unfold subV at hd;split at hd
 .grind
 .rename_i h
  rw[if_neg h,DJ hd.1,hd.2.1];exact qg _
def Ay (e:Exp):Nat:=e.fold fun _ l=>1+l.sum
theorem GW (e:Exp):Ay e=1+(e.children.map Ay).sum:=Exp.fold_eq _ e
def indV (l:List Str):Str->Nat:=fun s=>if s∈l then 1 else 0
theorem Zk (e:Exp)(l:List Str):cV e (indV l)<=Ay e:=by
 suffices h:∀ρ:Str->Nat,(∀s,ρ s<=1)->cV e ρ<=Ay e from h _ fun s=>by unfold indV;split<;>omega
 induction e using Exp.ind with
 |h e ih=>
  intro ρ h;rw[GW];by_cases hk:e.kind=1
  .have:=h e.name
   rw[DJ hk];omega
  .rw [DI hk]
   have h1:(e.children.zipIdx.map fun p=>cV p.1 (asz ρ (e.bound p.2))).sum<=(e.children.zipIdx.map fun p=>Ay p.1).sum:=Fu _ _ 0 rfl fun i x y hx hy=>by
    rw[hx]at hy;cases hy;exact ih x (qc hx) _ fun s=>by unfold asz;split<;>grind
   have h2:(e.children.zipIdx.map fun p=>Ay p.1)=e.children.map Ay:=by
    refine qH fun i=>?_;grind
   rw[h2]at h1;omega
def occB (B:Nat)(e:Exp):Prop:=e.fold fun e l=>(∀(i:Nat) x,e.children[i]?=some x->∀u∈e.bound i,cV x (indV [u])<=B)/\∀p∈l,p
theorem Fj (B:Nat)(e:Exp):occB B e=((∀(i:Nat) x,e.children[i]?=some x->∀u∈e.bound i,cV x (indV [u])<=B)/\∀x∈e.children,occB B x):=by
 have:=Exp.fold_eq (fun e (l:List Prop)=>(∀(i:Nat) x,e.children[i]?=some x->∀u∈e.bound i,cV x (indV [u])<=B)/\∀p∈l,p) e;unfold occB;rw[this];simp only[qU]
theorem occB.one {B:Nat}{e:Exp}(h:occB B e):∀(i:Nat) x,e.children[i]?=some x->∀u∈e.bound i,cV x (indV [u])<=B:=by
 rw[Fj]at h;exact h.1
theorem occB.child {B:Nat}{e x:Exp}(h:occB B e)(hx:x∈e.children):occB B x:=by
 rw[Fj]at h;exact h.2 x hx
theorem Lo {B:Nat}(e:Exp):Ay e<=B->occB B e:=by
 induction e using Exp.ind with
 |h e ih=>
  intro h;have hc:∀x∈e.children,Ay x<=B:=fun x hx=>by
   have:=Hq (qaz (f:=Ay) hx);rw[GW]at h;omega
  rw[Fj];exact⟨fun i x hx u _=>qr (Zk x [u]) (hc x (qc hx)),fun x hx=>ih x hx (hc x hx)⟩
theorem Zde {l:List Str}{s t:Str}(hs:s∈l)(ht:t∈l)(h:rlast l s=rlast l t):s=t:=by
 unfold rlast at h;rw[if_pos hs,if_pos ht]at h;have h1:=Gm (Ev.2 (List.mem_reverse.2 hs));have h2:=Gm (Ev.2 (List.mem_reverse.2 ht));rw[show A5 l.reverse s=A5 l.reverse t by omega]at h1;grind
theorem isVar.bnd {B:Nat}{s:Str}{c:Exp}(h:isVar s c):occB B c:=by
 have hc:c.children=[]:=by
  obtain⟨_,_,_,_,ks,am⟩:=h;simp[Exp.children,ks,am]
 rw[Fj,hc];exact⟨fun i x hx=>by simp at hx,fun x hx=>by cases hx⟩
theorem Zih {B:Nat}(a:Exp):∀(c:Exp) (V:Rep),instR a c V->occB B a->(∀s d,V s d->occB B d)->occB B c:=by
 induction a using Exp.ind with
 |h a ih=>
  intro c V h ha hv;by_cases hk:a.kind=1
  .exact hv _ _ (h.var hk)
  .obtain ⟨h1,h2,h3,h4⟩:=h.node hk
   have hl:c.children.length=a.children.length:=h1.children.symm;rw[Fj];have get:∀(i:Nat) y,c.children[i]?=some y->∃x,a.children[i]?=some x:=fun i y hy=>Ab (by grind);refine⟨fun i y hy u hu=>?_,fun y hy=>?_⟩
   .obtain ⟨x,hx⟩:=get i y hy
    have hi:=Re x y _ (fun s=>if s∈a.bound i/\rlast (a.bound i) s=rlast (c.bound i) u then 1 else 0) (indV [u]) (h4 i x y hx hy) fun s hs d hd=>by
     rcases hd with ⟨hb,t,ht,hr,hvt⟩|⟨hb,hvd,hf⟩
     .rw [DJ hvt.1,hvt.2.1]
      unfold indV;grind
     .rw [NU d _ fun w hw=>by unfold indV;grind]
      omega
    refine qr hi ?_;by_cases hq:∃v∈a.bound i,rlast (a.bound i) v=rlast (c.bound i) u
    .obtain ⟨v,hvb,hvr⟩:=hq
     refine qr (KI x _ (indV [v]) fun s _=>?_) (ha.one i x hx v hvb);split
     .rename_i hs
      have:s=v:=Zde hs.1 hvb (hs.2.trans hvr.symm);simp[indV,this]
     .omega
    .rw [NU x _ fun s _=>if_neg fun q=>hq ⟨s,q⟩]
     omega
   .obtain ⟨i,hi⟩:=qn.1 hy
    obtain⟨x,hx⟩:=get i y hi;refine ih x (qc hx) y _ (h4 i x y hx hi) (ha.child (qc hx)) fun s d hd=>?_;rcases hd with ⟨_,t,_,_,hvt⟩|⟨_,q,_⟩
    .exact hvt.bnd
    .exact hv s d q
theorem Su {B:Nat}{x:Str}{b e:Exp}(hb:okE b)(he:okE e)(h:occB B e)(hr:occB B b):occB B (subP e x b):=by
 refine Zih e _ _ (G1 x b hb.1 e.weight e (qg _) he.1 he.2.1) h fun s d hd=>?_;unfold subV at hd;split at hd
 .exact hd▸hr
 .exact hd.bnd
theorem Ue {B:Nat}{e:Exp}:∀(l:List Str),(∀v∈l,cV e (indV [v])<=B)->cV e (indV l)<=l.length*B
 |[],_=>by
  have:=NU e (indV []) fun s _=>by simp[indV]
  omega
 |v::l,h=>by
  have h1:=h v sy;have h2:=Ue l fun u hu=>h u (by simp[hu]);have h3:=ZdN e (indV (v::l)) (indV [v]) (indV l) fun s _=>by
   unfold indV;grind
  rw[qI,qaU];omega
theorem ZbC {B:Nat}{x:Str}{e b:Exp}(he:okE e)(hb:okE b)(h:cV e (indV [x])<=B):(subP e x b).weight<=e.weight+B*b.weight:=by
 have h1:=Oz (subP e x b) (fun _=>1) (Dw he hb).1 fun _=>qg _;have h2:=OO (x:=x) (b:=b) (e:=e) (n:=e.weight) hb.1 (qg _) he.1 he.2.1 fun _=>1;have h3:=OA (qg 1) b (fun _=>1) fun _ _=>qg _;have h4:=Tw (M:=b.weight) e (fun s=>if s=x then wV b (fun _=>1) else 1) (indV [x]) fun s _=>by
  unfold indV;split<;>simp_all<;>omega
 have h5:=qaH b.weight h;rw[Nat.mul_comm B];unfold subP at *
 omega
theorem V2:∀(l:List (Str×Exp))(e:Exp)(F:List Str),okE e->(∀p∈l,∃t,p.2=varX t)->cV (AJ l e) (indV F)<=cV e (indV (F++l.map (·.1)))
 |[],e,F,_,_=>by simp[AJ]
 |p::l,e,F,he,hl=>by
  obtain⟨t,ht⟩:=hl p sy;have hv:okE p.2:=ht▸DX t;rw[Ey];refine qr (V2 l _ F (Dw he hv) fun q hq=>hl q (by simp[hq])) (qr (Zgi hv he _) (KI e _ _ fun s _=>?_));by_cases hs:s=p.1
  .rw [if_pos hs,ht,DJ (show (varX t).kind=1 from rfl)]
   unfold indV;grind
  .rw [if_neg hs]
   unfold indV;grind
theorem Ze3 {M N:Nat}(hM:1<=M){l:List (Str×Exp)}{e:Exp}(he:okE e)(hl:∀p∈l,okE p.2/\p.2.weight<=M/\∀q∈l,q.1∉Ad p.2)(h:cV e (indV (l.map (·.1)))<=N):(AJ l e).weight<=e.weight+N*M:=by
 have h0:=(FS l e e (B0 e) he fun p hp=>(hl p hp).1).2;have h1:=Oz (AJ l e) (fun _=>1) h0.1 fun _=>qg _;have h2:=RB hM l e he hl;have h3:=Tw (M:=M) e (asgL M l) (indV (l.map (·.1))) fun s _=>by
  unfold asgL indV;by_cases hs:∃p∈l,p.1=s
  .rw [if_pos hs,if_pos (by obtain ⟨p,hp,rfl⟩:=hs;exact qaz hp)]
   omega
  .rw [if_neg hs]
   omega
 have h5:=qaH M h;rw[Nat.mul_comm N];omega
theorem shp.app {e:Exp}(h:shp e)(h5:e.kind=5):∃f x,e.kids=[f,x]/\shp f/\shp x/\e.arms=[]:=by
 have ha:=h.one.1.2.1 (show ¬e.kind=8 by omega);have hk:e.kids.length=2:=by
  have:=h.one.2.2;rw[h5]at this;exact this
 match hkk:e.kids,hk with
 |[f,x],_=>exact⟨f,x,rfl,h.child (AE (by grind)),h.child (AE (by grind)),ha⟩
theorem Ih {P:Exp->Prop}(hP:∀e x,P e->x∈e.children->P x)(e:Exp):shp e->P e->P (spine e).1/\∀x∈(spine e).2,P x:=by
 induction e using Exp.ind with
 |h e ih=>
  intro hs h;by_cases h5:e.kind=5
  .obtain ⟨f,x,hk,sf,sx,ha⟩:=hs.app h5
   grind[AE,GA,qo]
  grind[E8]
theorem Ke (e:Exp):shp e->(spine e).1.weight+((spine e).2.map Exp.weight).sum+(spine e).2.length=e.weight:=by
 induction e using Exp.ind with
 |h e ih=>
  intro hs;by_cases h5:e.kind=5
  .obtain ⟨f,x,hk,sf,sx,ha⟩:=hs.app h5
   have:=ih f (AE (by grind)) sf;rw[GA h5 hk,e.weight_eq,Exp.children,hk,ha];grind
  grind[E8]
theorem QE {e x:Exp}(hs:shp e)(hx:x∈(spine e).2):x.weight<e.weight:=by
 have h1:=Ke e hs;have h2:=Hq (qaz (f:=Exp.weight) hx);grind
theorem HF:∀(n:Nat)(e:Exp)(l:List Exp),e.weight<=n->shp e->Dy n e l=((spine e).1,(spine e).2++l)
 |0,e,_,h,_=>by have:=e.weight_pos;omega
 |n+1,e,l,h,hs=>by
  unfold Dy;by_cases h5:e.kind=5
  .obtain ⟨f,x,hk,sf,sx,ha⟩:=hs.app h5
   have hf:=Exp.child_lt (e:=e) (x:=f) (AE (by grind));rw[if_pos h5,hk,GA h5 hk];show Dy n f (x::l)=_;rw[HF n f (x::l) oz sf];simp
  grind[E8]
theorem IX (e:Exp):(Ai e).length=e.weight:=by
 induction e using Exp.ind with
 |h e ih=>
  have h1:(e.children.map Ai).flatten.length=(e.children.map Exp.weight).sum:=by
   grind[qM]
  have h2:(e.arms.map fun a=>a.1.vars).flatten.length=(e.arms.map fun a=>a.1.vars.length).sum:=by
   rw[qaT,qas];rfl
  rw[Gq,e.weight_eq,qI,qz,h1,h2];omega
theorem OS {e x:Exp}(hx:x∈e.children){s:Str}(h:s∈Ai x):s∈Ai e:=by
 grind[Gq]
theorem Un (e:Exp):∀s∈Ad e,s∈Ai e:=by
 induction e using Exp.ind<;>grind[CI,Gq,B8]
theorem Me {e f:Exp}(he:okE e)(hk:e.kind=7):(AG e f).weight=1+2*f.weight:=by
 have ha:=he.1.one.1.2.1 (show ¬e.kind=8 by omega);grind[AG,Gi]
theorem Zgm {B:Nat}{e f:Exp}(he:okE e)(hk:e.kind=7)(h:occB B e)(hf:f∈e.children):occB B (AG e f):=by
 have ha:=he.1.one.1.2.1 (show ¬e.kind=8 by omega);have hc:(AG e f).children=[f,f]:=by grind[AG,BD]
 obtain⟨i,hi⟩:=qn.1 hf;rw[Fj,hc];refine⟨fun j x hx u hu=>?_,fun x hx=>?_⟩
 .have hxf:x=f:=by grind
  subst hxf;refine h.one i x hi u ?_;rw[Bx]at hu |-;have hk2:(AG e x).kind=7:=hk;rw[if_pos oz]at hu |-;exact hu
 .have hxf:x=f:=by grind
  exact hxf▸h.child hf
theorem O1 {B:Nat}:∀(l:List (Str×Exp)) (e:Exp),okE e->occB B e->(∀p∈l,okE p.2/\occB B p.2)->occB B (AJ l e)
 |[],_,_,h,_=>h
 |p::l,e,he,h,hl=>by
  obtain⟨h1,h2⟩:=hl p sy;rw[Ey];exact O1 l _ (Dw he h1) (Su h1 he h h2) fun q hq=>hl q (by simp[hq])
theorem Rl {e f:Exp}(he:okE e)(hk:e.kind=7)(h:lfE e)(hf:f∈e.children):lfE (AG e f):=by
 have ha:=he.1.one.1.2.1 (show ¬e.kind=8 by omega);have hc:(AG e f).children=[f,f]:=by grind[AG,BD]
 have hm:∀y∈(AG e f).children,y=f:=fun y hy=>by grind
 refine⟨?_,?_⟩
 .rw [Es]
  exact⟨h.1.one,fun y hy=>hm y hy▸h.1.child hf⟩
 .rw [Fz]
  exact⟨h.2.one,fun y hy=>hm y hy▸h.2.child hf⟩
theorem Pw (l m:List (Str×Exp))(e:Exp):AJ (l++m) e=AJ m (AJ l e):=by
 grind[AJ]
theorem ZeZ {s:Str}(h:s.length<=1000):nmL (varX s):=fun t ht=>by
 rcases A1.1 ht with h1|⟨i,x,hx,_⟩
 .exact h1▸h
 .cases hx
theorem TD:∀(l:List (Str×Exp))(e:Exp),okE e->nmL e->e.weight<=100000000000->(∀p∈l,p.1.length<=1000/\∃t,p.2=varX t/\t.length<=1000)->okE (AJ l e)/\nmL (AJ l e)/\(AJ l e).weight<=e.weight
 |[],_,h1,h2,_,_=>⟨h1,h2,qg _⟩
 |p::l,e,h1,h2,hw,hl=>by
  obtain⟨hp,t,ht,hn⟩:=hl p sy;have hwt:(subP e p.1 p.2).weight<=e.weight:=by grind[Zdc]
  rw[Ey];obtain⟨g1,g2,g3⟩:=TD l (subP e p.1 p.2) (by grind[Dw,DX]) (by rw[ht];exact Um h1.1 (DX t).1 h1.2.1 h2 (ZeZ hn) hw (by rw[Sl];omega) hp) oz fun q hq=>hl q (by grind);grind
theorem LT:∀(l:List (Str×Exp))(e:Exp),okE e->lfE e->(∀k,(AJ (l.take k) e).weight<=1000000000)->(∀p∈l,okE p.2/\lfE p.2/\p.2.weight<=1000000000)->okE (AJ l e)/\lfE (AJ l e)
 |[],_,he,h,_,_=>⟨he,h⟩
 |p::l,e,he,h,hw,hl=>by
  obtain⟨h1,h2,h3⟩:=hl p sy;rw[Ey];refine LT l _ (Dw he h1) (T4 he h1 ?_ h3 h h2) (fun k=>?_) fun q hq=>hl q (by grind)
  .have:=hw 0
   grind[AJ]
  .have:=hw (k+1)
   grind[Ey]
def renL (T:List Str)(vars:List Str):List (Str×Exp):=vars.zipIdx.map fun p=>(p.1,varX (Au p.2 T))
def argL (T:List Str)(args:List Exp):List (Str×Exp):=args.zipIdx.map fun p=>(Au p.2 T,p.1)
theorem YK (T vars:List Str)(args:List Exp):DW T vars args=renL T vars++argL T args:=rfl
theorem ZeO {T vars:List Str}{p:Str×Exp}(h:p∈renL T vars)(hl:vars.length+T.length<=687194767360):p.1∈vars/\∃t,p.2=varX t/\t.length<=1000:=by
 obtain⟨⟨v,i⟩,hr,rfl⟩:=qJ.1 h;have:=qal.1 hr;have hi:=(qf.1 this).1;exact⟨qc this,_,rfl,GO i T (by simp only at hi;omega)⟩
theorem Gz {T:List Str}{args:List Exp}{p:Str×Exp}(h:p∈argL T args):p.2∈args/\p.1∉T:=by
 obtain⟨⟨y,i⟩,hr,rfl⟩:=qJ.1 h;grind[Ds]
structure Lim (B:Nat)(e:Exp):Prop where
 bd:occB B e
 wt:(2*B+1)*e.weight<=100000000000
 sm:e.weight<=100000000
theorem Lim.child {B:Nat}{e x:Exp}(h:Lim B e)(hx:x∈e.children):Lim B x:=by
 have h1:=qaH (2*B+1) (qbp (Exp.child_lt hx));exact⟨h.bd.child hx,qr h1 h.wt,qr (qbp (Exp.child_lt hx)) h.sm⟩
structure CaseOk (B:Nat)(e k:Exp)(a:ArmH×Exp):Prop where
 ok:okE e
 lf:lfE e
 lm:Lim B e
 kk:e.kids=[k]
 am:a∈e.arms
section
variable {B:Nat}{e k:Exp}{a:ArmH×Exp}(h:CaseOk B e k a)
include h
theorem CaseOk.sum:a.2.weight+a.1.vars.length+k.weight+1<=e.weight:=by
 have h1:(e.children.map Exp.weight).sum=(e.kids.map Exp.weight).sum+((e.arms.map (·.2)).map Exp.weight).sum:=by grind[Exp.children]
 have h2:a.2.weight<=((e.arms.map (·.2)).map Exp.weight).sum:=Hq (qaz (f:=Exp.weight) (qaz (f:=fun x:ArmH×Exp=>x.2) h.am));have h3:a.1.vars.length<=(e.arms.map fun a=>a.1.vars.length).sum:=Hq (qaz (f:=fun a:ArmH×Exp=>a.1.vars.length) h.am);have h4:=e.weight_eq;rw[h1,h.kk]at h4;grind
theorem CaseOk.kid:k∈e.children:=AE (by rw[h.kk];simp)
theorem CaseOk.args:∀x∈(spine k).2,okE x/\lfE x/\x.weight<=k.weight/\∀s∈Ad x,s∈Ai e:=by
 have hk:=h.kid;have hs:=(h.ok.child hk).1;have h1:=(Ih (P:=okE) (fun _ _ q hx=>q.child hx) k hs (h.ok.child hk)).2;have h2:=(Ih (P:=lfE) (fun _ _ q hx=>q.child hx) k hs (h.lf.child hk)).2;have h3:=(Ih (P:=fun y=>∀s∈Ai y,s∈Ai e) (fun _ _ q hx s hs=>q s (OS hx hs)) k hs (fun s hs=>OS hk hs)).2;exact fun x hx=>⟨h1 x hx,h2 x hx,qbp (QE hs hx),fun s q=>h3 x hx s (Un x s q)⟩
theorem CaseOk.ren (j:Nat):okE (AJ ((renL (Ai e) a.1.vars).take j) a.2)/\nmL (AJ ((renL (Ai e) a.1.vars).take j) a.2)/\(AJ ((renL (Ai e) a.1.vars).take j) a.2).weight<=a.2.weight:=by
 have hs:=h.sum;have hw:=h.lm.sm;have hm:=Bp h.am;have hu:=IX e;refine TD _ a.2 (h.ok.child hm) (El (h.lf.child hm).1) oz fun p hp=>?_;obtain⟨h1,h2⟩:=ZeO (qW hp) oz;exact⟨qr (h.lf.1.one.2.2.2 a h.am p.1 h1).1 (by decide),h2⟩
theorem CaseOk.vars:∀v∈a.1.vars,cV a.2 (indV [v])<=B:=by
 obtain⟨i,hi⟩:=qn.1 h.am;have h8:e.kind=8:=qO fun h8=>by
  have:=h.ok.1.wf.one.2.1 h8;rw[this]at hi;simp at hi
 have hc:e.children[1+i]?=some a.2:=by
  unfold Exp.children;rw[h.kk,qN sy];simp[hi]
 refine fun v hv=>h.lm.bd.one _ _ hc v ?_;rw[Bx,if_neg oz,if_pos oz,show 1+i-1=i by omega,hi];exact hv
theorem CaseOk.occ (j:Nat):cV (AJ (renL (Ai e) a.1.vars) a.2) (indV (((argL (Ai e) (spine k).2).take j).map (·.1)))<=2*B:=by
 have hm:=Bp h.am;refine qr (V2 _ _ _ (h.ok.child hm) fun p hp=>?_) (qr (KI _ _ (indV a.1.vars) fun s hs=>?_) (qr (Ue _ h.vars) (qD B (h.lf.2.one.2.2.2.2.2.2 a h.am).2)))
 .obtain ⟨q,_,rfl⟩:=qJ.1 hp
  exact⟨_,rfl⟩
 .have hmap:(renL (Ai e) a.1.vars).map (·.1)=a.1.vars:=by
   refine qH fun i=>?_;simp only[renL,qk,qan];cases a.1.vars[i]?<;>rfl
  rw[hmap];unfold indV;by_cases hv:s∈a.1.vars
  .rw [if_pos hv]
   split<;>omega
  .rw [if_neg fun q => ?_]
   .omega
   .rcases qp.1 q with q|q
    .obtain ⟨p,hp,rfl⟩:=qJ.1 q
     exact(Gz (qW hp)).2 (OS hm (Un _ _ hs))
    .exact hv q
theorem CaseOk.sub (j:Nat):okE (AJ ((argL (Ai e) (spine k).2).take j) (AJ (renL (Ai e) a.1.vars) a.2))/\nmL (AJ ((argL (Ai e) (spine k).2).take j) (AJ (renL (Ai e) a.1.vars) a.2))/\
 (AJ ((argL (Ai e) (spine k).2).take j) (AJ (renL (Ai e) a.1.vars) a.2)).weight<=(2*B+1)*e.weight:=by
 obtain⟨r1,r2,r3⟩:=h.ren (renL (Ai e) a.1.vars).length;have ho:=h.occ;rw[qaM]at r1 r2 r3;generalize AJ (renL (Ai e) a.1.vars) a.2=b at *
 have hs:=h.sum;have hw:=h.lm.wt;have hsm:=h.lm.sm;have hkp:=k.weight_pos;have hul:=IX e;have hA:=h.args;have hal:=Ke k (h.ok.child h.kid).1;have hL:∀p∈argL (Ai e) (spine k).2,okE p.2/\p.2.weight<=k.weight/\∀q∈argL (Ai e) (spine k).2,q.1∉Ad p.2:=fun p hp=>by
  obtain⟨a1,_,a3,a4⟩:=hA p.2 (Gz hp).1;exact⟨a1,a3,fun q hq hf=>(Gz hq).2 (a4 _ hf)⟩
 have hT:∀j,(AJ ((argL (Ai e) (spine k).2).take j) b).weight<=(2*B+1)*e.weight:=fun j=>by
  have h1:=Ze3 (N:=2*B) hkp r1 (fun p hp=>by
   obtain⟨h1,h2,h3⟩:=hL p (qW hp);exact⟨h1,h2,fun q hq=>h3 q (qW hq)⟩) (ho j)
  have h2:2*B*k.weight+1*(a.2.weight+a.1.vars.length+1)<=(2*B+1)*e.weight:=by
   have h3:2*B*k.weight<=2*B*e.weight:=qaH _ oz;rw[qaU];omega
  omega
 refine⟨(FS _ b b (B0 b) r1 fun p hp=>(hL p (qW hp)).1).2,RJ _ b r1 r2 (fun i=>?_) fun p hp=>?_,hT j⟩
 .rw [List.take_take]
  exact qr (hT _) hw
 .obtain ⟨a1,a2,a3,_⟩:=hA p.2 (Gz (qW hp)).1
  refine⟨a1,El a2.1,oz,?_⟩;obtain⟨⟨y,i⟩,hr,rfl⟩:=qJ.1 (qW hp);have hi:=(qf.1 (qal.1 hr)).1;simp only at hi;exact GO i _ oz
theorem CaseOk.keeps:occB B (AJ (argL (Ai e) (spine k).2) (AJ (renL (Ai e) a.1.vars) a.2))/\((2*B+1)*e.weight<=1000000000->lfE (AJ (argL (Ai e) (spine k).2) (AJ (renL (Ai e) a.1.vars) a.2))):=by
 have hm:=Bp h.am;have hs:=h.sum;have hul:=IX e;have hsm:=h.lm.sm;have hA:=h.args;have hr:∀p∈renL (Ai e) a.1.vars,∃t,p.2=varX t/\nameOk 97 122 t:=fun p hp=>by
  obtain⟨⟨v,i⟩,hr,rfl⟩:=qJ.1 hp;have hi:=(qf.1 (qal.1 hr)).1;simp only at hi;exact⟨_,rfl,Om oz⟩
 have hB:∀x∈(spine k).2,occB B x:=(Ih (P:=occB B) (fun _ _ q hx=>q.child hx) k (h.ok.child h.kid).1 (h.lm.bd.child h.kid)).2;have r1:=(h.ren (renL (Ai e) a.1.vars).length).1;rw[qaM]at r1;refine⟨O1 _ _ r1 (O1 _ _ (h.ok.child hm) (h.lm.bd.child hm) fun p hp=>?_) fun p hp=>⟨(hA p.2 (Gz hp).1).1,hB p.2 (Gz hp).1⟩,fun hl=>?_⟩
 .obtain ⟨t,ht,_⟩:=hr p hp
  rw[ht];exact⟨DX t,(show isVar t (varX t)from⟨rfl,rfl,rfl,rfl,rfl,rfl⟩).bnd⟩
 .have hle:e.weight<=(2*B+1)*e.weight:=qbh _ oz
  obtain⟨q1,q2⟩:=LT (renL (Ai e) a.1.vars) a.2 (h.ok.child hm) (h.lf.child hm) (fun i=>qr (h.ren i).2.2 oz) fun p hp=>by
   obtain⟨t,ht,hn⟩:=hr p hp;rw[ht];exact⟨DX t,⟨ZcU hn,ZdO t⟩,by rw[Sl];omega⟩
  exact(LT _ _ q1 q2 (fun i=>qr (h.sub i).2.2 hl) fun p hp=>by
   obtain⟨a1,a2,a3,_⟩:=hA p.2 (Gz hp).1;exact⟨a1,a2,oz⟩).2
end
def StB (B:Nat)(e x:Exp):Prop:=x.weight<=(2*B+1)*e.weight/\occB B x/\((2*B+1)*e.weight<=1000000000->lfE x)
theorem Gf {B:Nat}:∀(n:Nat) (e:Exp) (p:Exp×Nat),e.weight<=n->okE e->lfE e->Lim B e->Aq subP Ai AG n e=some p->StB B e p.1
 |0,_,_,_,_,_,_,h=>by cases h
 |n+1,e,p,hn,he,hl,hw,h=>by
  have hpos:=e.weight_pos;have hle:e.weight<=(2*B+1)*e.weight:=qbh _ oz;have hwt:=hw.wt;have one:∀c,c∈e.children->StB B e c:=fun c hc=>⟨by have:=Exp.child_lt hc;omega,hw.bd.child hc,fun _=>hl.child hc⟩
  have sub:∀(x:Str) (b y:Exp),okE b->okE y->occB B b->occB B y->lfE b->lfE y->cV b (indV [x])<=B->b.weight+B*y.weight<=(2*B+1)*e.weight->y.weight<=1000000000->StB B e (subP b x y):=fun x b y g1 g2 g3 g4 g5 g6 g7 g8 g9=>
   ⟨qr (ZbC g1 g2 g7) g8,Su g2 g1 g3 g4,fun q=>T4 g1 g2 oz g9 g5 g6⟩
  have up:∀(c:Exp) (q:Exp×Nat),c∈e.children->e.kind=5\/e.kind=8->e.children.head?=some c->StB B c q.1->StB B e (AD e (q.1::e.children.tail)):=by
   intro c q hc h58 hh hq;obtain⟨hq1,hq2,hq3⟩:=hq;have hcl:=Exp.child_lt hc;have hlen:(q.1::e.children.tail).length=e.kids.length+e.arms.length:=by
    have:=e.children_len;grind
   have hmono:(2*B+1)*c.weight<=(2*B+1)*e.weight:=qaH _ oz;refine⟨?_,?_,fun ql=>?_⟩
   .have h1:=UK hlen
    have h2:=e.weight_eq;cases hcc:e.children with
    |nil=>grind
    |cons d l=>
     rw[hcc]at hh h1 h2;simp only[List.head?_cons,qd]at hh;subst hh;simp only[List.tail_cons,qt,qQ]at h1 h2;rw[List.tail_cons];have h3:(2*B+1)*e.weight=(2*B+1)*d.weight+(2*B+1)*(e.weight-d.weight):=(by rw[<-Nat.mul_add];congr 1;omega);have h4:e.weight-d.weight<=(2*B+1)*(e.weight-d.weight):=qbh _ oz;omega
   .rw [Fj,(B7 hlen).2.2.1]
    refine⟨fun i x hx u hu=>?_,fun y hy=>?_⟩
    .rw [Ir hlen] at hu
     cases i with
     |zero=>
      rw[Bx]at hu;split at hu
      .omega
      .rw [if_neg oz] at hu
       cases hu
     |succ i=>exact hw.bd.one (i+1) x (by grind) u hu
    .rcases qG.1 hy with rfl|hy
     .exact hq2
     .exact hw.bd.child (List.mem_of_mem_tail hy)
   .have hmem:∀y∈q.1::e.children.tail,lfE y:=fun y hy=>by
     rcases qG.1 hy with rfl|hy
     .exact hq3 oz
     .exact hl.child (List.mem_of_mem_tail hy)
    exact⟨Mz hlen hl.1 fun y hy=>(hmem y hy).1,Zd4 hlen hl.2 fun y hy=>(hmem y hy).2⟩
  unfold Aq at h;split at h
  .rename_i f a hk
   have hf:f∈e.children:=AE (by grind);have ha:a∈e.children:=AE (by grind);have hhd:e.children.head?=some f:=(by grind[Exp.children]);have hfl:=Exp.child_lt hf;have hal:=Exp.child_lt ha;have hsum:f.weight+a.weight+1<=e.weight:=by
    have h1:=e.weight_eq;unfold Exp.children at h1;rw[hk]at h1;simp only[qai,qt,qX,qaF,qQ,qaJ]at h1;omega
   have hmul:(2*B+1)*(f.weight+a.weight+1)<=(2*B+1)*e.weight:=qaH _ hsum;have hex:(2*B+1)*(f.weight+a.weight+1)=2*(B*f.weight)+2*(B*a.weight)+2*B+f.weight+a.weight+1:=(by grind);split at h
   .split at h
    .split at h
     .rename_i k hfk
      cases h;have hkf:=AE (e:=f) (x:=k) (by grind);have hkl:=Exp.child_lt hkf;exact sub _ _ _ ((he.child hf).child hkf) (he.child ha) ((hw.bd.child hf).child hkf) (hw.bd.child ha) ((hl.child hf).child hkf) (hl.child ha)
       ((hw.bd.child hf).one 0 k (by grind[Exp.children]) _ (by rw[Bx];grind)) oz (by have:=hw.sm;omega)
     grind
    .rename_i h5 _
     obtain⟨q,hq,rfl⟩:=qu.1 h;exact up f q hf (.inl h5) hhd (Gf n f q oz (he.child hf) (hl.child hf) (hw.child hf) hq)
   .split at h
    .rename_i h6
     cases h;exact sub _ _ _ (he.child ha) (he.child hf) (hw.bd.child ha) (hw.bd.child hf) (hl.child ha) (hl.child hf)
      (hw.bd.one 1 a (by grind[Exp.children]) _ (by rw[Bx];grind)) oz (by have:=hw.sm;omega)
    .split at h
     .rename_i h7
      cases h;have hag:=Me (f:=f) he h7;have hBa:B*(AG e f).weight=B+2*(B*f.weight):=(by rw[hag];grind);exact sub _ _ _ (he.child ha) (Gc he h7 hf) (hw.bd.child ha) (Zgm he h7 hw.bd hf) (hl.child ha) (Rl he h7 hl hf)
       (hw.bd.one 1 a (by grind[Exp.children]) _ (by rw[Bx];grind)) oz (by have:=hw.sm;omega)
     grind
  .rename_i k hk
   have hm:k∈e.children:=AE (by grind);have hhd:e.children.head?=some k:=(by grind[Exp.children]);have hkl:=Exp.child_lt hm;split at h
   .cases h
    exact one k hm
   .split at h
    .cases h
     exact one k hm
    .split at h
     .rename_i h8
      split at h
      .rw [HF k.weight k [] (qg _) (he.child hm).1,qK] at h
       simp only at h;unfold BY at h;cases hfd:e.arms.find? fun a=>a.1.con==(spine k).1.name with
       |none=>grind
       |some a=>
        rw[hfd]at h;simp only at h;split at h
        .cases h
         have hC:CaseOk B e k a:=⟨he,hl,hw,hk,qaG hfd⟩;obtain⟨s1,s2,s3⟩:=hC.sub (argL (Ai e) (spine k).2).length;rw[qaM]at s1 s2 s3;have hch:JK subP (DW (Ai e) a.1.vars (spine k).2) a.2=AJ (argL (Ai e) (spine k).2) (AJ (renL (Ai e) a.1.vars) a.2):=by
          rw[YK,<-Pw];rfl
         simp only;rw[hch];exact⟨s3,hC.keeps⟩
        grind
      .obtain ⟨q,hq,rfl⟩:=qu.1 h
       exact up k q hm (.inr h8) hhd (Gf n k q oz (he.child hm) (hl.child hm) (hw.child hm) hq)
     grind
  grind
theorem Jm (e:Exp):fixE e->e.weight+2<=3*Ay e:=by
 induction e using Exp.ind with
 |h e ih=>
  intro h;have h1:∀l:List Exp,(∀x∈l,x.weight+2<=3*Ay x)->(l.map Exp.weight).sum+2*l.length<=3*(l.map Ay).sum:=by
   intro l
   induction l<;>grind
  have h2:=h1 e.children fun x hx=>ih x hx (h.child hx);have h3:(e.arms.map fun a=>a.1.vars.length).sum<=2*e.arms.length:=by
   have:=Gp (l:=e.arms) (f:=fun a=>a.1.vars.length) (g:=fun _=>2) fun a ha=>(h.one.2.2.2.2.2.2 a ha).2;simp only[List.map_const',List.sum_replicate_nat]at this;omega
  have h4:=e.children_len;rw[e.weight_eq,GW];omega
theorem K3 (e:Exp):Ay e<=e.weight:=by
 induction e using Exp.ind with
 |h e ih=>
  have:=Gp (l:=e.children) (f:=Ay) (g:=Exp.weight) ih;rw[GW,e.weight_eq];omega
theorem Lim.small {e:Exp}(h:e.weight<=6000):Lim 6000 e:=⟨Lo e (qr (K3 e) h),oz,oz⟩
theorem mkE.low {ds:List DataD}(hc:ET ds){e:Exp}:mkE ds e->lowE e:=by
 induction e using Exp.ind with
 |h e ih=>
  intro h;have hall:∀s∈B1,nameOk 97 122 s:=by
   intro s hs;simp only[B1,Cd,qp,qG,qag,or_false]at hs;rcases hs with (rfl|rfl|rfl|rfl|rfl|rfl|rfl|rfl)|(rfl|rfl|rfl|rfl|rfl)<;>exact⟨by decide,⟨_,rfl,by decide,by decide⟩,by decide,by decide⟩
  have hcon:∀s,cOk ds s->nameOk 65 90 s:=by
   rintro s (rfl|⟨d,hd,c,hcc,rfl⟩)
   .exact⟨by decide,⟨_,rfl,by decide,by decide⟩,by decide,by decide⟩
   .exact hc d hd c hcc
  obtain⟨_,h2,_,_,_,h6⟩:=h.one;rw[Es];refine⟨⟨?_,?_,?_,fun a ha v hv=>hall v ((h2 a ha).2.2.2.2 v hv)⟩,fun x hx=>ih x hx (h.child hx)⟩
  .unfold lowK
   rcases h6 with ⟨k,n,_⟩|⟨k,n,_⟩|⟨k,n,_⟩|⟨k,n,_⟩|⟨k,n,_⟩|⟨k,n,_⟩|⟨k,n,_⟩|⟨k,n,_⟩<;>grind
  .rcases h6 with ⟨k,n,_⟩|⟨k,n,_⟩|⟨k,n,_⟩|⟨k,n,_⟩|⟨k,n,_⟩|⟨k,n,_⟩|⟨k,n,_⟩|⟨k,n,_⟩<;>grind
  .unfold lowK
   rcases h6 with ⟨k,n,_⟩|⟨k,n,_⟩|⟨k,n,_⟩|⟨k,n,_⟩|⟨k,n,_⟩|⟨k,n,_⟩|⟨k,n,_⟩|⟨k,n,_⟩<;>grind
theorem mkE.fix {ds:List DataD}(hc:ET ds){e:Exp}:mkE ds e->fixE e:=by
 induction e using Exp.ind with
 |h e ih=>
  intro h;have hcon:∀s,cOk ds s->nameOk 65 90 s:=by
   rintro s (rfl|⟨d,hd,c,hcc,rfl⟩)
   .exact⟨by decide,⟨_,rfl,by decide,by decide⟩,by decide,by decide⟩
   .exact hc d hd c hcc
  obtain⟨_,h2,h3,h4,h5,h6⟩:=h.one;rw[Fz];refine⟨⟨?_,?_,⟨h5.1,h5.2.1,by have:=h5.2.2;omega⟩,h3,h4,?_,fun a ha=>⟨hcon _ (h2 a ha).2.1,(h2 a ha).2.2.1⟩⟩,fun x hx=>ih x hx (h.child hx)⟩
  .rcases h6 with ⟨k,_⟩|⟨k,_⟩|⟨k,_⟩|⟨k,_⟩|⟨k,_⟩|⟨k,_⟩|⟨k,_⟩|⟨k,_⟩<;>omega
  .rcases h6 with ⟨k,_⟩|⟨k,_⟩|⟨k,_⟩|⟨k,_⟩|⟨k,_⟩|⟨k,_⟩|⟨k,_⟩|⟨k,_⟩<;>omega
  .rcases h6 with ⟨k,_⟩|⟨k,_⟩|⟨k,_⟩|⟨k,_⟩|⟨k,_⟩|⟨k,_⟩|⟨k,_⟩|⟨k,_,_,ha⟩<;>grind
theorem mkE.shp {ds:List DataD}{e:Exp}:mkE ds e->shp e:=by
 induction e using Exp.ind with
 |h e ih=>
  intro h;obtain⟨h1,h2,h3,h4,h5,h6⟩:=h.one;rw[DV];refine⟨⟨h.one.wf1,fun k=>⟨h5.1 oz,h4.1 oz⟩,?_⟩,fun x hx=>ih x hx (h.child hx)⟩;rcases h6 with ⟨k,_,hk,_⟩|⟨k,_,hk,_⟩|⟨k,_,hk,_⟩|⟨k,_,⟨x,hk⟩,_⟩|⟨k,_,⟨x,y,hk⟩,_⟩|⟨k,_,⟨x,y,hk⟩,_⟩|⟨k,_,⟨x,hk⟩,_⟩|⟨k,_,⟨x,hk⟩,_⟩
  .rw[hk,k];rfl
  .rw[hk,k];rfl
  .rw[hk];rcases k with k | k<;>rw[k]<;>rfl
  .rw[hk,k];rfl
  .rw[hk,k];rfl
  .rw[hk];rcases k with k | k<;>rw[k]<;>rfl
  .rw[hk];rcases k with k | k<;>rw[k]<;>rfl
  .rw[hk,k];rfl
theorem mkE.proper {ds:List DataD}{e:Exp}:mkE ds e->properP e:=by
 induction e using Exp.ind with
 |h e ih=>
  intro h;rw[Em];exact⟨fun a ha=>ZhM (h.one.2.1 a ha).2.2.2.1,fun x hx=>ih x hx (h.child hx)⟩
theorem mkE.con {ds:List DataD}(hc:ET ds){e:Exp}:mkE ds e->conV e:=by
 induction e using Exp.ind with
 |h e ih=>
  intro h;rw[DU];refine⟨fun a ha k hk=>?_,fun x hx=>ih x hx (h.child hx)⟩;have hcon:nameOk 65 90 a.1.con:=by
   rcases (h.one.2.1 a ha).2.1 with q|⟨d,hd,c,hcc,q⟩
   .rw [q]
    exact⟨by decide,⟨_,rfl,by decide,by decide⟩,by decide,by decide⟩
   .rw [q]
    exact hc d hd c hcc
  rw[hk]at hcon;obtain⟨_,⟨c,q1,q2,q3⟩,_⟩:=hcon;unfold AK at q1;simp only[qP,qd]at q1;rw[<-q1]at q3;grind
theorem mkE.recZ {ds:List DataD}{e:Exp}:mkE ds e->recZ e:=by
 induction e using Exp.ind with
 |h e ih=>
  intro h;obtain⟨h1,h2,h3,h4,h5,h6⟩:=h.one;rw[EB];exact⟨fun k=>⟨h5.1 oz,h4.1 oz⟩,fun x hx=>ih x hx (h.child hx)⟩
def posE (e:Exp):Prop:=e.fold fun e l=>(e.pos=0/\∀a∈e.arms,a.1.pos=0)/\∀p∈l,p
theorem JN (e:Exp):posE e=((e.pos=0/\∀a∈e.arms,a.1.pos=0)/\∀x∈e.children,posE x):=by
 have:=Exp.fold_eq (fun e (l:List Prop)=>(e.pos=0/\∀a∈e.arms,a.1.pos=0)/\∀p∈l,p) e;unfold posE;rw[this];simp only[qU]
theorem posE.one {e:Exp}(h:posE e):e.pos=0/\∀a∈e.arms,a.1.pos=0:=by grind[JN]
theorem posE.child {e x:Exp}(h:posE e)(hx:x∈e.children):posE x:=by grind[JN]
theorem mkE.pos {ds:List DataD}{e:Exp}:mkE ds e->posE e:=by
 induction e using Exp.ind with
 |h e ih=>
  intro h;rw[JN];exact⟨⟨h.one.1,fun a ha=>(h.one.2.1 a ha).1⟩,fun x hx=>ih x hx (h.child hx)⟩
theorem Zgp (e:Exp):posE (Aj e):=by
 induction e using Exp.ind with
 |h e ih=>
  rw[JN];refine⟨?_,fun x hx=>?_⟩
  .rw [Eb]
   refine⟨rfl,fun a ha=>?_⟩;grind[DF,Dq,qn]
  grind[E4]
structure StE (e:Exp):Prop where
 ok:okE e
 rz:recZ e
 lf:lfE e
 ps:posE e
theorem mkE.stE {ds:List DataD}(hc:ET ds){e:Exp}(h:mkE ds e):StE e:=⟨⟨h.shp,h.proper,h.con hc⟩,h.recZ,⟨h.low hc,h.fix hc⟩,h.pos⟩
theorem StE.step {B:Nat}{e:Exp}(h:StE e)(hw:Lim B e)(hW:(2*B+1)*e.weight<=1000000000){p:Exp×Nat}(hp:Aq subP Ai AG e.weight e=some p):StE (Aj p.1):=by
 obtain⟨h1,h2⟩:=Zbx _ e p h.ok h.rz hp;exact⟨h1,h2,Zee ((Gf _ e p (qg _) h.ok h.lf hw hp).2.2 hW),Zgp _⟩
variable {A:Ag}
def Ziu (cur:Exp)(acc:List Exp):St:=if acc=[] then ⟨[(1,.sc (.ptr 64 0)),(2,.sc (.ptr 128 0)),(4,.sc .nil)],[(64,some (.box (wc cur.row))),(128,some (.box [zi,zi,zs,zi,.nil,.nil,zi,zs,zi,zi,.nil]))]⟩
 else ⟨[(1,.sc (.ptr 64 0)),(2,.sc (.ptr 128 0)),(4,BX acc)],[(64,some (.box (wc cur.row))),(128,some (.box [zi,zi,zs,zi,.nil,.nil,zi,zs,zi,zi,.nil])),(768,some (.arr 11 (wr (Exp.rows acc)) acc.length))]⟩
variable {A:Ag}
theorem G4 (e:Exp)(hs:shp e):(spine e).2.length<e.weight:=by
 have h1:=Ke e hs;have h3:=(spine e).1.weight_pos;omega
theorem NX (e:Exp)(hs:shp e)(hl:e.weight<=687194767360):(K A).call 41 [expV e] []=some (.tu [expV (spine e).1,BX (spine e).2],[]):=by
 refine fnO v41 ?_;have hsl:=G4 e hs;unfold v41;simp(disch:=try exact zd);refine Al (fun i s=>∃cur acc,shp cur/\acc.length=i/\spine e=((spine cur).1,(spine cur).2++acc.reverse)/\
  s=⟨[(1,.sc (.ptr 64 0)),(2,.sc (.ptr 128 0)),(4,.sc (.arr 257 i))],[(64,some (.box (wc cur.row))),(128,some (.box [zi,zi,zs,zi,.nil,.nil,zi,zs,zi,zi,.nil])),(257,some (.arr 11 (wr (Exp.rows acc)) 0))]⟩) (spine e).2.length ⟨e,[],hs,rfl,by simp,by simp⟩ ?_ ?_
 .rintro i s hi ⟨cur,acc,hc,ha,hs,rfl⟩
  have h5:cur.kind=5:=by
   by_cases h5:cur.kind=5
   .exact h5
   .rw [hs,E8 h5] at hi
    simp[ha]at hi
  obtain⟨f,x,hfx,sf,sx,har⟩:=hc.app h5;unfold MN;simp(disch:=try exact zd) [h5,hfx,ha,qP];refine⟨f,sf,acc++[x],by simp[ha],?_,by simp[ha]⟩;rw[hs,GA h5 hfx];simp
 .rintro s ⟨cur,acc,hc,ha,hs,rfl⟩
  have h5:¬cur.kind=5:=by
   intro h5;obtain⟨f,x,hfx,sf,sx,har⟩:=hc.app h5;rw[hs,GA h5 hfx]at ha;simp at ha;omega
  have hr:(spine e).2=acc.reverse:=by rw[hs,E8 h5];simp
  have hc1:(spine e).1=cur:=by rw[hs,E8 h5]
  have hv:=XL (A:=A) acc oz;unfold MN;simp(disch:=try exact zd) [h5,hv,hr,hc1]
theorem QF (e:Exp)(hs:shp e)(hl:e.weight<=687194767360):(K A).call 55 [expV e] []=some (Ac (decide ((spine e).1.kind=2)),[]):=by
 refine fnO v55 ?_;have h1:=NX (A:=A) e hs hl;unfold v55;by_cases h2:(spine e).1.kind=2
 .simp(disch:=try exact zd) [h1,h2]
 .simp(disch:=try exact zd) [h1,h2]
def valP (e:Exp):Prop:=e.kind=3\/e.kind=4\/(spine e).1.kind=2
instance (e:Exp):Decidable (valP e):=by unfold valP;exact inferInstance
theorem Zfr (e:Exp)(hs:shp e)(hl:e.weight<=687194767360):(K A).call 19 [expV e] []=some (Ac (decide (valP e)),[]):=by
 refine fnO v19 ?_;have h1:=QF (A:=A) e hs hl;unfold v19 valP;by_cases h3:e.kind=3
 .simp(disch:=try exact zd) [h3]
 .by_cases h4:e.kind=4
  .simp(disch:=try exact zd) [h4]
  .simp(disch:=try exact zd) [h3,h4,h1]
theorem QI (e:Exp):e.wf->e.weight<=687194767360->(K A).call 71 [expV e] []=some (intV (Ay e),[]):=by
 induction e using Exp.ind with
 |h e ih=>
 intro hwf hl;refine fnO v71 ?_;have hle:=e.children_le;have hnw:=K3 e;have hne:=GW e;by_cases hkids:e.kids=[]
 .have harms:e.arms=[]:=qO fun h=>by
   have h8:e.kind=8:=qO fun h8=>h (hwf.one.2.1 h8);have:=hwf.one.1 h8;rw[hkids]at this;simp at this
  have hc:=D8 (A:=A) e hkids harms;have hch:e.children=[]:=by simp[Exp.children,hkids,harms]
  rw[hch]at hne;simp only[qX,qaJ]at hne;unfold v71;simp(disch:=try exact zd) [hc];refine Am (fun i=>⟨[(3,intV 1),(7,.sc (.full [])),(8,intV 0),(9,intV i)],[(64,some (.box (wc e.row)))]⟩) 0 ?_ (fun i hi=>by omega) ?_
  .simp
  .unfold Jc
   simp(disch:=try exact zd) [hne]
 .have hc:=Ch (A:=A) e hkids oz
  rw[e.children_len]at hc;have hsum:∀i,((e.children.map Ay).take i).sum<=(e.children.map Ay).sum:=fun i=>DS;unfold v71;simp(disch:=try exact zd) [hc]
  refine Am (fun i=>⟨[(3,intV ((1+((e.children.map Ay).take i).sum:Nat):Int)),(7,.sc (.arr 352 (e.kids.length+e.arms.length))),(8,intV ((e.kids.length:Int)+e.arms.length)),(9,intV i)],[(64,some (.box (wc e.row))),(352,some (.arr 11 (wr (Exp.rows e.children)) 0))]⟩) (e.kids.length+e.arms.length) ?_ ?_ ?_
  .simp
  .intro i hi
   have hi2:(i:Int)<(e.kids.length:Int)+e.arms.length:=oz;obtain⟨x,hx⟩:=Ab (l:=e.children) (i:=i) (by rw[e.children_len];exact hi);have hm:=qc hx;have hrec:=ih x hm (hwf.child hm) (by have:=Exp.child_lt hm;omega);have hxm:(e.children.map Ay)[i]?=some (Ay x):=(by rw[qk,hx];rfl);have hs1:((e.children.map Ay).take (i+1)).sum=((e.children.map Ay).take i).sum+Ay x:=(by rw[AP hxm];simp)
   have hs2:=hsum (i+1);have hib:(i:Int)+1<=687194767360:=(by have:=e.children_len;omega);rw[hs1];generalize ((e.children.map Ay).take i).sum=S at *
   have hadd:IntKind.i64.wrap (((1+S:Nat):Int)+(Ay x:Int))=((1+(S+Ay x):Nat):Int):=(by rw[FA _ oz];omega);unfold Jc;simp(maxSteps:=9^7) (disch:=try exact zd) [hi,hi2,hx,hrec,hadd,-getElem?_pos];omega
  .have htk:(e.children.map Ay).take (e.kids.length+e.arms.length)=e.children.map Ay:=qh (by simp [e.children_len])
   rw[htk,<-hne];unfold Jc;simp(maxSteps:=9^7) (disch:=try exact zd)
variable {A:Ag}
theorem Zh9 (s:Str)(h:nameOk 97 122 s):(K A).call 97 [strV s] []=some (Ac false,[]):=by
 refine fnO v97 ?_;have h1:=H1 (A:=A) s h;unfold v97;simp(disch:=try exact zd) [h1]
theorem X9 (l:List Str)(hl:l.length<=687194767360)(h:∀s∈l,nameOk 97 122 s):(K A).call 147 [AA l,.sc (.c (.fn 97 [] []))] []=some (intV (-1),[]):=by
 refine fnO v147 ?_;unfold v147;simp(disch:=try exact zd) [-getElem?_pos];refine Am (fun i=>⟨[(0,AA l),(1,.sc (.c (.fn 97 [] []))),(7,intV l.length),(8,intV i)],[]⟩) l.length ?_ ?_ ?_
 .simp
 .intro i hi
  obtain⟨x,hx⟩:=Ab hi;have h1:=Zh9 (A:=A) x (h x (qc hx));unfold KC;simp(disch:=try exact zd) [hi,hx,h1,-getElem?_pos]
 .unfold KC
  simp(disch:=try exact zd) [-getElem?_pos]
theorem ZgC (l:List Str)(hl:l.length<=687194767360)(h:∀s∈l,nameOk 97 122 s):(K A).call 96 [AA l,.sc (.c (.fn 97 [] []))] []=some (Ac false,[]):=by
 refine fnO v96 ?_;have h1:=X9 (A:=A) l hl h;unfold v96;simp(disch:=try exact zd) [h1]
theorem ZZ (l:List Exp)(hl:l.length<=687194767360)(h:∀x∈l,(K A).call 47 [expV x] []=some (Ac true,[])):(K A).call 148 [BX l,.sc (.c (.fn 100 [] []))] []=some (intV (-1),[]):=by
 refine fnO v148 ?_;have hn:∀x∈l,(K A).call 100 [expV x] []=some (Ac false,[]):=by
  intro x hx;have h1:=h x hx;refine fnO v100 ?_;unfold v100;simp(disch:=try exact zd) [h1]
 unfold v148;simp(disch:=try exact zd) [-getElem?_pos];refine Am (fun i=>⟨[(0,BX l),(1,.sc (.c (.fn 100 [] []))),(7,intV l.length),(8,intV i)],[]⟩) l.length ?_ ?_ ?_
 .simp
 .intro i hi
  obtain⟨x,hx⟩:=Ab hi;have h1:=hn x (qc hx);unfold H0;simp(disch:=try exact zd) [hi,hx,h1,-getElem?_pos]
 .unfold H0
  simp(disch:=try exact zd) [-getElem?_pos]
theorem Zhb (l:List Exp)(hl:l.length<=687194767360)(h:∀x∈l,(K A).call 47 [expV x] []=some (Ac true,[])):(K A).call 98 [BX l,.sc (.c (.fn 100 [] []))] []=some (Ac false,[]):=by
 refine fnO v98 ?_;have h1:=ZZ (A:=A) l hl h;unfold v98;simp(disch:=try exact zd) [h1]
theorem Yb:(K A).call 95 [.ag [zi,zs,zi,zi,.c (.sl [])],.ag [zi,zs,zi,zi,.c (.sl [])]] []=some (Ac true,[]):=Ek (n:=20) (by kernel_rfl)
variable {A:Ag}
theorem Zew (s:Str)(n:Nat)(h:C1 s n):(K A).call 142 [strV s,intV n] []=some (Ac true,[]):=by
 refine fnO v142 ?_;unfold v142;rcases h with ⟨rfl,rfl⟩|⟨rfl,rfl⟩|⟨h1,h2,h3,h4⟩
 .simp(disch:=try exact zd) [-getElem?_pos]
 .simp(disch:=try exact zd) [-getElem?_pos]
 .have hn:(K A).call 141 [strV s,.sc (.c (.int .u8 65)),.sc (.c (.int .u8 90))] []=some (Ac true,[]):=Lh (A:=A) 65 90 s h3
  have h4':(n:Int)<=4:=oz
  simp(disch:=try exact zd) [h1,h2,hn,h4',-getElem?_pos]
theorem Xi (f:Nat)(l:List Ty)(hl:l.length<=687194767360)(h:∀x∈l,(K A).call f [tyV x] []=some (Ac false,[])):(K A).call 196 [tysV l,.sc (.c (.fn f [] []))] []=some (intV (-1),[]):=by
 refine fnO v196 ?_;unfold v196;simp(disch:=try exact zd) [-getElem?_pos];refine Am (fun i=>⟨[(0,tysV l),(1,.sc (.c (.fn f [] []))),(7,intV l.length),(8,intV i)],[]⟩) l.length ?_ ?_ ?_
 .simp
 .intro i hi
  obtain⟨x,hx⟩:=Ab hi;have h1:=h x (qc hx);unfold Po;simp(disch:=try exact zd) [hi,hx,h1,-getElem?_pos]
 .unfold Po
  simp(disch:=try exact zd) [-getElem?_pos]
theorem SW (f:Nat)(l:List Ty)(hl:l.length<=687194767360)(h:∀x∈l,(K A).call f [tyV x] []=some (Ac false,[])):(K A).call 143 [tysV l,.sc (.c (.fn f [] []))] []=some (Ac false,[]):=by
 refine fnO v143 ?_;have h1:=Xi (A:=A) f l hl h;unfold v143;simp(disch:=try exact zd) [h1]
theorem Zey {s:Str}{n:Nat}(h:C1 s n):s≠[]:=by
 rcases h with ⟨rfl,_⟩|⟨rfl,_⟩|⟨_,_,h3,_⟩
 .simp
 .simp
 .rintro rfl
  obtain⟨_,⟨c,hc,_⟩,_⟩:=h3;cases hc
theorem nameOk.ne {lo hi:Nat}{s:Str}(h:nameOk lo hi s):s≠[]:=by
 rintro rfl;obtain⟨_,⟨c,hc,_⟩,_⟩:=h;cases hc
theorem wrT.arg {t x:Ty}(h:wrT t)(hx:x∈t.args):wrT x:=⟨h.1.arg hx,Ty.all.arg h.2 hx⟩
theorem wrT.kinds {t:Ty}(h:wrT t):(t.kind=4/\t.id=0/\t.home=0/\C1 t.name t.args.length)\/(t.kind=5/\t.id=0/\t.home=0/\t.args=[]/\nameOk 97 122 t.name):=by
 obtain⟨h1,h2,h3,h4,h5,h6,h7,h8⟩:=h.1.one;have h9:=Ty.all.one h.2;by_cases k4:t.kind=4
 .exact .inl ⟨k4,h5 k4⟩
 .by_cases k5:t.kind=5
  .exact .inr ⟨k5,h6 k5⟩
  .by_cases k1:t.kind=1
   .have:=h1 k1
    omega
   .by_cases k2:t.kind=2
    .have a:=h2 k2
     have b:=(h4 k2).1;omega
    .omega
theorem Zhn (t:Ty):wrT t->t.size<=687194767360->(K A).call 93 [tyV t] []=some (Ac true,[]):=by
 induction t using Ty.ind with
 |h t ih=>
 intro h hl;have hal:=t.args_lt;refine fnO v93 ?_;rcases h.kinds with ⟨k,i0,h0,hc⟩|⟨k,i0,h0,ha,hn⟩
 .have hne:=Zey hc
  have hcv:=Zew (A:=A) t.name t.args.length hc;have hbad:∀x∈t.args,(K A).call 144 [tyV x] []=some (Ac false,[]):=fun x hx=>by
   have h1:=ih x hx (h.arg hx) (by have:=Ty.arg_lt hx;omega);refine fnO v144 ?_;unfold v144;simp(disch:=try exact zd) [h1]
  have hnone:=SW (A:=A) 144 t.args oz hbad;unfold v93;simp(disch:=try exact zd) [k,i0,h0,hne,hcv,hnone,-getElem?_pos]
 .have hne:=hn.ne
  have hnv:(K A).call 141 [strV t.name,.sc (.c (.int .u8 97)),.sc (.c (.int .u8 122))] []=some (Ac true,[]):=Lh (A:=A) 97 122 t.name hn;unfold v93;simp(disch:=try exact zd) [k,i0,h0,ha,hne,hnv,-getElem?_pos]
theorem Y6 (t:Ty):wrT t->t.size<=687194767360->(K A).call 94 [tyV t] []=some (Ac true,[]):=by
 induction t using Ty.ind with
 |h t ih=>
 intro h hl;have hal:=t.args_lt;refine fnO v94 ?_;have hbad:∀x∈t.args,(K A).call 145 [tyV x] []=some (Ac false,[]):=fun x hx=>by
  have h1:=ih x hx (h.arg hx) (by have:=Ty.arg_lt hx;omega);refine fnO v145 ?_;unfold v145;simp(disch:=try exact zd) [h1]
 have hnone:=SW (A:=A) 145 t.args oz hbad;unfold v94;rcases h.kinds with ⟨k,_⟩|⟨k,_⟩
 .simp(disch:=try exact zd) [k,hnone,-getElem?_pos]
 .simp(disch:=try exact zd) [k,hnone,-getElem?_pos]
theorem StE.child {e x:Exp}(h:StE e)(hx:x∈e.children):StE x:=⟨h.ok.child hx,h.rz.child hx,h.lf.child hx,h.ps.child hx⟩
theorem ZgJ (e:Exp):StE e->e.weight<=687194767360->(K A).call 47 [expV e] []=some (Ac true,[]):=by
 induction e using Exp.ind with
 |h e ih=>
 intro hv hl;refine fnO v47 ?_;obtain⟨f1,f2,⟨f3,f4,f5⟩,f6,⟨f7,f8⟩,f9,f10⟩:=hv.lf.2.one;obtain⟨g1,g2,g3,g4⟩:=hv.lf.1.one;obtain⟨hpos,hpa⟩:=hv.ps.one;have hs:=hv.ok.1.one;have hz:=Yb (A:=A);have hal:=e.children_le;rw[Exp.children_len]at hal;have hnn:¬e.num<0:=oz
 have hnb:¬999999999<e.num:=oz
 have hch:=Zhb (A:=A) e.children (by rw[Exp.children_len];omega) (fun x hx=>ih x hx (hv.child hx) (by have:=Exp.child_lt hx;omega));have ht9:e.kind≠9->wc e.ty.row=[zi,zs,zi,zi,.c (.sl [])]:=fun k=>by rw[f7 k];simp[tz,Ty.row,Ty.rows]
 have hk11:e.kind=1\/e.kind=2\/e.kind=3\/e.kind=4\/e.kind=5\/e.kind=6\/e.kind=7\/e.kind=8\/e.kind=9\/e.kind=10\/e.kind=11:=oz
 rcases hk11 with h|h|h|h|h|h|h|h|h|h|h
 .have hkl:e.kids.length=0:=by have:=hs.2.2;rw [h] at this;exact this
  have ha:e.arms=[]:=hs.1.2.1 oz;have hk:e.kids=[]:=qS.1 hkl;have hlo:=H1 (A:=A) e.name (g1 (by unfold lowK;omega));have htr:=ht9 oz;have hnum:=f3 oz;have hc:=D8 (A:=A) e hk ha;rw[show e.children=[] by simp[Exp.children,hk,ha]]at hch;simp only[BX,rows0]at hch;unfold v47;simp(maxSteps:=9^7) (disch:=try exact zd) [h,hpos,hk,ha,hlo,hz,htr,hnum,hc,hch,-getElem?_pos]
  refine Am (fun i=>⟨[(1,.sc (.ptr 64 0)),(127,.sc (.c (.sl []))),(128,intV 0),(129,intV i)],[(64,some (.box (wc e.row)))]⟩) 0 sy (fun i hi=>by omega) ?_;unfold Da;simp(maxSteps:=9^7) (disch:=try exact zd) [hc,hch,-getElem?_pos]
 .have hkl:e.kids.length=0:=by have:=hs.2.2;rw [h] at this;exact this
  have ha:e.arms=[]:=hs.1.2.1 oz;have hk:e.kids=[]:=qS.1 hkl;have hlo:=U6 (A:=A) e.name (g2 h);have htr:=ht9 oz;have hnum:=f3 oz;have hc:=D8 (A:=A) e hk ha;rw[show e.children=[] by simp[Exp.children,hk,ha]]at hch;simp only[BX,rows0]at hch;unfold v47;simp(maxSteps:=9^7) (disch:=try exact zd) [h,hpos,hk,ha,hlo,hz,htr,hnum,hc,hch,-getElem?_pos]
  refine Am (fun i=>⟨[(1,.sc (.ptr 64 0)),(127,.sc (.c (.sl []))),(128,intV 0),(129,intV i)],[(64,some (.box (wc e.row)))]⟩) 0 sy (fun i hi=>by omega) ?_;unfold Da;simp(maxSteps:=9^7) (disch:=try exact zd) [hc,hch,-getElem?_pos]
 .have hkl:e.kids.length=0:=by have:=hs.2.2;rw [h] at this;exact this
  have ha:e.arms=[]:=hs.1.2.1 oz;have hk:e.kids=[]:=qS.1 hkl;have hn:e.name=[]:=g3 (by unfold lowK;omega) oz;have htr:=ht9 oz;have hc:=D8 (A:=A) e hk ha;rw[show e.children=[] by simp[Exp.children,hk,ha]]at hch;simp only[BX,rows0]at hch;by_cases hnum:e.num=0
  .unfold v47
   simp(maxSteps:=9^7) (disch:=try exact zd) [h,hpos,hk,ha,hn,hz,htr,hnn,hnb,hnum,hc,hch,-getElem?_pos];refine Am (fun i=>⟨[(1,.sc (.ptr 64 0)),(127,.sc (.c (.sl []))),(128,intV 0),(129,intV i)],[(64,some (.box (wc e.row)))]⟩) 0 sy (fun i hi=>by omega) ?_;unfold Da;simp(maxSteps:=9^7) (disch:=try exact zd) [hc,hch,-getElem?_pos]
  .unfold v47
   simp(maxSteps:=9^7) (disch:=try exact zd) [h,hpos,hk,ha,hn,hz,htr,hnn,hnb,hnum,hc,hch,-getElem?_pos];refine Am (fun i=>⟨[(1,.sc (.ptr 64 0)),(127,.sc (.c (.sl []))),(128,intV 0),(129,intV i)],[(64,some (.box (wc e.row)))]⟩) 0 sy (fun i hi=>by omega) ?_;unfold Da;simp(maxSteps:=9^7) (disch:=try exact zd) [hc,hch,-getElem?_pos]
 .have hkl:e.kids.length=1:=by have:=hs.2.2;rw [h] at this;exact this
  have ha:e.arms=[]:=hs.1.2.1 oz;obtain⟨x,hk⟩:∃x,e.kids=[x]:=by
   match hkk:e.kids,hkl with
   |[x],_=>exact⟨x,rfl⟩
  have hlo:=H1 (A:=A) e.name (g1 (by unfold lowK;omega));have htr:=ht9 oz;have hnum:=f3 oz;have hc:=Ch (A:=A) e (by simp[hk]) hl;unfold v47;simp(maxSteps:=9^7) (disch:=try exact zd) [h,hpos,hk,ha,hlo,hz,htr,hnum,hc,hch,-getElem?_pos]
  refine Am (fun i=>⟨[(1,.sc (.ptr 64 0)),(127,.sc (.c (.sl []))),(128,intV 0),(129,intV i)],[(64,some (.box (wc e.row)))]⟩) 0 sy (fun i hi=>by omega) ?_;unfold Da;simp(maxSteps:=9^7) (disch:=try exact zd) [hc,hch,-getElem?_pos]
 .have hkl:e.kids.length=2:=by have:=hs.2.2;rw [h] at this;exact this
  have ha:e.arms=[]:=hs.1.2.1 oz;obtain⟨x,y,hk⟩:∃x y,e.kids=[x,y]:=by
   match hkk:e.kids,hkl with
   |[x,y],_=>exact⟨x,y,rfl⟩
  have hn:e.name=[]:=g3 (by unfold lowK;omega) oz;have htr:=ht9 oz;have hnum:=f3 oz;have hc:=Ch (A:=A) e (by simp[hk]) hl;unfold v47;simp(maxSteps:=9^7) (disch:=try exact zd) [h,hpos,hk,ha,hn,hz,htr,hnum,hc,hch,-getElem?_pos]
  refine Am (fun i=>⟨[(1,.sc (.ptr 64 0)),(127,.sc (.c (.sl []))),(128,intV 0),(129,intV i)],[(64,some (.box (wc e.row)))]⟩) 0 sy (fun i hi=>by omega) ?_;unfold Da;simp(maxSteps:=9^7) (disch:=try exact zd) [hc,hch,-getElem?_pos]
 .have hkl:e.kids.length=2:=by have:=hs.2.2;rw [h] at this;exact this
  have ha:e.arms=[]:=hs.1.2.1 oz;obtain⟨x,y,hk⟩:∃x y,e.kids=[x,y]:=by
   match hkk:e.kids,hkl with
   |[x,y],_=>exact⟨x,y,rfl⟩
  have hlo:=H1 (A:=A) e.name (g1 (by unfold lowK;omega));have htr:=ht9 oz;have hnum:=f3 oz;have hc:=Ch (A:=A) e (by simp[hk]) hl;unfold v47;simp(maxSteps:=9^7) (disch:=try exact zd) [h,hpos,hk,ha,hlo,hz,htr,hnum,hc,hch,-getElem?_pos]
  refine Am (fun i=>⟨[(1,.sc (.ptr 64 0)),(127,.sc (.c (.sl []))),(128,intV 0),(129,intV i)],[(64,some (.box (wc e.row)))]⟩) 0 sy (fun i hi=>by omega) ?_;unfold Da;simp(maxSteps:=9^7) (disch:=try exact zd) [hc,hch,-getElem?_pos]
 .have hkl:e.kids.length=2:=by have:=hs.2.2;rw [h] at this;exact this
  have ha:e.arms=[]:=hs.1.2.1 oz;obtain⟨x,y,hk⟩:∃x y,e.kids=[x,y]:=by
   match hkk:e.kids,hkl with
   |[x,y],_=>exact⟨x,y,rfl⟩
  have hlo:=H1 (A:=A) e.name (g1 (by unfold lowK;omega));have htr:=ht9 oz;have hnum:=f3 oz;have hc:=Ch (A:=A) e (by simp[hk]) hl;unfold v47;simp(maxSteps:=9^7) (disch:=try exact zd) [h,hpos,hk,ha,hlo,hz,htr,hnum,hc,hch,-getElem?_pos]
  refine Am (fun i=>⟨[(1,.sc (.ptr 64 0)),(127,.sc (.c (.sl []))),(128,intV 0),(129,intV i)],[(64,some (.box (wc e.row)))]⟩) 0 sy (fun i hi=>by omega) ?_;unfold Da;simp(maxSteps:=9^7) (disch:=try exact zd) [hc,hch,-getElem?_pos]
 .have hkl:e.kids.length=1:=by have:=hs.2.2;rw [h] at this;exact this
  obtain⟨x,hk⟩:∃x,e.kids=[x]:=by
   match hkk:e.kids,hkl with
   |[x],_=>exact⟨x,rfl⟩
  have hn:e.name=[]:=g3 (by unfold lowK;omega) oz;have htr:=ht9 oz;have hnum:=f3 oz;have hc:=Ch (A:=A) e (by simp[hk]) hl;have hne:e.arms≠[]:=f9 h;have hpa0:0<e.arms.length:=qay.2 hne;unfold v47;simp(maxSteps:=9^7) (disch:=try exact zd) [h,hpos,hk,hn,hz,htr,hnum,hpa0,-getElem?_pos]
  refine Am (fun i=>⟨[(1,.sc (.ptr 64 0)),(127,.sc (.c (.sl (Exp.armRows e.arms)))),(128,intV e.arms.length),(129,intV i)],[(64,some (.box (wc e.row)))]⟩) e.arms.length sy (fun i hi=>?_) ?_
  .obtain ⟨p,hp⟩:=Ab hi
   have hpm:=qc hp;have q1:=hpa p hpm;obtain⟨q2,q3⟩:=f10 p hpm;have hu:=U6 (A:=A) p.1.con q2;have hav:=ZgC (A:=A) p.1.vars oz (g4 p hpm);have q3':¬(4:Int)<p.1.vars.length:=oz;have q3'':¬4<p.1.vars.length:=oz;unfold Da;simp(maxSteps:=9^7) (disch:=try exact zd) [hi,hp,q1,q3',q3'',hu,hav,-getElem?_pos]
  .unfold Da
   simp(maxSteps:=9^7) (disch:=try exact zd) [hc,hch,-getElem?_pos]
 .have hkl:e.kids.length=1:=by have:=hs.2.2;rw [h] at this;exact this
  have ha:e.arms=[]:=hs.1.2.1 oz;obtain⟨x,hk⟩:∃x,e.kids=[x]:=by
   match hkk:e.kids,hkl with
   |[x],_=>exact⟨x,rfl⟩
  have hn:e.name=[]:=g3 (by unfold lowK;omega) oz;have hw:=f8 h;have hv1:=Zhn (A:=A) e.ty hw f6;have hv2:=Y6 (A:=A) e.ty hw f6;have hnum:=f3 oz;have hc:=Ch (A:=A) e (by simp[hk]) hl;unfold v47;simp(maxSteps:=9^7) (disch:=try exact zd) [h,hpos,hk,ha,hn,hv1,hv2,hnum,hc,hch,-getElem?_pos]
  refine Am (fun i=>⟨[(1,.sc (.ptr 64 0)),(127,.sc (.c (.sl []))),(128,intV 0),(129,intV i)],[(64,some (.box (wc e.row)))]⟩) 0 sy (fun i hi=>by omega) ?_;unfold Da;simp(maxSteps:=9^7) (disch:=try exact zd) [hc,hch,-getElem?_pos]
 .have hkl:e.kids.length=0:=by have:=hs.2.2;rw [h] at this;exact this
  have ha:e.arms=[]:=hs.1.2.1 oz;have hk:e.kids=[]:=qS.1 hkl;have hn:e.name=[]:=g3 (by unfold lowK;omega) oz;have htr:=ht9 oz;have hnum:=f3 oz;have hc:=D8 (A:=A) e hk ha;rw[show e.children=[] by simp[Exp.children,hk,ha]]at hch;simp only[BX,rows0]at hch;unfold v47;simp(maxSteps:=9^7) (disch:=try exact zd) [h,hpos,hk,ha,hn,hz,htr,hnum,hc,hch,-getElem?_pos]
  refine Am (fun i=>⟨[(1,.sc (.ptr 64 0)),(127,.sc (.c (.sl []))),(128,intV 0),(129,intV i)],[(64,some (.box (wc e.row)))]⟩) 0 sy (fun i hi=>by omega) ?_;unfold Da;simp(maxSteps:=9^7) (disch:=try exact zd) [hc,hch,-getElem?_pos]
 .have hkl:e.kids.length=1:=by have:=hs.2.2;rw [h] at this;exact this
  have ha:e.arms=[]:=hs.1.2.1 oz;obtain⟨x,hk⟩:∃x,e.kids=[x]:=by
   match hkk:e.kids,hkl with
   |[x],_=>exact⟨x,rfl⟩
  have hn:e.name=[]:=g3 (by unfold lowK;omega) oz;have htr:=ht9 oz;have hnum:=f3 oz;have hc:=Ch (A:=A) e (by simp[hk]) hl;unfold v47;simp(maxSteps:=9^7) (disch:=try exact zd) [h,hpos,hk,ha,hn,hz,htr,hnum,hc,hch,-getElem?_pos]
  refine Am (fun i=>⟨[(1,.sc (.ptr 64 0)),(127,.sc (.c (.sl []))),(128,intV 0),(129,intV i)],[(64,some (.box (wc e.row)))]⟩) 0 sy (fun i hi=>by omega) ?_;unfold Da;simp(maxSteps:=9^7) (disch:=try exact zd) [hc,hch,-getElem?_pos]
end Go.Vs.Tryz
namespace Go.Vs
theorem ZhF {C:Ctx}{a b c d:VCode}{Q:Ex->St->Prop}{s:St}(s1:St)(h1:wp C (.seq a b) (fun e s=>e=.normal/\s=s1) s)(h2:wp C (.seq c d) Q s1):wp C (.seq a (.seq (.seq b c) d)) Q s:=by
 rw[wp_seq]at h1 |-;refine wp_mono h1 ?_;intro e s' h;cases e with
 |normal=>
  simp only[BO]at h |-;rw[wp_seq,wp_seq];refine wp_mono h ?_;rintro e2 s2 ⟨rfl,rfl⟩;simp only[BO];rw[wp_seq]at h2;exact h2
 |exit i=>exact absurd h.1 sy
 |ret=>exact absurd h.1 sy
end Go.Vs
namespace Go.Vs.Tryz
open Go Go.Vs
variable {A:Ag}
def allA (e:Exp)(out:List Str)(i:Nat):List Str:=out++(if e.name=[] then [] else [e.name])++((e.arms.take i).map fun a=>a.1.vars).flatten
def allC (e:Exp)(out:List Str)(i:Nat):List Str:=allA e out e.arms.length++((e.children.take i).map An).flatten
theorem UR {e:Exp}{out:List Str}{i:Nat}{a:ArmH×Exp}(h:e.arms[i]?=some a):allA e out (i+1)=allA e out i++a.1.vars:=by
 unfold allA;rw[AP h];simp
theorem Mf {e x:Exp}{out:List Str}{i:Nat}(h:e.children[i]?=some x):allC e out (i+1)=allC e out i++An x:=by
 unfold allC;rw[AP h];simp
theorem QC (e:Exp)(out:List Str):allC e out e.children.length=out++An e:=by
 unfold allC allA;rw[qaM,qaM,Pm];simp
theorem Hx (e:Exp):(An e).length<=e.weight:=by
 induction e using Exp.ind with
 |h e ih=>
  have h1:((e.children.map An).flatten).length<=(e.children.map Exp.weight).sum:=by
   generalize e.children=l at ih
   induction l with
   |nil=>simp
   |cons x l ihl=>
    have:=ih x sy;have:=ihl fun y hy=>ih y (by simp[hy]);simp only[qt,qL,qz,qQ];omega
  have h2:((e.arms.map fun a=>a.1.vars).flatten).length=(e.arms.map fun a=>a.1.vars.length).sum:=by
   simp[qaT];congr 1
  have h3:(if e.name=[] then [] else [e.name]).length<=1:=by split<;>simp
  rw[Pm,qz,qz,h2,e.weight_eq];omega
theorem Zct {e:Exp}{out:List Str}{i j:Nat}(h:i<=j):(allA e out i).length<=(allA e out j).length:=by
 obtain⟨k,rfl⟩:=Nat.exists_eq_add_of_le h
 induction k with
 |zero=>exact qg _
 |succ k ih=>
  refine qr (ih oz) ?_;by_cases hk:i+k<e.arms.length
  .obtain ⟨a,ha⟩:=Ab hk
   rw[<-qaE,UR ha,qz];omega
  .unfold allA
   rw[qh oz,qh oz];exact qg _
theorem Wy {e:Exp}{out:List Str}{i j:Nat}(h:i<=j):(allC e out i).length<=(allC e out j).length:=by
 obtain⟨k,rfl⟩:=Nat.exists_eq_add_of_le h
 induction k with
 |zero=>exact qg _
 |succ k ih=>
  refine qr (ih oz) ?_;by_cases hk:i+k<e.children.length
  .obtain ⟨a,ha⟩:=Ab hk
   rw[<-qaE,Mf ha,qz];omega
  .unfold allC
   rw[qh oz,qh oz];exact qg _
theorem OK (e:Exp)(out:List Str){i:Nat}(h:i<=e.children.length):(allC e out i).length<=out.length+e.weight:=by
 refine qr (Wy h) ?_;have:=Hx e;rw[QC,qz];omega
theorem Se (e:Exp)(out:List Str):∀i,i<=e.children.length->(allC e out i).length<=out.length+1+(e.arms.map fun a=>a.1.vars.length).sum+((e.children.take i).map Exp.weight).sum
 |0,_=>by
  have h2:((e.arms.map fun a=>a.1.vars).flatten).length=(e.arms.map fun a=>a.1.vars.length).sum:=by
   simp[qaT];congr 1
  have h3:(if e.name=[] then [] else [e.name]).length<=1:=by split<;>simp
  unfold allC allA;simp only[qaM,List.take_zero,qX,List.flatten_nil,qK,qz,h2,qaJ];omega
 |i+1,hi=>by
  obtain⟨x,hx⟩:=Ab (l:=e.children) (i:=i) oz;have h1:=Se e out i oz;have h2:=Hx x;rw[Mf hx,AP hx,qai,qaF,qz];simp only[qt,qX,qQ,qaJ];omega
theorem ZdM {e x:Exp}(out:List Str){i:Nat}(hx:e.children[i]?=some x):(allC e out i).length+x.weight<=out.length+e.weight:=by
 have hi:=(qf.1 hx).1;have h1:=Se e out i oz;have h2:=Ul (e:=e) (i:=i+1);rw[AP hx,qai,qaF]at h2;simp only[qt,qX,qQ,qaJ]at h2;rw[e.weight_eq];omega
theorem TY (e:Exp)(out:List Str){i:Nat}(h:i<=e.arms.length):(allA e out i).length<=out.length+e.weight:=by
 refine qr (Zct h) ?_;have h1:=OK e out (qaa e.children.length);have h2:allC e out 0=allA e out e.arms.length:=by unfold allC;simp
 rw[h2]at h1;exact h1
theorem ZgP (e:Exp):∀(out:List Str),out.length+e.weight<=687194767360->
 (K A).call 208 [.sc (.arr 0 out.length),expV e] [.arr 1 (wr (Ak out)) 0]=some (.sc (.arr 0 (out++An e).length),[.arr 1 (wr (Ak (out++An e))) 0]):=by
 induction e using Exp.ind with
 |h e ih=>
 intro out hl;refine fnO v208 ?_;have hle:=e.children_le;have hc:=E7 (A:=A) e (by rw[e.children_len]at hle;omega);have hwp:=e.weight_pos;have hb0:=TY e out (qaa _);unfold v208;refine D3 ⟨[(0,.sc (.arr 0 out.length)),(3,.sc (.ptr 64 0))],[(0,some (.arr 1 (wr (Ak out)) 0)),(64,some (.box (wc e.row)))]⟩ sy ?_
 refine ZhF ⟨[(0,.sc (.arr 0 (allA e out 0).length)),(3,.sc (.ptr 64 0)),(5,intV 0)],[(0,some (.arr 1 (wr (Ak (allA e out 0))) 0)),(64,some (.box (wc e.row)))]⟩ ?_ ?_
 .by_cases h0:e.name=[]
  .have h1:allA e out 0=out:=by unfold allA;simp [h0]
   rw[h1];simp(disch:=try exact zd) [h0]
  .have h1:allA e out 0=out++[e.name]:=by unfold allA;simp [h0]
   rw[h1];simp(disch:=try exact zd) [h0]
 .simp (disch:=try exact zd)
  refine Am (fun i=>⟨[(0,.sc (.arr 0 (allA e out i).length)),(3,.sc (.ptr 64 0)),(5,intV i)],[(0,some (.arr 1 (wr (Ak (allA e out i))) 0)),(64,some (.box (wc e.row)))]⟩) e.arms.length ?_ ?_ ?_
  .simp
  .intro i hi
   obtain⟨a,ha⟩:=Ab hi;have hb:=TY e out (i:=i+1) oz;have hs:=UR (out:=out) ha;rw[hs]at hb |-;generalize allA e out i=l at *
   rw[qz]at hb;have hi2:(i:Int)<e.arms.length:=oz;have hi3:i<687194767360:=(by rw[e.children_len]at hle;omega);unfold Kl;simp(disch:=try exact zd) [hi,hi2,ha,-getElem?_pos]
  .have h0:allA e out e.arms.length=allC e out 0:=by unfold allC;simp
   rw[h0];unfold Kl;simp(disch:=try exact zd) [hc];refine Am (fun i=>⟨[(0,.sc (.arr 0 (allC e out i).length)),(6,.sc (.arr 2016 e.children.length)),(7,intV i)],[(0,some (.arr 1 (wr (Ak (allC e out i))) 0)),(2016,some (.arr 11 (wr (Exp.rows e.children)) 0))]⟩) e.children.length ?_ ?_ ?_
   .simp
   .intro i hi
    obtain⟨x,hx⟩:=Ab hi;have hm:=qc hx;have hb:=OK e out (i:=i+1) oz;have hs:=Mf (out:=out) hx;have hbi:=OK e out (i:=i) oz;have hrec:=ih x hm (allC e out i) (by have:=ZdM out hx;omega);rw[<-hs]at hrec;have hlen:(allC e out i).length<=(allC e out (i+1)).length:=Wy oz;have hi2:(i:Int)<(e.kids.length:Int)+e.arms.length:=(by rw[e.children_len]at hi;omega)
    have hi3:i<687194767360:=oz;unfold MZ;simp(disch:=try exact zd) [hi,hi2,hx,hrec,hlen,-getElem?_pos]
   .rw [QC]
    unfold MZ;simp(disch:=try exact zd)
theorem Kj (e:Exp)(hl:e.weight<=687194767360):(K A).call 162 [expV e] []=some (AA (An e),[]):=by
 refine fnO v162 ?_;have h:=ZgP (A:=A) e [] (by simpa using hl);have hn:Ak []=[]:=rfl;simp[hn]at h;unfold v162;simp[h,hn]
theorem MM (taken:List Str)(ht:taken.length<=584115552256):(K A).call 161 [AA taken] []=some (strV (Au 0 taken),[]):=by
 refine fnO v161 ?_;have h:(K A).call 110 [intV 0,AA taken] []=some (strV (Au 0 taken),[]):=WA 0 taken oz ht;unfold v161;simp[h]
theorem Md (n x:Str)(b s:Exp)(hb:b.wf)(hs:s.wf)(hbl:b.weight<=687194767360)(hsl:s.weight<=687194767360):(K A).call 160 [strV n,strV x,expV b,expV s] []=some (Ac (decide (n∈Ad b/\x∈Ad s)),[]):=by
 refine fnO v160 ?_;have h1:=Iz (A:=A) b hb hbl;have h2:=Iz (A:=A) s hs hsl;rw[Ie b hb]at h1;rw[Ie s hs]at h2;have l1:(Ad b).length<=687194767360:=by have:=D4 b;omega
 have l2:(Ad s).length<=687194767360:=by have:=D4 s;omega
 have g1:=FZ (A:=A) (Ad b) n oz;have g2:=FZ (A:=A) (Ad s) x oz;generalize Ad b=P at *
 generalize Ad s=Q at *
 unfold v160;by_cases q1:n∈P
 .by_cases q2:x∈Q
  .simp(disch:=try exact zd) [h1,h2,g1,g2,q1,q2]
  .simp(disch:=try exact zd) [h1,h2,g1,g2,q1,q2]
 .simp(disch:=try exact zd) [h1,h2,g1,g2,q1]
end Go.Vs.Tryz
