/- Substitution by the program, walked, 2. -/
import Derived.Test.YtccmnfpbcmccpaaGreatDoorRAp
set_option linter.unusedSimpArgs false
set_option linter.unusedVariables false
set_option linter.deprecated false
set_option maxHeartbeats 64000000
set_option maxRecDepth 20000
namespace Go.Vs.Tryz
open Go Go.Vs
variable {A:Af}
theorem TY (x:Str)(b:Exp)(hb:shp b)(hbl:(Ag b).length<=100000000000)(hbf:∀s∈Ag b,s.length<=1000)(hxl:x.length<=1000):∀(n:Nat) (e:Exp),e.weight<=n->e.weight<=100000000000->shp e->properP e->nmL e->
 (K A).call 202 [.ag (Bm x b (Ag b)),expV e] []=some (expV (subN n e x b),[])
 |0,e,h,_,_,_,_=>by have:=e.weight_pos;omega
 |n+1,e,hn,hl,hs,hp,hnm=>by
  refine fnO v202 ?_;rw[Fq];by_cases hk:e.kind=1
  .rw [if_pos hk]
   have hrb:=DA b;unfold v202;by_cases hx:e.name=x
   .rw [if_pos hx]
    simp(maxSteps:=9^7) (disch:=try exact zd) [hk,hx,hrb,-getElem?_pos]
   .rw [if_neg hx]
    simp(maxSteps:=9^7) (disch:=try exact zd) [hk,hx,-getElem?_pos]
  rw[if_neg hk];have hP:=Fo (x:=x) (b:=b) hs hp;have hW:=Va hP;have hN:=WG (x:=x) (b:=b) hs hp hnm (by omega);have hrec:∀y∈(Bd x (Ag b) e).children,(K A).call 202 [.ag (Bm x b (Ag b)),expV y] []=some (expV (subN n y x b),[]):=by
   intro y hy;obtain⟨i,hi⟩:=qn.1 hy;obtain⟨x0,h0⟩:=Ae (l:=e.children) (i:=i) (by rw[<-DM hP];exact(qf.1 hi).1);have hK:=hP.kids i x0 y h0 hi;have h1:=Exp.child_lt (qc h0);have h2:=hK.weight;exact TY x b hb hbl hbf hxl n y (by omega) (by omega) hK.shape hK.proper (hN y hy)
  have hs1:=hP.head.shp1 hk hs.one;have hkk:=hP.head.1;have hkl:=hP.head.2.2.2.1;by_cases h4:e.kind=4\/e.kind=6\/e.kind=7
  .have hbd:=ZbX (A:=A) x b (Ag b) e hs h4 (by omega) (by omega) hnm hbf hxl
   have hpe:Bd x (Ag b) e=CG x (Ag b) e:=(by unfold Bd;rw[if_pos h4]);rw[hpe]at hP hW hN hrec hs1 hkk hkl |-;have hne:(CG x (Ag b) e).kids≠[]:=by
    intro h;have h5:=hs.one.2.2;rw[h]at hkl;unfold DN at h5;simp only[qV]at hkl;split at h5
    .omega
    .rw[if_pos (by omega)]at h5;omega
   generalize CG x (Ag b) e=e' at *
   have hc:=B7 (A:=A) e' hne (by omega);rw[e'.children_len]at hc;have hCl:=subC_len n e' x b;have hw:=FM (A:=A) e' (subC n e' x b) hCl (by omega);have hrow':=DA e'
   have hrowW:wc (AN e' (subC n e' x b)).row=[.c (.int .i64 e'.kind),.c (.int .i64 e'.pos),.c (.str e'.name),.c (.int .i64 e'.num),.c (.sl (Exp.rows ((subC n e' x b).take e'.kids.length))),.c (.sl (Exp.armRows (AE e'.arms ((subC n e' x b).drop e'.kids.length)))),.c (.int .i64 e'.ty.kind),.c (.str e'.ty.name),.c (.int .i64 e'.ty.id),.c (.int .i64 e'.ty.home),.c (.sl (Ty.rows e'.ty.args))]:=(by rw[Exp.row_eq];rfl)
   have hkW:((subC n e' x b).take e'.kids.length).length=e'.kids.length:=(by rw[qX,hCl];omega);have haW:(AE e'.arms ((subC n e' x b).drop e'.kids.length)).length=e'.arms.length:=(by rw[armsW_len,qae,hCl];omega);simp only[expV,hrow']at hc hw;unfold v202;rcases h4 with h4|h4|h4
   .rw [h4] at hkk
    simp only[expV,hrow']at hbd;simp(maxSteps:=9^7) (disch:=try exact zd) [hk,h4,hbd,hc,-getElem?_pos];refine wp_mono (IP (A:=A) x b (Ag b) n e' hs1.1 (by omega) hrec) ?_;rintro _ _ ⟨rfl,rfl⟩;simp(maxSteps:=9^7) (disch:=try exact zd) [hw,hrowW,hCl,hkW,haW,-getElem?_pos]
   .rw [h4] at hkk
    simp only[expV,hrow']at hbd;simp(maxSteps:=9^7) (disch:=try exact zd) [hk,h4,hbd,hc,-getElem?_pos];refine wp_mono (IP (A:=A) x b (Ag b) n e' hs1.1 (by omega) hrec) ?_;rintro _ _ ⟨rfl,rfl⟩;simp(maxSteps:=9^7) (disch:=try exact zd) [hw,hrowW,hCl,hkW,haW,-getElem?_pos]
   .rw [h4] at hkk
    simp only[expV,hrow']at hbd;simp(maxSteps:=9^7) (disch:=try exact zd) [hk,h4,hbd,hc,-getElem?_pos];refine wp_mono (IP (A:=A) x b (Ag b) n e' hs1.1 (by omega) hrec) ?_;rintro _ _ ⟨rfl,rfl⟩;simp(maxSteps:=9^7) (disch:=try exact zd) [hw,hrowW,hCl,hkW,haW,-getElem?_pos]
  .have hpe4:∀ y z:Exp,(if e.kind=4\/e.kind=6\/e.kind=7 then y else z)=z:=fun y z=>if_neg h4
   have k4:¬e.kind=4:=fun h=>h4 (.inl h);have k6:¬e.kind=6:=fun h=>h4 (.inr (.inl h));have k7:¬e.kind=7:=fun h=>h4 (.inr (.inr h));by_cases h8:e.kind=8
   .have hk1:=hs.one.1.1 h8
    have hpe:Bd x (Ag b) e=.mk e.kind e.pos e.name e.num e.kids (e.arms.map (armP x (Ag b))) e.ty:=(by unfold Bd;rw[if_neg h4,if_pos h8]);rw[hpe]at hP hW hN hrec hs1 hkk hkl |-;have hne:e.kids≠[]:=fun h=>by rw[h]at hk1;simp at hk1
    have hml:=e.children_le;rw[e.children_len]at hml;have harm:∀p∈e.arms,(K A).call 224 [.ag (Bm x b (Ag b)),armV p] []=some (armV (armP x (Ag b) p),[]):=by
     intro p hm;have h1:=Exp.vars_le hm;have h2:=Exp.child_lt (BA hm);obtain⟨j,hj⟩:=qn.1 hm;refine Xf x b (Ag b) p (hp.one p hm) (hs.child (BA hm)) (hp.child (BA hm)) (by omega) (hnm.child (D5 hj)) (fun s hs'=>?_) hbf hxl;refine hnm s (A3.2 (.inr ⟨e.kids.length+j,p.2,D5 hj,.inl ?_⟩));rw[Bt,if_neg (by omega),if_pos ⟨h8,by omega⟩,hk1,show 1+j-1=j by omega,hj];exact hs'
    have hcl:=ZeG (A:=A) e.arms (by omega);have hag:∀(i:Nat) p,e.arms[i]?=some p->(e.arms.map (armP x (Ag b)))[i]?=some (armP x (Ag b) p):=fun i p h=>by rw[qq,h];rfl
    have ham:(e.arms.map (armP x (Ag b))).length=e.arms.length:=(by simp);generalize e.arms.map (armP x (Ag b))=am at *
    obtain⟨e',he'⟩:∃e',e'=Exp.mk e.kind e.pos e.name e.num e.kids am e.ty:=⟨_,rfl⟩;have q1:e'.kids=e.kids:=(by rw[he'];rfl);have q2:e'.arms=am:=(by rw[he'];rfl);have q3:e'.kind=e.kind:=(by rw[he'];rfl);have q4:e'.pos=e.pos:=(by rw[he'];rfl);have q5:e'.name=e.name:=(by rw[he'];rfl);have q6:e'.num=e.num:=(by rw[he'];rfl);have q7:e'.ty=e.ty:=(by rw[he'];rfl);rw[<-he']at hP hW hN hrec hs1 hkk hkl |-
    have hc:=B7 (A:=A) e' (by rw[q1];exact hne) (by omega);rw[e'.children_len]at hc;have hCl:=subC_len n e' x b;have hw:=FM (A:=A) e' (subC n e' x b) hCl (by omega);have hrow':=DA e';have hrow0:=DA e
    have hrowW:wc (AN e' (subC n e' x b)).row=[.c (.int .i64 e'.kind),.c (.int .i64 e'.pos),.c (.str e'.name),.c (.int .i64 e'.num),.c (.sl (Exp.rows ((subC n e' x b).take e'.kids.length))),.c (.sl (Exp.armRows (AE e'.arms ((subC n e' x b).drop e'.kids.length)))),.c (.int .i64 e'.ty.kind),.c (.str e'.ty.name),.c (.int .i64 e'.ty.id),.c (.int .i64 e'.ty.home),.c (.sl (Ty.rows e'.ty.args))]:=(by rw[Exp.row_eq];rfl)
    have hkW:((subC n e' x b).take e'.kids.length).length=e'.kids.length:=(by rw[qX,hCl];omega);have haW:(AE e'.arms ((subC n e' x b).drop e'.kids.length)).length=e'.arms.length:=(by rw[armsW_len,qae,hCl];omega);have hloop:=Zel (A:=A) x b (Ag b) n e' hs1.1 (by omega) hrec;simp only[expV,hrow']at hc hw;simp only[q1,q2,q3,q4,q5,q6,q7,ham]at hc hw hrowW hkW haW hloop hCl;unfold v202
    simp(maxSteps:=9^7) (disch:=try exact zd) [hk,k4,k6,k7,h8,hrow0,hcl,-getElem?_pos];refine Ap (fun i=>⟨[(2,.sc (.ptr 64 0)),(3,.sc (.ptr 128 0)),(4,.sc (.ptr 192 0)),(36,.sc (.arr 2080 e.arms.length)),(37,intV e.arms.length),(38,intV i)],
     [(64,some (.box (Bm x b (Ag b)))),(128,some (.box [.c (.int .i64 8),.c (.int .i64 e.pos),.c (.str e.name),.c (.int .i64 e.num),.c (.sl (Exp.rows e.kids)),.arr 2080 e.arms.length,.c (.int .i64 e.ty.kind),.c (.str e.ty.name),.c (.int .i64 e.ty.id),.c (.int .i64 e.ty.home),.c (.sl (Ty.rows e.ty.args))])),(192,some BS),
       (2080,some (.arr 14 (wr (Exp.armRows (am.take i++e.arms.drop i))) 0))]⟩) e.arms.length ?_ ?_ ?_
    .simp
    .intro i hi
     obtain⟨p,hp'⟩:=Ae hi;have hca:=harm p (qc hp');have hg:=Dv (i:=i) ham hi;rw[hp']at hg;have hst:=Dh ham (hag i p hp');have hln:=Du (i:=i) ham;have hset:=fun z=>F9 (am.take i++e.arms.drop i) i z;rw[<-hst];generalize am.take i++e.arms.drop i=zr at *
     have hsp:∀p q:ArmH×Exp,splice (wc (AH p)) 0 (wc (AH q))=some (wc (AH q)):=fun p q=>by rw[AH,AH,Exp.row_eq p.2,Exp.row_eq q.2];rfl
     have hi2:(i:Int)<e.arms.length:=(by omega);unfold I9;simp(maxSteps:=9^7) (disch:=try exact zd) [hi,hi2,hg,hln,hca,hsp,hset,BC,-getElem?_pos]
    .have htk:am.take e.arms.length++e.arms.drop e.arms.length=am:=by
      rw[qaL,qL,qj (by omega)]
     rw[htk];rw[h8]at hc hw hrowW hloop;unfold I9;simp(maxSteps:=9^7) (disch:=try exact zd) [hc,ham,q1,q2,-getElem?_pos];refine wp_mono hloop ?_;rintro _ _ ⟨rfl,rfl⟩;simp(maxSteps:=9^7) (disch:=try exact zd) [hw,hrowW,hCl,hkW,haW,ham,q1,q2,-getElem?_pos]
   .have hpe:Bd x (Ag b) e=e:=by unfold Bd;rw [if_neg h4,if_neg h8]
    rw[hpe]at hP hW hN hrec hs1 hkk hkl |-;by_cases hkids:e.kids=[]
    .have harms:e.arms=[]:=hs.one.1.2.1 h8
     have hc:=Dz (A:=A) e hkids harms;have hC0:subC n e x b=[]:=qN.1 (by rw[subC_len,hkids,harms];rfl);have hw:=FM (A:=A) e [] (by rw[hkids,harms];rfl) (by omega);rw[hC0];have hr1:Exp.rows []=[]:=(by rw[Exp.rows]);have hr2:Exp.armRows []=[]:=(by rw[Exp.armRows]);have hz:AE [] []=[]:=rfl
     have hrow:wc (AN e []).row=[.c (.int .i64 e.kind),.c (.int .i64 e.pos),.c (.str e.name),.c (.int .i64 e.num),.c (.sl []),.c (.sl []),.c (.int .i64 e.ty.kind),.c (.str e.ty.name),.c (.int .i64 e.ty.id),.c (.int .i64 e.ty.home),.c (.sl (Ty.rows e.ty.args))]:=by
      rw[Exp.row_eq];simp[AN,harms,AE,hr1,hr2,Exp.kind,Exp.pos,Exp.name,Exp.num,Exp.kids,Exp.arms,Exp.ty,wc]
     simp only[exsV,hr1,hkids,harms,qV,List.take_nil,List.drop_nil,hz,hr2]at hw;unfold v202;simp(maxSteps:=9^7) (disch:=try exact zd) [hk,k4,k6,k7,h8,hc,-getElem?_pos]
     refine Ap (fun i=>⟨[(2,.sc (.ptr 64 0)),(3,.sc (.ptr 128 0)),(4,.sc (.ptr 192 0)),(7,.sc (.full [])),(53,.sc (.full [])),(54,intV 0),(55,intV i)],[(64,some (.box (Bm x b (Ag b)))),(128,some (.box (wc e.row))),(192,some BS)]⟩) 0 ?_ (fun i hi=>by omega) ?_
     .simp
     .unfold E0
      simp(maxSteps:=9^7) (disch:=try exact zd) [hw,hrow,-getElem?_pos]
    .have hne:e.kids≠[]:=hkids
     obtain⟨e',he'⟩:∃e',e'=e:=⟨e,rfl⟩;have hrow0:=DA e;have hc:=B7 (A:=A) e hne (by omega);rw[e.children_len]at hc;have hCl:=subC_len n e x b;have hw:=FM (A:=A) e (subC n e x b) hCl (by omega);have hrow':=DA e
     have hrowW:wc (AN e (subC n e x b)).row=[.c (.int .i64 e.kind),.c (.int .i64 e.pos),.c (.str e.name),.c (.int .i64 e.num),.c (.sl (Exp.rows ((subC n e x b).take e.kids.length))),.c (.sl (Exp.armRows (AE e.arms ((subC n e x b).drop e.kids.length)))),.c (.int .i64 e.ty.kind),.c (.str e.ty.name),.c (.int .i64 e.ty.id),.c (.int .i64 e.ty.home),.c (.sl (Ty.rows e.ty.args))]:=(by rw[Exp.row_eq];rfl)
     have hkW:((subC n e x b).take e.kids.length).length=e.kids.length:=(by rw[qX,hCl];omega);have haW:(AE e.arms ((subC n e x b).drop e.kids.length)).length=e.arms.length:=(by rw[armsW_len,qae,hCl];omega);simp only[expV,hrow']at hc hw;unfold v202;simp(maxSteps:=9^7) (disch:=try exact zd) [hk,k4,k6,k7,h8,hrow0,hc,-getElem?_pos];refine wp_mono (IP (A:=A) x b (Ag b) n e hs1.1 (by omega) hrec) ?_
     rintro _ _ ⟨rfl,rfl⟩;simp(maxSteps:=9^7) (disch:=try exact zd) [hw,hrowW,hCl,hkW,haW,-getElem?_pos]
variable {A:Af}
theorem Zv (l m:List Str)(h:l.length<=1649267441664):(K A).call 53 [AM l,AM m] []=some (Ac (decide (l=m)),[]):=by
 refine Ah (vf:=v53) (by kernel_rfl) rfl (by decide) ?_;unfold v53;by_cases hl:l.length=m.length
 .have hp:=Qf l m
  simp(disch:=try exact zd) [hl];refine Ap (fun i=>⟨[(0,AM l),(1,AM m),(5,intV i)],[]⟩) (B5 l m) ?_ ?_ ?_
  .simp
  .intro i hi
   obtain⟨x,hx,hy⟩:=QA hi;have hlt:i<m.length:=(by omega);unfold Ol;simp(disch:=try exact zd) [hx,hy,hlt,hl,-getElem?_pos]
  .unfold Ol
   by_cases hm:B5 l m<l.length
   .obtain ⟨x,y,hx,hy,hxy⟩:=Ri hl hm
    have hne:l≠m:=fun h=>by rw[<-LN hl]at h;omega
    have hm':B5 l m<m.length:=(by omega);simp(disch:=try exact zd) [hx,hy,hm',hl,hxy,hne,-getElem?_pos]
   .have he:l=m:=(LN hl).1 (by omega)
    subst he;simp(disch:=try exact zd) [hm,-getElem?_pos]
 .have hne:l≠m:=fun h=>hl (by rw [h])
  have hl':¬(l.length:Int)=m.length:=by omega
  simp(disch:=try exact zd) [hl',hne,hl]
theorem Ze4 (l m:List Exp)(hl:l.length<=687194767360)(ih:∀x∈l,∀y∈m,∃r,IffB (sameP x y) r/\(K A).call 18 [expV x,expV y] []=some r):
 ∃r,IffB (allR sameP l m) r/\(K A).call 54 [exsV l,exsV m] []=some r:=by
 refine fnE v54 ?_;unfold v54;by_cases hn:l.length=m.length
 .simp (disch:=try exact zd) [hn]
  refine Ak (fun i s=>(∀(j:Nat) x y,j<i->l[j]?=some x->m[j]?=some y->sameP x y)/\s=⟨[(0,exsV l),(1,exsV m),(5,intV i)],[]⟩) l.length ⟨by omega,by simp⟩ ?_ ?_
  .rintro i s hi ⟨hs,rfl⟩
   obtain⟨x,hx⟩:=Ae hi;obtain⟨y,hy⟩:=Ae (l:=m) (i:=i) (by omega);obtain⟨_,⟨b,hb,rfl⟩,hc⟩:=ih x (qc hx) y (qc hy);unfold OI;cases b with
   |true=>
    have hxy:=hb.1 rfl;simp(disch:=try exact zd) [hi,hx,hy,hc,-getElem?_pos];intro j x' y' hj hx' hy';by_cases hji:j=i
    .subst hji
     rw[hx]at hx';rw[hy]at hy';cases hx';cases hy';exact hxy
    .exact hs j x' y' (by omega) hx' hy'
   |false=>
    simp(disch:=try exact zd) [hi,hx,hy,hc,-getElem?_pos];exact IffB.no fun h=>by have:=hb.2 (h.2 i x y hx hy);cases this
  .rintro s ⟨hs,rfl⟩
   unfold OI;simp(disch:=try exact zd);exact IffB.yes ⟨hn,fun i x y hx hy=>hs i x y (qf.1 hx).1 hx hy⟩
 .have hn':¬(l.length:Int)=m.length:=by omega
  simp(disch:=try exact zd) [hn,hn'];exact IffB.no fun h=>hn h.1
theorem Zfe (a:Exp):∀b,tyBd a->a.weight<=687194767360->b.weight<=687194767360->∃r,IffB (sameP a b) r/\(K A).call 18 [expV a,expV b] []=some r:=by
 induction a using Exp.ind with
 |h a ih=>
 intro b ht hw hwb;have hal:=a.children_le;have hbl:=b.children_le;have hchA:=a.children_len;have hchB:=b.children_len;refine fnE v18 ?_;obtain⟨_,⟨t,h3,rfl⟩,hc3⟩:=SM (A:=A) 687194767360 a.ty b.ty ht.one (by omega);have hca:=I8 (A:=A) a (by omega);have hcb:=I8 (A:=A) b (by omega)
 obtain⟨_,⟨vk,hK,rfl⟩,hck⟩:=Ze4 (A:=A) a.children b.children (by omega) fun x hx y hy=>ih x hx y (ht.child hx) (by have:=Exp.child_lt hx;omega) (by have:=Exp.child_lt hy;omega);unfold v18;by_cases q1:a.kind=b.kind
 case neg=>
  simp(disch:=try exact zd) [q1];exact IffB.no fun h=>by rw[Dw]at h;exact q1 h.1
 by_cases q2:a.name=b.name
 case neg=>
  simp(disch:=try exact zd) [q1,q2];exact IffB.no fun h=>by rw[Dw]at h;exact q2 h.2.1
 by_cases q3:a.num=b.num
 case neg=>
  simp(disch:=try exact zd) [q1,q2,q3];exact IffB.no fun h=>by rw[Dw]at h;exact q3 h.2.2.1
 cases t with
 |false=>
  simp(disch:=try exact zd) [q1,q2,q3,hc3];exact IffB.no fun h=>by rw[Dw]at h;have:=h3.2 h.2.2.2.1;cases this
 |true=>
 have q4:=h3.1 rfl;by_cases q5:a.kids.length=b.kids.length
 case neg=>
  have q5':¬(a.kids.length:Int)=b.kids.length:=by omega
  simp(disch:=try exact zd) [q1,q2,q3,hc3,q5,q5'];exact IffB.no fun h=>by rw[Dw]at h;exact q5 h.2.2.2.2.1
 by_cases q6:a.arms.length=b.arms.length
 case neg=>
  have q6':¬(a.arms.length:Int)=b.arms.length:=by omega
  simp(disch:=try exact zd) [q1,q2,q3,hc3,q5,q6,q6'];exact IffB.no fun h=>by rw[Dw]at h;exact q6 h.2.2.2.2.2.1
 have hrest:(∀(i:Nat) p q,a.arms[i]?=some p->b.arms[i]?=some q->p.1.con=q.1.con/\p.1.vars=q.1.vars)->IffB (sameP a b) (Ac vk,[]):=by
  intro harms;refine⟨vk,hK.trans ?_,rfl⟩;rw[Dw];exact⟨fun h=>⟨q1,q2,q3,q4,q5,q6,harms,h.2⟩,fun h=>⟨by omega,h.2.2.2.2.2.2.2⟩⟩
 have hbad:∀(i:Nat) p q,a.arms[i]?=some p->b.arms[i]?=some q->¬(p.1.con=q.1.con/\p.1.vars=q.1.vars)->IffB (sameP a b) (Ac false,[]):=by
  intro i p q hp hq h;exact IffB.no fun h'=>by rw[Dw]at h';exact h (h'.2.2.2.2.2.2.1 i p q hp hq)
 generalize sameP a b=P at hrest hbad |-;clear ih hK ht;simp(disch:=try exact zd) [q1,q2,q3,hc3,q5,q6];refine Ak (fun i s=>(∀(j:Nat) p q,j<i->a.arms[j]?=some p->b.arms[j]?=some q->p.1.con=q.1.con/\p.1.vars=q.1.vars)/\s=⟨[(2,.sc (.ptr 64 0)),(3,.sc (.ptr 128 0)),(5,intV i)],[(64,some (.box (wc a.row))),(128,some (.box (wc b.row)))]⟩) a.arms.length ⟨by omega,by simp⟩ ?_ ?_
 .rintro i s hi ⟨hs,rfl⟩
  obtain⟨p,hp⟩:=Ae hi;obtain⟨q,hq⟩:=Ae (l:=b.arms) (i:=i) (by omega);have hv:=Exp.vars_le (qc hp);have hc:=Zv (A:=A) p.1.vars q.1.vars (by omega);have hib:i<b.arms.length:=by omega
  have bad:=hbad i p q hp hq;have hiI:(i:Int)<b.arms.length:=by omega
  unfold Mt;by_cases c1:p.1.con=q.1.con
  .by_cases c2:p.1.vars=q.1.vars
   .rw [c2] at hc
    simp(maxSteps:=9^7) (disch:=try exact zd) [hi,hib,hiI,hp,hq,hc,c1,c2,q6,-getElem?_pos];intro j x1 x2 y1 y2 hj hx' hy';by_cases hji:j=i
    .subst hji
     rw[hp]at hx';rw[hq]at hy';cases hx';cases hy';exact⟨c1,c2⟩
    .exact hs j _ _ (by omega) hx' hy'
   .simp (maxSteps:=9^7) (disch:=try exact zd) [hi,hib,hiI,hp,hq,hc,c1,c2,q6,-getElem?_pos]
    exact bad fun h=>c2 h.2
  .simp (maxSteps:=9^7) (disch:=try exact zd) [hi,hib,hiI,hp,hq,hc,c1,q6,-getElem?_pos]
   exact bad fun h=>c1 h.1
 .rintro s ⟨hs,rfl⟩
  have yes:=hrest fun i p q hp hq=>hs i p q (qf.1 hp).1 hp hq;unfold Mt;simp(maxSteps:=9^7) (disch:=try exact zd) [hca,hcb,hck,q6,-getElem?_pos];exact yes
variable {A:Af}
theorem Nx:∀s∈B8,s.length<=2:=by decide
theorem rawE.free {ds:List DataD}{e:Exp}:rawE ds e->∀s∈Ag e,s∈B8:=by
 induction e using Exp.ind with
 |h e ih=>
  intro h s hs;by_cases hk:e.kind=1
  .rw [Cu hk] at hs
   subst hs;obtain⟨_,_,_,_,_,h⟩:=h.one;rcases h with ⟨_,n,_⟩|⟨k,_⟩|⟨k,_⟩|⟨k,_⟩|⟨k,_⟩|⟨k,_⟩|⟨k,_⟩|⟨k,_⟩
   .exact n
   all_goals (exfalso;omega)
  .obtain ⟨i,x,hx,h1,_⟩:=(B3 hk).1 hs
   exact ih x (qc hx) (h.child (qc hx)) s h1
def tkOk (n:Nat)(l:List Str):Prop:=l.length=n/\∀s∈l,s.length<=2
variable {A:Af}
theorem OU (e:Exp)(x:Str)(b:Exp)(hb:shp b)(hbw:b.weight<=100000000000)(hbn:nmL b)(hxl:x.length<=1000)(hl:e.weight<=100000000000)(hs:shp e)(hp:properP e)(hn:nmL e):
 (K A).call 155 [expV e,strV x,expV b] []=some (expV (subP e x b),[]):=by
 refine fnO v155 ?_;have hfl:=G2 b;have h1:=TY (A:=A) x b hb (by omega) (fun s hs=>hbn s (MY b s hs)) hxl e.weight e (qg _) hl hs hp hn;have h2:=Qe (A:=A) b hb.wf (by omega);have hrb:=DA b;simp only[expV,hrb]at h2;unfold v155 subP;simp_all
def ImpB (P:Prop)(r:V×List Obj):Prop:=∃v:Bool,(v=true->P)/\r=(Ac v,[])
theorem rawE.nmL {ds:List DataD}(hc:Em ds){e:Exp}:rawE ds e->nmL e:=by
 have hcok:∀s,cOk ds s->s.length<=1000:=by
  rintro s (rfl|⟨d,hd,c,hcc,rfl⟩);simp
  .have:=(hc d hd c hcc).1
   omega
 induction e using Exp.ind with
 |h e ih=>
  intro h s hs;rcases A3.1 hs with h1|⟨i,x,hx,h1⟩
  .obtain ⟨_,_,_,_,_,hS⟩:=h.one
   rcases hS with ⟨_,n,_⟩|⟨_,n,_⟩|⟨_,n,_⟩|⟨_,n,_⟩|⟨_,n,_⟩|⟨_,n,_⟩|⟨_,n,_⟩|⟨_,n,_⟩<;>grind[Nx]
  .rcases h1 with h1|h1
   .rw [Bt] at h1
    split at h1
    .rename_i hk
     obtain⟨_,_,_,_,_,hS⟩:=h.one;rw[qk]at h1;have:e.name∈B8:=by
      rcases hS with ⟨k,n,_⟩|⟨k,n,_⟩|⟨k,n,_⟩|⟨k,n,_⟩|⟨k,n,_⟩|⟨k,n,_⟩|⟨k,n,_⟩|⟨k,n,_⟩<;>grind
     grind[Nx]
    .split at h1
     .cases ha:e.arms[i-1]? with
      |none=>grind
      |some a=>
       rw[ha]at h1;have:=Nx _ ((h.one.2.1 a (qc ha)).2.2.2 s h1);omega
     grind
   .exact ih x (qc hx) (h.child (qc hx)) s h1
variable {A:Af}
theorem Zed {x:Str}{free:List Str}{e:Exp}(hs:shp e)(hp:properP e)(hn:nmL e)(hl:e.weight<=100000000000/\free.length<=100000000000):nmL (Bd x free e):=by
 have hal:=E9 e hs.wf;unfold Bd;by_cases h:e.kind=4\/e.kind=6\/e.kind=7
 .rw [if_pos h]
  obtain⟨ha,hc⟩:=Ef (by omega) hs.one;unfold CG;split
  .exact hn
  .have hf:=F7 0 (allP e++free++[x]) (by simp;omega)
   generalize AI 0 (allP e++free++[x])=to at hf |-;intro s hs';rcases A3.1 hs' with h1|⟨i,y,hy,h1⟩
   .rw[h1,Ry];exact hf
   .have hc':∀ ks,(Exp.mk e.kind e.pos to e.num ks e.arms e.ty).children=ks:=fun ks=>by rw [B2,ha];simp
    rw[hc']at hy;have hlt:=(qf.1 hy).1;simp only[qbo,List.length_zipIdx]at hlt;obtain⟨z,hz⟩:=Ae hlt;simp only[qq,qaB,hz,qv,qaF,qd]at hy;have hnz:nmL z:=hn.child (i:=i) (by rw[hc];exact hz);rcases h1 with h1|h1
    .rw [GO] at h1
     split at h1
     .rw [qk] at h1
      exact h1▸hf
     .rw [if_neg (by omega)] at h1
      simp at h1
    .subst hy
     split at h1
     .exact hnz s h1
     .exact Md hnz hf s h1
 .rw [if_neg h]
  by_cases h8:e.kind=8
  .rw [if_pos h8]
   have hk1:=hs.one.1.1 h8;have harm:∀p∈e.arms,nmL (armP x free p).2/\∀s∈(armP x free p).1.vars,s.length<=1000:=by
    intro p hm;obtain⟨j,hj⟩:=qn.1 hm;have hnp:nmL p.2:=hn.child (D5 hj);have hv:∀s∈p.1.vars,s.length<=1000:=fun s hs'=>by
     refine hn s (A3.2 (.inr ⟨e.kids.length+j,p.2,D5 hj,.inl ?_⟩));rw[Bt,if_neg (by omega),if_pos ⟨h8,by omega⟩,hk1,show 1+j-1=j by omega,hj];exact hs'
    have hvl:=Exp.vars_le hm;have hwl:=Exp.child_lt (BA hm);unfold armP;split
    .exact⟨hnp,hv⟩
    .rename_i hx
     exact Ko (hp.one p hm) hx (hs.child (BA hm)) (hp.child (BA hm)) (by omega) hnp hv p.1.vars.length (qg _)
   intro s hs';rcases A3.1 hs' with h1|⟨i,y,hy,h1⟩
   .rw[h1,Ry];exact hn _ (A3.2 (.inl rfl))
   .rw [B2] at hy
    rcases qbk i e.kids.length with hk|hk
    .rw [qF hk] at hy
     rcases h1 with h1|h1
     .rw [GO,if_neg (by omega),if_neg (by omega)] at h1
      simp at h1
     .exact hn.child (i:=i) (Sp hy) s h1
    .rw [qS hk,qq] at hy
     obtain⟨q,hq,rfl⟩:=qr.1 hy;have hq':=hq;rw[qq]at hq;obtain⟨p,hp',rfl⟩:=qr.1 hq;obtain⟨g1,g2⟩:=harm p (qc hp');rcases h1 with h1|h1
     .rw [GO,if_neg (by omega),if_pos ⟨h8,by omega⟩,show i-1=i-e.kids.length by omega,hq'] at h1
      exact g2 s h1
     .exact g1 s h1
  .rw [if_neg h8]
   exact hn
theorem Qv {x:Str}{b:Exp}(hb:nmL b)(hbl:b.weight<=100000000000):∀(n:Nat) (e:Exp),e.weight<=n->e.weight<=100000000000->shp e->properP e->nmL e->nmL (subN n e x b)
 |0,e,_,_,_,_,hn=>hn
 |n+1,e,h,hl,hs,hp,hn=>by
  rw[Fq];by_cases hk:e.kind=1
  .rw [if_pos hk]
   split
   .exact hb
   .exact hn
  .rw [if_neg hk]
   have hP:=Fo (x:=x) (b:=b) hs hp;have hfl:=G2 b;have hN:=Zed (x:=x) (free:=Ag b) hs hp hn (by omega);generalize Bd x (Ag b) e=e' at hP hN |-;intro s hs';rcases A3.1 hs' with h1|⟨i,y,hy,h1⟩
   .exact hN s (A3.2 (.inl h1))
   .rw [(BX (subC_len n e' x b)).2.2.1] at hy
    rw[HT (subC_len n e' x b)]at h1;obtain⟨x1,hx1⟩:=Ae (l:=e'.children) (i:=i) (by have:=(qf.1 hy).1;rw[subC_len,<-e'.children_len]at this;exact this);obtain⟨x0,hx0⟩:=Ae (l:=e.children) (i:=i) (by rw[<-DM hP];exact(qf.1 hx1).1);have hK:=hP.kids i x0 x1 hx0 hx1;have hlt:=Exp.child_lt (qc hx0);have hw:=hK.weight;rw[Eu hx1]at hy;cases hy;rcases h1 with h1|h1
    .exact hN s (A3.2 (.inr ⟨i,x1,hx1,.inl h1⟩))
    .split at h1
     .exact hN s (A3.2 (.inr ⟨i,x1,hx1,.inr h1⟩))
     .exact Qv hb hbl n x1 (by omega) (by omega) hK.shape hK.proper (hN.child hx1) s h1
theorem RY {x:Str}{e b:Exp}(hs:shp e)(_:shp b)(hp:properP e)(hn:nmL e)(hb:nmL b)(hl:e.weight<=100000000000)(hbl:b.weight<=100000000000)(_:x.length<=1000):nmL (subP e x b):=Qv hb hbl _ e (qg _) hl hs hp hn
theorem instR.tyBd (a:Exp):∀(c:Exp) (V:Rep),instR a c V->tyBd a->(∀s d,V s d->tyBd d)->tyBd c:=by
 induction a using Exp.ind with
 |h a ih=>
  intro c V h ht hv;by_cases hk:a.kind=1
  .exact hv _ _ (h.var hk)
  .obtain ⟨h1,h2,h3,h4⟩:=h.node hk
   rw[Ed];refine⟨h1.2.2.1▸ht.one,fun y hy=>?_⟩;obtain⟨i,hi⟩:=qn.1 hy;obtain⟨x,hx⟩:=Ae (l:=a.children) (i:=i) (by rw[h1.children];grind);refine ih x (qc hx) y _ (h4 i x y hx hi) (ht.child (qc hx)) fun s d hd=>?_;rcases hd with ⟨_,t,_,_,hvv⟩|⟨_,q,_⟩
   .obtain ⟨_,_,_,ty,ks,am⟩:=hvv
    rw[Ed,ty];refine⟨by decide,fun z hz=>?_⟩;grind[Exp.children]
   grind
def Zgq:List Str:=[[120],[121],[122],[102],[118,49]]
theorem T4:∀(l:List (Str×Exp))(e:Exp),okE e->nmL e->(∀k,(Az (l.take k) e).weight<=100000000000)->(∀p∈l,okE p.2/\nmL p.2/\p.2.weight<=100000000000/\p.1.length<=1000)->nmL (Az l e)
 |[],_,_,h,_,_=>h
 |p::l,e,he,h,hw,hl=>by
  obtain⟨h1,h2,h3,h4⟩:=hl p (by simp);rw[DP];refine T4 l _ (C9 he h1) (RY he.1 h1.1 he.2.1 h h2 ?_ h3 h4) (fun k=>?_) fun q hq=>hl q (by simp[hq])
  .have:=hw 0
   simpa[Az]using this
  .have:=hw (k+1)
   rw[qaP,DP]at this;exact this
end Go.Vs.Tryz
namespace Go.Vs
open Go
def tyO:Option Ty->List W
 |none=>[zi,zs,zi,zi,.nil]
 |some t=>wc t.row
def tyOs (l:List (Option Ty)):List (List W):=l.map tyO
def boOs (l:List Bool):List (List W):=l.map fun b=>[.c (.bool b)]
@[simp] theorem tyOs_len (l:List (Option Ty)):(tyOs l).length=l.length:=by simp[tyOs]
@[simp] theorem boOs_len (l:List Bool):(boOs l).length=l.length:=by simp[boOs]
@[simp] theorem tyOs_get (l:List (Option Ty)) (i:Nat):(tyOs l)[i]?=(l[i]?).map tyO:=by simp[tyOs]
@[simp] theorem boOs_get (l:List Bool) (i:Nat):(boOs l)[i]?=(l[i]?).map fun b=>[W.c (.bool b)]:=by simp[boOs]
theorem Wi (o:Option Ty):(tyO o).length=5:=by cases o<;>simp[tyO,wc]
theorem RO (n:Nat):List.replicate n [zi,zs,zi,zi,W.nil]=tyOs (List.replicate n none):=by simp[tyOs,tyO]
theorem NL (n:Nat):List.replicate n [W.c (.bool false)]=boOs (List.replicate n false):=by simp[boOs]
theorem Zb0 (l:List (Option Ty))(i:Nat)(t:Ty):(tyOs l).set i (wc t.row)=tyOs (l.set i (some t)):=by simp[tyOs,tyO,qaZ]
theorem WX (l:List Bool)(i:Nat)(b:Bool):(boOs l).set i [W.c (.bool b)]=boOs (l.set i b):=by simp[boOs,qaZ]
theorem Iw {α:Type}:∀(l:List α) (i:Nat) (a:α),setRow l i a=l.set i a
 |[],_,_=>by simp[setRow]
 |_::_,0,_=>by simp[setRow]
 |_::r,n+1,a=>by simp[setRow,Iw r n a]
theorem Zf (l:List (Option Ty))(i:Nat)(t:Ty):setRow (tyOs l) i (wc t.row)=tyOs (l.set i (some t)):=by rw[Iw,Zb0]
theorem YI (l:List Bool)(i:Nat)(b:Bool):setRow (boOs l) i [W.c (.bool b)]=boOs (l.set i b):=by rw[Iw,WX]
theorem ZbD (L:Nat->Option Obj)(d:Nat)(l:List (Option Ty)):Ab (Ab (W.toC L d)) (tyOs l)=some (l.map fun o=>(o.getD (.mk 0 [] 0 0 [])).row):=by
 unfold tyOs
 induction l with
 |nil=>rfl
 |cons a r ih=>
  have h1:Ab (W.toC L d) (tyO a)=some (a.getD (.mk 0 [] 0 0 [])).row:=by
   cases a with
   |none=>simp[tyO,Ty.row,Ab,Ty.rows]
   |some t=>simp[tyO]
  simp only[qu,Ab,h1,ih]
theorem Yc (L:Nat->Option Obj)(d:Nat)(o:Option Ty){y:W}(hy:y∈tyO o):W.ids L d y=[]:=by
 cases o with
 |none=>
  simp only[tyO,qD,qY,or_false]at hy;rcases hy with rfl|rfl|rfl|rfl|rfl<;>cases d<;>rfl
 |some t=>
  have h:=wc_ids L d t.row;rw[qab]at h;exact h y hy
@[simp] theorem tyOs_allIds (L:Nat->Option Obj) (d:Nat) (l:List (Option Ty)) (p:Nat->Bool):((tyOs l).all fun a=>a.all fun b=>(W.ids L d b).all p)=true:=by
 simp only[qz,tyOs,qH];rintro _ ⟨o,_,rfl⟩ y hy;rw[Yc L d o hy];simp
@[simp] theorem tyOs_refs (d:Nat) (l:List (Option Ty)):(tyOs l).flatMap (fun x=>x.flatMap (W.refs d))=[]:=by
 simp only[qab,tyOs,qH];rintro _ ⟨o,_,rfl⟩ y hy;cases o with
 |none=>
  simp only[tyO,qD,qY,or_false]at hy;rcases hy with rfl|rfl|rfl|rfl|rfl<;>cases d<;>rfl
 |some t=>
  have h:=wc_refs d t.row;rw[qab]at h;exact h y hy
@[simp] theorem boOs_refs (d:Nat) (l:List Bool):(boOs l).flatMap (fun x=>x.flatMap (W.refs d))=[]:=by
 simp only[qab,boOs,qH];rintro _ ⟨o,_,rfl⟩ y hy;simp only[qD,qY,or_false]at hy;subst hy;cases d<;>rfl
@[simp] theorem tyOs_ren (ρ:Nat->Option Nat) (d:Nat) (l:List (Option Ty)):(tyOs l).map (fun x=>x.map (W.ren ρ d))=tyOs l:=by
 unfold tyOs;rw[qao];refine qK fun o _=>?_;cases o with
 |none=>cases d<;>rfl
 |some t=>simp[tyO]
@[simp] theorem boOs_ren (ρ:Nat->Option Nat) (d:Nat) (l:List Bool):(boOs l).map (fun x=>x.map (W.ren ρ d))=boOs l:=by
 unfold boOs;rw[qao];refine qK fun o _=>?_;cases d<;>rfl
end Go.Vs
namespace Go.Vs.Tryz
open Go Go.Vs
variable {A:Af}
def InsI (n:Nat)(l:List (Option Ty))(ks:List Bool):Prop:=l.length=n/\ks.length=n/\(∀t,some t∈l->t.size<=687194767360)/\∀i:Nat,ks[i]?=some true->∃t,l[i]?=some (some t)
def InsR (n:Nat)(r:V×List Obj):Prop:=∃(b:Bool) (l:List (Option Ty)) (ks:List Bool),InsI n l ks/\r=(Ac b,[.arr 5 (tyOs l) 0,.arr 1 (boOs ks) 0])
theorem Yy (o:Option Ty)(t:Ty):splice (tyO o) 0 (wc t.row)=some (wc t.row):=by
 have h1:=Wi o;unfold splice;simp[h1]
theorem U0 {q:Nat}(n:Nat)(hn:n<=687194767360)(p:Ty):∀(t:Ty) (l:List (Option Ty)) (ks:List Bool),tyB 0 q p->t.size<=687194767360->InsI n l ks->
 ∃r,InsR n r/\(K A).call 185 [tyV p,tyV t,.sc (.arr 0 n),.sc (.arr 1 n)] [.arr 5 (tyOs l) 0,.arr 1 (boOs ks) 0]=some r:=by
 induction p using Ty.ind with
 |h p ih=>
 intro t l ks hp ht hI;obtain⟨hl,hk,hs,hkn⟩:=hI;have htl:=t.args_lt;refine fnE v185 ?_;unfold v185;by_cases h2:p.kind=2/\p.id<n
 .obtain ⟨h2,h3⟩:=h2
  have h0:=hp.one.2.1 h2;obtain⟨i,hi⟩:∃i:Nat,p.id=i:=⟨p.id.toNat,by omega⟩;have hin:i<n:=by omega
  have hin2:(i:Int)<n:=by omega
  obtain⟨b,hb⟩:=Ae (l:=ks) (i:=i) (by omega);obtain⟨o',ho⟩:=Ae (l:=l) (i:=i) (by omega);cases b with
  |true=>
   obtain⟨u,hu⟩:=hkn i hb;rw[hu]at ho;cases ho;obtain⟨_,⟨e,rfl⟩,hc⟩:=Po (A:=A) 687194767360 u t (hs u (qc hu)) (by omega);simp(disch:=try exact zd) [h2,hi,hin,hin2,hb,hu,hc,hl,hk,tyO,elOk,-getElem?_pos];exact⟨e,l,ks,⟨hl,hk,hs,hkn⟩,rfl⟩
  |false=>
   simp(disch:=try exact zd) [h2,hi,hin,hin2,hb,ho,hl,hk,elOk,Yy,-getElem?_pos];simp only[Zf,YI,<-qao,tyOs_ren,boOs_ren];refine⟨true,l.set i (some t),ks.set i true,⟨by simp[hl],by simp[hk],?_,?_⟩,rfl⟩
   .intro u hu
    rcases List.mem_or_eq_of_mem_set hu with hu|hu
    .exact hs u hu
    .cases hu
     omega
   .intro j hj
    by_cases hji:j=i
    .subst hji
     exact⟨t,by simp[hl,hin]⟩
    .rw [qaC (fun h=>hji h.symm)] at hj
     obtain⟨u,hu⟩:=hkn j hj;exact⟨u,by rw[qaC (fun h=>hji h.symm)];exact hu⟩
 .have same:InsR n (Ac false,[.arr 5 (tyOs l) 0,.arr 1 (boOs ks) 0]):=⟨false,l,ks,⟨hl,hk,hs,hkn⟩,rfl⟩
  have fin:p.args.length=t.args.length->wp (K A) (.loop IF) (Bx 0 (BN (K A) (.seq (.region [] [o 8 (.mv kt)] [] [8]) .ret) (BP false 2 [.tmp 8] (InsR n))))
   ⟨[(2,.sc (.arr 0 n)),(3,.sc (.arr 1 n)),(4,.sc (.ptr 64 0)),(5,.sc (.ptr 128 0)),(9,intV 0)],
     [(0,some (.arr 5 (tyOs l) 0)),(1,some (.arr 1 (boOs ks) 0)),(64,some (.box (wc p.row))),(128,some (.box (wc t.row)))]⟩:=by
   intro hpt;refine Ak (fun i s=>∃l ks,InsI n l ks/\s=⟨[(2,.sc (.arr 0 n)),(3,.sc (.arr 1 n)),(4,.sc (.ptr 64 0)),(5,.sc (.ptr 128 0)),(9,intV i)],
    [(0,some (.arr 5 (tyOs l) 0)),(1,some (.arr 1 (boOs ks) 0)),(64,some (.box (wc p.row))),(128,some (.box (wc t.row)))]⟩) p.args.length ⟨l,ks,⟨hl,hk,hs,hkn⟩,by simp⟩ ?_ ?_
   .rintro i s hi ⟨l,ks,hI,rfl⟩
    obtain⟨x,hx⟩:=Ae hi;obtain⟨y,hy⟩:=Ae (l:=t.args) (i:=i) (by omega);have hys:=Ty.arg_lt (qc hy);obtain⟨_,⟨b,l2,ks2,hI2,rfl⟩,hc⟩:=ih x (qc hx) y l ks (hp.arg (qc hx)) (by omega) hI;have hn0:=hI.1;have hn1:=hI.2.1;have hi':i<t.args.length:=(by omega);have hn2:=hI2.1;have hn3:=hI2.2.1;unfold IF;cases b with
    |true=>
     simp(disch:=try exact zd) [hi,hi',hx,hy,hc,hpt,hn0,hn1,hn2,hn3,-getElem?_pos];exact⟨l2,ks2,hI2,rfl,rfl⟩
    |false=>
     simp(disch:=try exact zd) [hi,hi',hx,hy,hc,hpt,hn0,hn1,hn2,hn3,-getElem?_pos];exact⟨false,l2,ks2,hI2,rfl⟩
   .rintro s ⟨l,ks,hI,rfl⟩
    unfold IF;simp(disch:=try exact zd) [-getElem?_pos];exact⟨true,l,ks,hI,rfl⟩
  have h2':p.kind=2->¬p.id<n:=fun a b=>h2 ⟨a,b⟩;refine EG ⟨[(2,.sc (.arr 0 n)),(3,.sc (.arr 1 n)),(4,.sc (.ptr 64 0)),(5,.sc (.ptr 128 0))],[(0,some (.arr 5 (tyOs l) 0)),(1,some (.arr 1 (boOs ks) 0)),(64,some (.box (wc p.row))),(128,some (.box (wc t.row)))]⟩ (by simp) ?_
  refine EG ⟨[(2,.sc (.arr 0 n)),(3,.sc (.arr 1 n)),(4,.sc (.ptr 64 0)),(5,.sc (.ptr 128 0)),(19,Ac false)],[(0,some (.arr 5 (tyOs l) 0)),(1,some (.arr 1 (boOs ks) 0)),(64,some (.box (wc p.row))),(128,some (.box (wc t.row)))]⟩ ?_ ?_
  .by_cases hk2:p.kind=2
   .have hid:=h2' hk2
    simp(disch:=try exact zd) [hk2,hid,hl,-getElem?_pos]
   .simp(disch:=try exact zd) [hk2,-getElem?_pos]
  .by_cases a1:p.kind=t.kind
   .by_cases a2:p.name=t.name
    .by_cases a3:p.id=t.id
     .by_cases a4:p.home=t.home
      .by_cases a5:p.args.length=t.args.length
       .simp (disch:=try exact zd) [a1,a2,a3,a4,a5,-getElem?_pos]
        exact fin a5
       .have a5':¬(p.args.length:Int)=t.args.length:=by omega
        simp(disch:=try exact zd) [a1,a2,a3,a4,a5,a5',-getElem?_pos];exact same
      .simp (disch:=try exact zd) [a1,a2,a3,a4,-getElem?_pos]
       exact same
     .simp (disch:=try exact zd) [a1,a2,a3,-getElem?_pos]
      exact same
    .simp (disch:=try exact zd) [a1,a2,-getElem?_pos]
     exact same
   .simp (disch:=try exact zd) [a1,-getElem?_pos]
    exact same
def Zbf (r:V×List Obj):Prop:=∃(w:List (List Cell)) (b:Bool),r=(.tu [.sc (.c (.sl w)),Ac b],[])
theorem Vr {q:Nat}(n:Nat)(hn:n<=1073741)(c t:Ty)(hc:tyB 0 q c)(ht:t.size<=687194767360):∃r,Zbf r/\(K A).call 136 [schV n c,tyV t] []=some r:=by
 refine fnE v136 ?_;obtain⟨_,⟨b,l,ks,⟨h1,h2,h3,h4⟩,rfl⟩,hcl⟩:=U0 (A:=A) n (by omega) c t (List.replicate n none) (List.replicate n false) hc ht ⟨by simp,by simp,by simp,fun i hi=>by
  rw[List.getElem?_replicate]at hi;split at hi<;>cases hi⟩
 have hr1:(List.replicate n (none:Option Ty)).length=n:=by simp
 have hr2:(List.replicate n false).length=n:=by simp
 generalize hL0:List.replicate n (none:Option Ty)=L0 at *
 generalize hK0:List.replicate n false=K0 at *
 have htc:=fun L d=>ZbD L d l;unfold v136;cases b with
 |true=>
  simp(disch:=try exact zd) [AU,RO,NL,hL0,hK0,hr1,hr2,hcl,h1,h2,htc,-getElem?_pos];exact⟨_,true,rfl⟩
 |false=>
  simp(disch:=try exact zd) [AU,RO,NL,hL0,hK0,hr1,hr2,hcl,h1,h2,htc,-getElem?_pos];exact⟨_,false,rfl⟩
variable {A:Af}
def BQ:List Str:=B8++[[119],[112],[113],[114],[115]]
theorem Lz {s:Str}(h:s∈B8):s∈BQ:=qp.2 (.inl h)
def mkS (ds:List DataD)(e:Exp):Prop:=
 (e.kind=1/\e.name∈BQ/\e.kids=[]/\e.arms=[])\/(e.kind=2/\cOk ds e.name/\e.kids=[]/\e.arms=[])\/((e.kind=3\/e.kind=10)/\e.name=[]/\e.kids=[]/\e.arms=[])\/
 (e.kind=4/\e.name∈BQ/\(∃x,e.kids=[x])/\e.arms=[])\/(e.kind=5/\e.name=[]/\(∃x y,e.kids=[x,y])/\e.arms=[])\/((e.kind=6\/e.kind=7)/\e.name∈BQ/\(∃x y,e.kids=[x,y])/\e.arms=[])\/
 ((e.kind=9\/e.kind=11)/\e.name=[]/\(∃x,e.kids=[x])/\e.arms=[])\/(e.kind=8/\e.name=[]/\(∃x,e.kids=[x])/\e.arms≠[])
def armM (ds:List DataD)(a:ArmH×Exp):Prop:=a.1.pos=0/\cOk ds a.1.con/\a.1.vars.length<=2/\a.1.vars.Nodup/\∀v∈a.1.vars,v∈BQ
def wrT (t:Ty):Prop:=tyS 0 t/\Ty.all (fun u=>u.kind≠3) t
def annT (e:Exp):Prop:=(e.kind≠9->e.ty=tz)/\(e.kind=9->wrT e.ty)
def numB (e:Exp):Prop:=(e.kind≠3->e.num=0)/\0<=e.num/\e.num<=999
def mkE1 (ds:List DataD)(e:Exp):Prop:=e.pos=0/\(∀a∈e.arms,armM ds a)/\e.ty.size<=687194767360/\annT e/\numB e/\mkS ds e
def mkE (ds:List DataD)(e:Exp):Prop:=e.fold fun e l=>mkE1 ds e/\∀p∈l,p
theorem KS (ds:List DataD)(e:Exp):mkE ds e=(mkE1 ds e/\∀x∈e.children,mkE ds x):=by
 have:=Exp.fold_eq (fun e (l:List Prop)=>mkE1 ds e/\∀p∈l,p) e;unfold mkE;rw[this];simp only[qU]
theorem FO (ds:List DataD) (k p n m ks l t):mkE ds (Exp.mk k p n m ks l t)=(mkE1 ds (Exp.mk k p n m ks l t)/\(∀x∈ks,mkE ds x)/\∀a∈l,mkE ds a.2):=by
 grind[KS,Exp.kids,Exp.arms,Exp.children]
theorem mkE.one {ds:List DataD}{e:Exp}(h:mkE ds e):mkE1 ds e:=by grind[KS]
theorem mkE.child {ds:List DataD}{e x:Exp}(h:mkE ds e)(hx:x∈e.children):mkE ds x:=by grind[KS]
theorem mkE1.wf1 {ds:List DataD}{e:Exp}(h:mkE1 ds e):e.wf1:=by
 obtain⟨_,_,_,_,_,h⟩:=h;unfold Exp.wf1;rcases h with ⟨k,_,hk,ha⟩|⟨k,_,hk,ha⟩|⟨k,_,hk,ha⟩|⟨k,_,⟨x,hk⟩,ha⟩|⟨k,_,⟨x,y,hk⟩,ha⟩|⟨k,_,⟨x,y,hk⟩,ha⟩|⟨k,_,⟨x,hk⟩,ha⟩|⟨k,_,⟨x,hk⟩,ha⟩<;>grind
theorem mkE.wf {ds:List DataD}{e:Exp}:mkE ds e->e.wf:=by
 induction e using Exp.ind with
 |h e ih=>
  intro h;rw[Exp.wf_eq];exact⟨h.one.wf1,fun x hx=>ih x hx (h.child hx)⟩
theorem mkE.tyBd {ds:List DataD}{e:Exp}:mkE ds e->tyBd e:=by
 induction e using Exp.ind with
 |h e ih=>
  intro h;rw[Ed];exact⟨h.one.2.2.1,fun x hx=>ih x hx (h.child hx)⟩
def ctxOk (n m:Nat)(l:List EntD):Prop:=l.length<=n/\∀x∈l,x.name∈BQ/\(∃c:Nat,x.count=c/\c<=900)/\tyB 0 x.count.toNat x.ty/\x.ty.size<=m
theorem Gz (l:List EntD):∀(i:Nat),∀x∈B1 l i,x∈l
 |0,x,hx=>by simp[B1]at hx
 |i+1,x,hx=>by
  unfold B1 at hx;split at hx
  .exact Gz l i x hx
  .rename_i e he
   split at hx
   .exact Gz l i x hx
   .rcases qp.1 hx with hx|hx
    .exact Gz l i x hx
    grind
def MkR (L:List Int)(ds:List DataD)(B:Nat)(r:V×List Obj):Prop:=∃e J,mkE ds e/\e.weight<=B/\J<=L.length/\r=(expV e,[Am L J])
theorem EK {ds:List DataD}{k num:Int}{s:Str}(h:mkE1 ds (.mk k 0 s num [] [] tz)):mkE ds (.mk k 0 s num [] [] tz):=by
 grind[FO]
theorem GS (k num:Int)(s:Str):(Exp.mk k 0 s num [] [] tz).row=[.int .i64 k,.int .i64 0,.str s,.int .i64 num,.sl [],.sl [],.int .i64 0,.str [],.int .i64 0,.int .i64 0,.sl []]:=by
 rfl
theorem FF (k num:Int)(s:Str):(Exp.mk k 0 s num [] [] tz).weight<=1:=by
 rw[FK];simp
theorem J9 (L:List Int)(ds:List DataD)(hL:L.length<=687194767360){n m:Nat}(hn:n<=1000000)(ctx:List EntD)(hctx:ctxOk n m ctx)(goal:Ty)(hg:goal.size<=687194767360)(I:Nat)(hI:I<=L.length):
 ∃r,MkR L ds 1 r/\(K A).call 83 [.sc (.ptr 0 0),Ar ds,Bc ctx,tyV goal] [Am L I]=some r:=by
 obtain⟨hc1,hc2⟩:=hctx;have hs:=NX (A:=A) ctx (by omega);have hsl:=Hw ctx ctx.length;have hsub:=Gz ctx ctx.length;generalize B1 ctx ctx.length=l at *
 have hi:=EM (A:=A);obtain⟨_,⟨eb,rfl⟩,heq⟩:=Po (A:=A) 687194767360 goal (.mk 4 [73,110,116] 0 0 []) hg (by omega);have hole:∀J,J<=L.length->MkR L ds 1 (expV (.mk 10 0 [] 0 [] [] tz),[Am L J]):=fun J hJ=>
  ⟨_,J,EK (by simp[mkE1,mkS,annT,numB,Exp.kind,Exp.pos,Exp.name,Exp.num,Exp.kids,Exp.arms,Exp.ty,tz,Ty.size_leaf]),FF _ _ _,hJ,rfl⟩
 refine Aw _ (vf:=v83) (by rfl) rfl (by simp) ?_;unfold v83;simp(disch:=try exact zd) [hs];refine Ak (fun i st=>∃fs:List Str,fs.length<=i/\(∀s∈fs,s∈BQ)/\st=⟨[(0,.sc (.ptr 0 0)),(7,.sc (.ptr 64 0)),(8,.sc (.ptr 128 0)),(9,.sc (.arr 193 fs.length)),(10,Bc l),(11,intV i)],
  [(0,some (Am L I)),(64,some (.box (wc goal.row))),(128,some (.box [zi,zi,zs,zi,.nil,.nil,zi,zs,zi,zi,.nil])),(193,some (.arr 1 (wr (Aq fs)) 0))]⟩) l.length ⟨[],by simp,by simp,by simp⟩ ?_ ?_
 .rintro i st hi2 ⟨fs,hf1,hf2,rfl⟩
  obtain⟨x,hx⟩:=Ae hi2;obtain⟨x1,⟨c,hc,hcl⟩,x3,x4⟩:=hc2 x (hsub x (qc hx));obtain⟨_,⟨w,b,rfl⟩,hin⟩:=Vr (A:=A) c (by omega) x.ty goal x3 hg;rw[<-hc]at hin;unfold OP;cases b with
  |true=>
   simp(disch:=try exact zd) [hi2,hx,hin,-getElem?_pos];refine⟨fs++[x.name],by grind,?_,by simp⟩;grind
  |false=>
   simp(disch:=try exact zd) [hi2,hx,hin,-getElem?_pos];grind
 .rintro st ⟨fs,hf1,hf2,rfl⟩
  unfold OP;by_cases hf:fs=[]
  .subst hf
   cases eb with
   |false=>
    simp(disch:=try exact zd) [hi,heq,-getElem?_pos];exact hole I hI
   |true=>
    obtain⟨k2,J1,hk2,hJ1,hc2⟩:=Bv (A:=A) L I 4 hI hL (by omega) (by omega);by_cases hk20:0<k2
    .obtain ⟨q,J2,hq,hJ2,hcq⟩:=Bv (A:=A) L J1 3 hJ1 hL (by omega) (by omega)
     simp(disch:=try exact zd) [hi,heq,hc2,hk20,hcq,-getElem?_pos];exact⟨.mk 3 0 [] q [] [] tz,J2,EK (by grind[mkE1,mkS,annT,numB,Exp.kind,Exp.pos,Exp.name,Exp.num,Exp.kids,Exp.arms,Exp.ty,tz,Ty.size_leaf]),FF _ _ _,hJ2,by rfl⟩
    .simp (disch:=try exact zd) [hi,heq,hc2,hk20,-getElem?_pos]
     exact hole J1 hJ1
  .have hpos:0<fs.length:=qZ.2 hf
   obtain⟨k,J,hk,hJ,hc⟩:=Bv (A:=A) L I 6 hI hL (by omega) (by omega);by_cases hk0:0<k
   .obtain ⟨q,J2,hq,hJ2,hcq⟩:=Bv (A:=A) L J fs.length hJ hL (by omega) (by omega)
    obtain⟨s,hsq⟩:=Ae (l:=fs) (i:=q) (by omega);have hsn:=hf2 s (qc hsq);simp(disch:=try exact zd) [hpos,hc,hk0,hcq,hsq,-getElem?_pos];exact⟨.mk 1 0 s 0 [] [] tz,J2,EK (by grind[mkE1,mkS,annT,numB,Exp.kind,Exp.pos,Exp.name,Exp.num,Exp.kids,Exp.arms,Exp.ty,tz,Ty.size_leaf]),FF _ _ _,hJ2,by rfl⟩
   .have hk1:k=0:=by omega
    cases eb with
    |false=>
     simp(disch:=try exact zd) [hpos,hc,hk0,hi,heq,-getElem?_pos];exact hole J hJ
    |true=>
     obtain⟨k2,J1,hk2,hJ1,hc2⟩:=Bv (A:=A) L J 4 hJ hL (by omega) (by omega);by_cases hk20:0<k2
     .obtain ⟨q,J2,hq,hJ2,hcq⟩:=Bv (A:=A) L J1 3 hJ1 hL (by omega) (by omega)
      simp(disch:=try exact zd) [hpos,hc,hk0,hi,heq,hc2,hk20,hcq,-getElem?_pos];exact⟨.mk 3 0 [] q [] [] tz,J2,EK (by grind[mkE1,mkS,annT,numB,Exp.kind,Exp.pos,Exp.name,Exp.num,Exp.kids,Exp.arms,Exp.ty,tz,Ty.size_leaf]),FF _ _ _,hJ2,by rfl⟩
     .simp (disch:=try exact zd) [hpos,hc,hk0,hi,heq,hc2,hk20,-getElem?_pos]
      exact hole J1 hJ1
theorem XO {k:Nat}(h:k<10000000000):nameOk 97 122 (AJ k):=by
 refine⟨?_,⟨118,rfl,by decide,by decide⟩,?_,?_⟩
 .have:=LV k 10 (by omega) (by omega)
  grind[AJ]
 .intro c hc
  have hd:∀c:UInt8,48<=c.toNat/\c.toNat<=57->H3 c=true:=by
   grind[H3]
  rcases qD.1 hc with rfl|hc
  rfl;grind[UA]
 .intro hk
  have key:∀w∈keyWords,∀c∈w,¬(48<=c.toNat/\c.toNat<=57):=by decide
  grind[numS,UA,List.mem_cons_self,AJ]
theorem LB {n:Nat}{taken:List Str}(h:n+taken.length<9000000000):nameOk 97 122 (AI n taken):=
 XO (by grind[N5])
def lowK (k:Int):Prop:=k=1\/k=4\/k=6\/k=7
def lowE1 (e:Exp):Prop:=(lowK e.kind->nameOk 97 122 e.name)/\(e.kind=2->nameOk 65 90 e.name)/\(¬lowK e.kind->e.kind≠2->e.name=[])/\∀a∈e.arms,∀v∈a.1.vars,nameOk 97 122 v
def lowE (e:Exp):Prop:=e.fold fun e l=>lowE1 e/\∀p∈l,p
theorem DZ (e:Exp):lowE e=(lowE1 e/\∀x∈e.children,lowE x):=by
 have:=Exp.fold_eq (fun e (l:List Prop)=>lowE1 e/\∀p∈l,p) e;unfold lowE;rw[this];simp only[qU]
theorem lowE.one {e:Exp}(h:lowE e):lowE1 e:=by grind[DZ]
theorem lowE.child {e x:Exp}(h:lowE e)(hx:x∈e.children):lowE x:=by grind[DZ]
theorem lowE1.with {e:Exp}{cs:List Exp}(hl:cs.length=e.kids.length+e.arms.length)(h:lowE1 e):lowE1 (AN e cs):=by
 obtain⟨_,_,_,h4⟩:=BX hl;refine⟨h.1,h.2.1,h.2.2.1,fun a ha=>?_⟩;obtain⟨i,hi⟩:=qn.1 ha;have:=h4 i;rw[hi]at this;cases hq:e.arms[i]? with
 |none=>grind
 |some q=>
  rw[hq]at this;simp only[qv,qd]at this;rw[this];exact h.2.2.2 q (qc hq)
theorem Oj {e:Exp}{cs:List Exp}(hl:cs.length=e.kids.length+e.arms.length)(he:lowE e)(hc:∀c∈cs,lowE c):lowE (AN e cs):=by
 rw[DZ,(BX hl).2.2.1];exact⟨he.one.with hl,hc⟩
theorem isVar.low {s:Str}{c:Exp}(h:isVar s c)(hs:nameOk 97 122 s):lowE c:=by
 obtain⟨k,nm,_,_,ks,am⟩:=h;rw[DZ];refine⟨⟨fun _=>nm▸hs,fun q=>by omega,fun q=>absurd (.inl k) q,by grind⟩,fun z hz=>?_⟩;grind[Exp.children]
theorem Za2 {s:Str}(hs:nameOk 97 122 s):lowE (varX s):=(show isVar s (varX s)from⟨rfl,rfl,rfl,rfl,rfl,rfl⟩).low hs
theorem TS {frm to:Str}(ht:nameOk 97 122 to)(e:Exp):lowE e->lowE (repl frm to e):=by
 induction e using Exp.ind with
 |h e ih=>
  intro h;by_cases hk:e.kind=1
  .rw [EF hk]
   split
   .rw [DZ]
    exact⟨⟨fun _=>ht,fun q=>absurd (show e.kind=2 from q) (by omega),fun q=>absurd (show lowK e.kind from .inl hk) q,h.one.2.2.2⟩,fun x hx=>h.child hx⟩
   omega
  .rw [Eg hk]
   refine Oj (replC_len frm to e) h fun c hc=>?_;obtain⟨i,hi⟩:=qn.1 hc;obtain⟨x,hx⟩:=Ae (l:=e.children) (i:=i) (by have:=(qf.1 hi).1;simp_all);rw[DO hx]at hi;cases hi;have hm:=qc hx;split
   .exact h.child hm
   .exact ih x hm (h.child hm)
theorem Ut {x:Str}{free vars:List Str}{b:Exp}(hn:inj vars)(hx:x∉vars)(hs:shp b)(hp:properP b)(hl:b.weight+vars.length+free.length<=4000000000)(hb:lowE b)(hv:∀s∈vars,nameOk 97 122 s):
 ∀k,k<=vars.length->lowE (BF x free vars b k).2/\∀s∈(BF x free vars b k).1,nameOk 97 122 s
 |0,_=>⟨hb,hv⟩
 |k+1,hk=>by
  obtain⟨h1,h2⟩:=Ut (free:=free) hn hx hs hp hl hb hv k (by omega);have ho:=GW (free:=free) hn hx hs hp k (by omega);rw[GM];generalize BF x free vars b k=p at *
  obtain⟨vs,bk⟩:=p;simp only at *
  unfold D3;simp only;cases hv2:vs[k]? with
  |none=>grind
  |some v=>
   simp only;split;grind
   .have hal:=E9 bk ho.shape.wf
    have hf:nameOk 97 122 (AI 0 (allP bk++vs++free++[x])):=LB (by have:=ho.weight;have:=ho.len;grind);grind[TS]
theorem Zb3 {x:Str}{free:List Str}{e:Exp}(hs:shp e)(hp:properP e)(h:lowE e)(hl:e.weight+free.length<=2000000000):lowE (Bd x free e):=by
 have hal:=E9 e hs.wf;unfold Bd;by_cases hk:e.kind=4\/e.kind=6\/e.kind=7
 .rw [if_pos hk]
  obtain⟨ha,hc⟩:=Ef (by omega) hs.one;unfold CG;split;omega
  .have hf:nameOk 97 122 (AI 0 (allP e++free++[x])):=LB (by grind)
   generalize AI 0 (allP e++free++[x])=to at hf |-;rw[DZ];refine⟨⟨fun _=>hf,fun q=>absurd (show e.kind=2 from q) (by omega),fun q=>absurd (show lowK e.kind from .inr hk) q,h.one.2.2.2⟩,fun y hy=>?_⟩;have hc':∀ks,(Exp.mk e.kind e.pos to e.num ks e.arms e.ty).children=ks:=fun ks=>by grind[B2]
   rw[hc']at hy;obtain⟨⟨z,i⟩,hz,rfl⟩:=qH.1 hy;have hzk:=qc (qar.1 hz);simp only;split
   .exact h.child (AO hzk)
   .exact TS hf _ (h.child (AO hzk))
 .rw [if_neg hk]
  by_cases h8:e.kind=8
  .rw [if_pos h8]
   have harm:∀p∈e.arms,lowE (armP x free p).2/\∀s∈(armP x free p).1.vars,nameOk 97 122 s:=by
    intro p hm;have hnp:lowE p.2:=h.child (BA hm);have hv:=h.one.2.2.2 p hm;have hvl:=Exp.vars_le hm;have hwl:=Exp.child_lt (BA hm);unfold armP;split;grind
    .rename_i hx
     exact Ut (hp.one p hm) hx (hs.child (BA hm)) (hp.child (BA hm)) (by omega) hnp hv p.1.vars.length (qg _)
   rw[DZ];refine⟨⟨h.one.1,h.one.2.1,h.one.2.2.1,fun a ha=>?_⟩,fun y hy=>?_⟩
   .obtain ⟨p,hp',rfl⟩:=qH.1 (show a∈e.arms.map (armP x free) from ha)
    grind
   .rw [B2] at hy
    rcases qp.1 hy with hy|hy
    .exact h.child (AO hy)
    grind
  grind
theorem OW {x:Str}{b:Exp}(hb:lowE b)(hbl:b.weight<=1000000000):∀(n:Nat) (e:Exp),e.weight<=n->e.weight<=1000000000->shp e->properP e->lowE e->lowE (subN n e x b)
 |0,e,_,_,_,_,hn=>hn
 |n+1,e,h,hl,hs,hp,hn=>by
  rw[Fq];by_cases hk:e.kind=1;grind
  .rw [if_neg hk]
   have hP:=Fo (x:=x) (b:=b) hs hp;have hfl:=G2 b;have hN:=Zb3 (x:=x) (free:=Ag b) hs hp hn (by omega);generalize Bd x (Ag b) e=e' at hP hN |-;refine Oj (subC_len n e' x b) hN fun y hy=>?_;obtain⟨i,hi⟩:=qn.1 hy;obtain⟨x1,hx1⟩:=Ae (l:=e'.children) (i:=i) (by have:=(qf.1 hi).1;simp_all);obtain⟨x0,hx0⟩:=Ae (l:=e.children) (i:=i) (by grind[DM]);have hK:=hP.kids i x0 x1 hx0 hx1
   have hlt:=Exp.child_lt (qc hx0);have hw:=hK.weight;rw[Eu hx1]at hi;cases hi;split
   .exact hN.child (qc hx1)
   .exact OW hb hbl n x1 (by omega) (by omega) hK.shape hK.proper (hN.child (qc hx1))
theorem DQ {e:Exp}:lowE e->nmL e:=by
 induction e using Exp.ind with
 |h e ih=>
  intro h s hs;have l12:∀{lo hi:Nat} {s:Str},nameOk lo hi s->s.length<=1000:=fun q=>qt q.1 (by decide);have hnm:e.name.length<=1000:=by
   by_cases hk:lowK e.kind
   .exact l12 (h.one.1 hk)
   .by_cases h2:e.kind=2
    .exact l12 (h.one.2.1 h2)
    .rw [h.one.2.2.1 hk h2]
     decide
  rcases A3.1 hs with h1|⟨i,x,hx,h1|h1⟩
  grind
  .rw [Bt] at h1
   split at h1;grind
   .split at h1
    .cases ha:e.arms[i-1]? with
     |none=>grind
     |some a=>
      rw[ha]at h1;exact l12 (h.one.2.2.2 a (qc ha) s h1)
    grind
  .have hm:=qc hx
   exact ih x hm (h.child hm) s h1
def GV (e:Exp):Prop:=1<=e.kind/\e.kind<=11/\((e.kind≠3->e.num=0)/\0<=e.num/\e.num<=999999999)/\e.ty.size<=687194767360/\annT e/\(e.kind=8->e.arms≠[])/\∀a∈e.arms,nameOk 65 90 a.1.con/\a.1.vars.length<=2
def fixE (e:Exp):Prop:=e.fold fun e l=>GV e/\∀p∈l,p
theorem Fh (e:Exp):fixE e=(GV e/\∀x∈e.children,fixE x):=by
 have:=Exp.fold_eq (fun e (l:List Prop)=>GV e/\∀p∈l,p) e;unfold fixE;rw[this];simp only[qU]
theorem fixE.one {e:Exp}(h:fixE e):GV e:=by grind[Fh]
theorem fixE.child {e x:Exp}(h:fixE e)(hx:x∈e.children):fixE x:=by grind[Fh]
theorem MK {a c:Exp}(h1:a.kind=c.kind)(h2:a.num=c.num)(h3:a.ty=c.ty)(h4:a.arms.length=c.arms.length)(h5:∀(i:Nat) p q,a.arms[i]?=some p->c.arms[i]?=some q->p.1.con=q.1.con/\p.1.vars.length=q.1.vars.length)(h:GV a):GV c:=by
 obtain⟨g1,g2,g3,g4,g5,g6,g7⟩:=h;refine⟨h1▸g1,h1▸g2,?_,h3▸g4,⟨fun q=>h3▸g5.1 (h1▸q),fun q=>h3▸g5.2 (h1▸q)⟩,fun q=>?_,fun q hq=>?_⟩;omega;grind
 .obtain ⟨i,hi⟩:=qn.1 hq
  obtain⟨p,hp⟩:=Ae (l:=a.arms) (i:=i) (by grind);grind
theorem isVar.fix {s:Str}{c:Exp}(h:isVar s c):fixE c:=by
 obtain⟨k,_,nu,ty,ks,am⟩:=h;rw[Fh];refine⟨⟨by omega,by omega,⟨fun _=>nu,by omega,by omega⟩,by rw[ty];decide,⟨fun _=>ty,fun q=>by omega⟩,fun q=>by omega,by grind⟩,fun z hz=>?_⟩;grind[Exp.children]
theorem instR.fix (a:Exp):∀(c:Exp) (V:Rep),instR a c V->fixE a->(∀s d,V s d->fixE d)->fixE c:=by
 induction a using Exp.ind with
 |h a ih=>
  intro c V h ht hv;by_cases hk:a.kind=1
  .exact hv _ _ (h.var hk)
  .obtain ⟨h1,h2,h3,h4⟩:=h.node hk
   rw[Fh];refine⟨MK h1.1 h1.2.1 h1.2.2.1 h1.2.2.2.2 h3 ht.one,fun y hy=>?_⟩;obtain⟨i,hi⟩:=qn.1 hy;obtain⟨x,hx⟩:=Ae (l:=a.children) (i:=i) (by rw[h1.children];grind);refine ih x (qc hx) y _ (h4 i x y hx hi) (ht.child (qc hx)) fun s d hd=>?_;rcases hd with ⟨_,t,_,_,hvv⟩|⟨_,q,_⟩
   .exact hvv.fix
   grind
theorem ZcE {e:Exp}{cs:List Exp}(hl:cs.length=e.kids.length+e.arms.length)(he:fixE e)(hc:∀c∈cs,fixE c):fixE (AN e cs):=by
 obtain⟨_,h2,h3,h4⟩:=BX hl;rw[Fh,h3];refine⟨MK (a:=e) rfl rfl rfl h2.symm (fun i p q hp hq=>?_) he.one,hc⟩;grind
theorem ZN (s:Str):fixE (varX s):=(show isVar s (varX s)from⟨rfl,rfl,rfl,rfl,rfl,rfl⟩).fix
def lfE (e:Exp):Prop:=lowE e/\fixE e
theorem lfE.child {e x:Exp}(h:lfE e)(hx:x∈e.children):lfE x:=⟨h.1.child hx,h.2.child hx⟩
theorem QC {x:Str}{e b:Exp}(he:okE e)(hb:okE b)(hel:e.weight<=1000000000)(hbl:b.weight<=1000000000)(h:lfE e)(hr:lfE b):lfE (subP e x b):=by
 refine⟨OW hr.1 hbl _ e (qg _) hel he.1 he.2.1 h.1,instR.fix e _ _ (Gr x b hb.1 e.weight e (qg _) he.1 he.2.1) h.2 fun s d hd=>?_⟩;unfold subV at hd;split at hd
 .exact hd▸hr.2
 .exact hd.fix
theorem WJ (a:Exp):∀b,sameP a b->lfE a->lfE b:=by
 induction a using Exp.ind with
 |h a ih=>
  intro b h ha;obtain⟨⟨h1,h2,h3,h4,h5,h6,h7⟩,h8⟩:=BT.1 h;have hk:∀y∈b.children,lfE y:=fun y hy=>by
   obtain⟨i,hi⟩:=qn.1 hy;obtain⟨x,hx⟩:=Ae (l:=a.children) (i:=i) (by rw[h.kids_len];grind);have hm:=qc hx;exact ih x hm y (h8 i x y hx hi) (ha.child hm)
  refine⟨?_,?_⟩
  .rw [DZ]
   obtain⟨g1,g2,g3,g4⟩:=ha.1.one;refine⟨⟨by grind,by grind,by grind,fun q hq=>?_⟩,fun y hy=>(hk y hy).1⟩;obtain⟨i,hi⟩:=qn.1 hq;obtain⟨p,hp⟩:=Ae (l:=a.arms) (i:=i) (by grind);grind
  .rw [Fh]
   exact⟨MK h1 h3 h4 h6 (fun i p q hp hq=>by grind) ha.2.one,fun y hy=>(hk y hy).2⟩
theorem YQ {e:Exp}(h:lfE e):lfE (Ai e):=WJ e _ (Ir e) h
def asz (ρ:Str->Nat)(bs:List Str):Str->Nat:=fun s=>if s∈bs then 0 else ρ s
def cF (e:Exp)(l:List ((Str->Nat)->Nat))(ρ:Str->Nat):Nat:=if e.kind=1 then ρ e.name else (l.zipIdx.map fun p=>p.1 (asz ρ (e.bound p.2))).sum
def cV (e:Exp):(Str->Nat)->Nat:=e.fold cF
theorem Dl {e:Exp}(h:e.kind=1)(ρ:Str->Nat):cV e ρ=ρ e.name:=by
 unfold cV;rw[Exp.fold_eq,cF,if_pos h]
theorem Dm {e:Exp}(h:e.kind≠1)(ρ:Str->Nat):cV e ρ=(e.children.zipIdx.map fun p=>cV p.1 (asz ρ (e.bound p.2))).sum:=by
 unfold cV;rw[Exp.fold_eq,cF,if_neg h,KR]
theorem IB (e:Exp):∀(ρ σ:Str->Nat),(∀s∈Ag e,ρ s<=σ s)->cV e ρ<=cV e σ:=by
 induction e using Exp.ind with
 |h e ih=>
  intro ρ σ h;by_cases hk:e.kind=1
  .grind[Dl,Cu]
  .rw [Dm hk,Dm hk]
   refine Ff _ _ 0 rfl fun i x y hx hy=>?_;rw[hx]at hy;cases hy;refine ih x (qc hx) _ _ fun s hs=>?_;grind[asz,B3]
theorem P4 {α:Type}{f:α×Nat->Nat}:∀(l:List α) (k:Nat),(∀(i:Nat) x,l[i]?=some x->f (x,k+i)=0)->((l.zipIdx k).map f).sum=0
 |[],_,_=>rfl
 |a::l,k,h=>by
  simp only[qa4,qu,qaa];have h1:=h 0 a rfl;have h2:=P4 (f:=f) l (k+1) fun i x hx=>by
   have:=h (i+1) x (by simpa using hx);grind
  grind
theorem Ox (e:Exp)(ρ:Str->Nat)(h:∀s∈Ag e,ρ s=0):cV e ρ=0:=by
 induction e using Exp.ind generalizing ρ with
 |h e ih=>
  by_cases hk:e.kind=1
  .grind[Dl,Cu]
  .rw [Dm hk]
   refine P4 _ 0 fun i x hx=>ih x (qc hx) _ fun s hs=>?_;grind[asz,B3]
theorem Lv {α:Type}{f g h:α×Nat->Nat}:∀(l:List α) (k:Nat),(∀(i:Nat) x,l[i]?=some x->f (x,k+i)<=g (x,k+i)+h (x,k+i))->((l.zipIdx k).map f).sum<=((l.zipIdx k).map g).sum+((l.zipIdx k).map h).sum
 |[],_,_=>by simp
 |a::l,k,hf=>by
  simp only[qa4,qu,qaa];have h1:=hf 0 a rfl;have h2:=Lv (f:=f) (g:=g) (h:=h) l (k+1) fun i x hx=>by
   have:=hf (i+1) x (by simpa using hx);grind
  grind
theorem Yn (e:Exp):∀(ρ σ τ:Str->Nat),(∀s∈Ag e,ρ s<=σ s+τ s)->cV e ρ<=cV e σ+cV e τ:=by
 induction e using Exp.ind with
 |h e ih=>
  intro ρ σ τ h;by_cases hk:e.kind=1
  .grind[Dl,Cu]
  .rw [Dm hk,Dm hk,Dm hk]
   refine Lv _ 0 fun i x hx=>ih x (qc hx) _ _ _ fun s hs=>?_;grind[asz,B3]
theorem Us {M:Nat}(e:Exp):∀(ρ σ:Str->Nat),(∀s∈Ag e,ρ s<=1+M*σ s)->wV e ρ<=e.weight+M*cV e σ:=by
 induction e using Exp.ind with
 |h e ih=>
  intro ρ σ h;have hp:=e.weight_pos;by_cases hk:e.kind=1
  .have:=h e.name ((Cu hk).2 rfl)
   rw[Fm hk,Dl hk];omega
  .rw [F3 hk,Dm hk,e.weight_eq,L3]
   have h1:=Lv (f:=fun p=>wV p.1 (asg ρ (e.bound p.2))) (g:=fun p:Exp×Nat=>p.1.weight) (h:=fun p=>M*cV p.1 (asz σ (e.bound p.2))) e.children 0 fun i x hx=>by
    refine ih x (qc hx) _ _ fun s hs=>?_;have:=fun hb=>h s ((B3 hk).2 ⟨i,x,hx,hs,hb⟩);unfold asg asz;split<;>grind
   have h2:(e.children.zipIdx.map fun p=>M*cV p.1 (asz σ (e.bound p.2))).sum=M*(e.children.zipIdx.map fun p=>cV p.1 (asz σ (e.bound p.2))).sum:=by
    generalize e.children.zipIdx=l
    induction l with
    |nil=>rfl
    |cons a l ih=>simp only[qu,qaa,ih,Nat.mul_add]
   omega
theorem O2 (a:Exp):∀(c:Exp) (V:Rep) (ρ σ:Str->Nat),instR a c V->(∀s∈Ag a,∀d,V s d->cV d σ<=ρ s)->cV c σ<=cV a ρ:=by
 induction a using Exp.ind with
 |h a ih=>
  intro c V ρ σ h hv;by_cases hk:a.kind=1
  .rw [Dl hk]
   exact hv _ ((Cu hk).2 rfl) _ (h.var hk)
  .obtain ⟨h1,h2,h3,h4⟩:=h.node hk
   have hl:c.children.length=a.children.length:=h1.children.symm;rw[Dm (show c.kind≠1 from fun q=>hk (h1.1.trans q)),Dm hk];refine Ff _ _ 0 hl fun i y x hy hx=>?_;refine ih x (qc hx) y _ _ _ (h4 i x y hx hy) fun s hs d hd=>?_;simp only[qaF];rcases hd with ⟨hb,t,ht,_,hvt⟩|⟨hb,hvd,hf⟩
   .rw [Dl hvt.1,hvt.2.1]
    grind[asz]
   .refine qt (IB d _ σ fun u hu=>?_) (qt (hv s ((B3 hk).2 ⟨i,x,hx,hs,hb⟩) d hvd) ?_)<;>grind[asz]
theorem Zdf {x:Str}{b e:Exp}(hb:okE b)(he:okE e)(σ:Str->Nat):cV (subP e x b) σ<=cV e (fun s=>if s=x then cV b σ else σ s):=by
 refine O2 e _ _ _ σ (Gr x b hb.1 e.weight e (qg _) he.1 he.2.1) fun s _ d hd=>?_;unfold subV at hd;split at hd
 .grind
 .rename_i h
  rw[if_neg h,Dl hd.1,hd.2.1];exact qg _
def AP (e:Exp):Nat:=e.fold fun _ l=>1+l.sum
theorem Hx (e:Exp):AP e=1+(e.children.map AP).sum:=Exp.fold_eq _ e
def indV (l:List Str):Str->Nat:=fun s=>if s∈l then 1 else 0
theorem Zaq (e:Exp)(l:List Str):cV e (indV l)<=AP e:=by
 suffices h:∀ρ:Str->Nat,(∀s,ρ s<=1)->cV e ρ<=AP e from h _ fun s=>by unfold indV;split<;>omega
 induction e using Exp.ind with
 |h e ih=>
  intro ρ h;rw[Hx];by_cases hk:e.kind=1
  .have:=h e.name
   rw[Dl hk];omega
  .rw [Dm hk]
   have h1:(e.children.zipIdx.map fun p=>cV p.1 (asz ρ (e.bound p.2))).sum<=(e.children.zipIdx.map fun p=>AP p.1).sum:=Ff _ _ 0 rfl fun i x y hx hy=>by
    rw[hx]at hy;cases hy;exact ih x (qc hx) _ fun s=>by unfold asz;split<;>grind
   have h2:(e.children.zipIdx.map fun p=>AP p.1)=e.children.map AP:=by
    refine qJ fun i=>?_;grind
   rw[h2]at h1;omega
def occB (B:Nat)(e:Exp):Prop:=e.fold fun e l=>(∀(i:Nat) x,e.children[i]?=some x->∀u∈e.bound i,cV x (indV [u])<=B)/\∀p∈l,p
theorem Fg (B:Nat)(e:Exp):occB B e=((∀(i:Nat) x,e.children[i]?=some x->∀u∈e.bound i,cV x (indV [u])<=B)/\∀x∈e.children,occB B x):=by
 have:=Exp.fold_eq (fun e (l:List Prop)=>(∀(i:Nat) x,e.children[i]?=some x->∀u∈e.bound i,cV x (indV [u])<=B)/\∀p∈l,p) e;unfold occB;rw[this];simp only[qU]
theorem occB.one {B:Nat}{e:Exp}(h:occB B e):∀(i:Nat) x,e.children[i]?=some x->∀u∈e.bound i,cV x (indV [u])<=B:=by
 rw[Fg]at h;exact h.1
theorem occB.child {B:Nat}{e x:Exp}(h:occB B e)(hx:x∈e.children):occB B x:=by
 rw[Fg]at h;exact h.2 x hx
theorem M7 {B:Nat}(e:Exp):AP e<=B->occB B e:=by
 induction e using Exp.ind with
 |h e ih=>
  intro h;have hc:∀x∈e.children,AP x<=B:=fun x hx=>by
   have:=GF (qat (f:=AP) hx);rw[Hx]at h;omega
  rw[Fg];exact⟨fun i x hx u _=>qt (Zaq x [u]) (hc x (qc hx)),fun x hx=>ih x hx (hc x hx)⟩
theorem ZaN {l:List Str}{s t:Str}(hs:s∈l)(ht:t∈l)(h:rlast l s=rlast l t):s=t:=by
 unfold rlast at h;rw[if_pos hs,if_pos ht]at h;have h1:=Gd (Fj.2 (List.mem_reverse.2 hs));have h2:=Gd (Fj.2 (List.mem_reverse.2 ht));rw[show Ba l.reverse s=Ba l.reverse t by omega]at h1;grind
theorem isVar.bnd {B:Nat}{s:Str}{c:Exp}(h:isVar s c):occB B c:=by
 have hc:c.children=[]:=by
  obtain⟨_,_,_,_,ks,am⟩:=h;simp[Exp.children,ks,am]
 rw[Fg,hc];exact⟨fun i x hx=>by simp at hx,fun x hx=>by cases hx⟩
theorem Z6 {B:Nat}(a:Exp):∀(c:Exp) (V:Rep),instR a c V->occB B a->(∀s d,V s d->occB B d)->occB B c:=by
 induction a using Exp.ind with
 |h a ih=>
  intro c V h ha hv;by_cases hk:a.kind=1
  .exact hv _ _ (h.var hk)
  .obtain ⟨h1,h2,h3,h4⟩:=h.node hk
   have hl:c.children.length=a.children.length:=h1.children.symm;rw[Fg];have get:∀(i:Nat) y,c.children[i]?=some y->∃x,a.children[i]?=some x:=fun i y hy=>Ae (by grind);refine⟨fun i y hy u hu=>?_,fun y hy=>?_⟩
   .obtain ⟨x,hx⟩:=get i y hy
    have hi:=O2 x y _ (fun s=>if s∈a.bound i/\rlast (a.bound i) s=rlast (c.bound i) u then 1 else 0) (indV [u]) (h4 i x y hx hy) fun s hs d hd=>by
     rcases hd with ⟨hb,t,ht,hr,hvt⟩|⟨hb,hvd,hf⟩
     .rw [Dl hvt.1,hvt.2.1]
      unfold indV;grind
     .rw [Ox d _ fun w hw=>by unfold indV;grind]
      omega
    refine qt hi ?_;by_cases hq:∃v∈a.bound i,rlast (a.bound i) v=rlast (c.bound i) u
    .obtain ⟨v,hvb,hvr⟩:=hq
     refine qt (IB x _ (indV [v]) fun s _=>?_) (ha.one i x hx v hvb);split
     .rename_i hs
      have:s=v:=ZaN hs.1 hvb (hs.2.trans hvr.symm);simp[indV,this]
     .omega
    .rw [Ox x _ fun s _=>if_neg fun q=>hq ⟨s,q⟩]
     omega
   .obtain ⟨i,hi⟩:=qn.1 hy
    obtain⟨x,hx⟩:=get i y hi;refine ih x (qc hx) y _ (h4 i x y hx hi) (ha.child (qc hx)) fun s d hd=>?_;rcases hd with ⟨_,t,_,_,hvt⟩|⟨_,q,_⟩
    .exact hvt.bnd
    .exact hv s d q
theorem QN {B:Nat}{x:Str}{b e:Exp}(hb:okE b)(he:okE e)(h:occB B e)(hr:occB B b):occB B (subP e x b):=by
 refine Z6 e _ _ (Gr x b hb.1 e.weight e (qg _) he.1 he.2.1) h fun s d hd=>?_;unfold subV at hd;split at hd
 .exact hd▸hr
 .exact hd.bnd
theorem TZ {B:Nat}{e:Exp}:∀(l:List Str),(∀v∈l,cV e (indV [v])<=B)->cV e (indV l)<=l.length*B
 |[],_=>by
  have:=Ox e (indV []) fun s _=>by simp[indV]
  omega
 |v::l,h=>by
  have h1:=h v (by simp);have h2:=TZ l fun u hu=>h u (by simp[hu]);have h3:=Yn e (indV (v::l)) (indV [v]) (indV l) fun s _=>by
   unfold indV;grind
  rw[qG,qaR];omega
theorem VI {B:Nat}{x:Str}{e b:Exp}(he:okE e)(hb:okE b)(h:cV e (indV [x])<=B):(subP e x b).weight<=e.weight+B*b.weight:=by
 have h1:=KL (subP e x b) (fun _=>1) (C9 he hb).1 fun _=>qg _;have h2:=KI (x:=x) (b:=b) (e:=e) (n:=e.weight) hb.1 (qg _) he.1 he.2.1 fun _=>1;have h3:=Nr (qg 1) b (fun _=>1) fun _ _=>qg _;have h4:=Us (M:=b.weight) e (fun s=>if s=x then wV b (fun _=>1) else 1) (indV [x]) fun s _=>by
  unfold indV;split<;>simp_all<;>omega
 have h5:=qax b.weight h;rw[Nat.mul_comm B];unfold subP at *
 omega
theorem Tp:∀(l:List (Str×Exp))(e:Exp)(F:List Str),okE e->(∀p∈l,∃t,p.2=varX t)->cV (Az l e) (indV F)<=cV e (indV (F++l.map (·.1)))
 |[],e,F,_,_=>by simp[Az]
 |p::l,e,F,he,hl=>by
  obtain⟨t,ht⟩:=hl p (by simp);have hv:okE p.2:=ht▸Et t;rw[DP];refine qt (Tp l _ F (C9 he hv) fun q hq=>hl q (by simp[hq])) (qt (Zdf hv he _) (IB e _ _ fun s _=>?_));by_cases hs:s=p.1
  .rw [if_pos hs,ht,Dl (show (varX t).kind=1 from rfl)]
   unfold indV;grind
  .rw [if_neg hs]
   unfold indV;grind
theorem Zaz {M N:Nat}(hM:1<=M){l:List (Str×Exp)}{e:Exp}(he:okE e)(hl:∀p∈l,okE p.2/\p.2.weight<=M/\∀q∈l,q.1∉Ag p.2)(h:cV e (indV (l.map (·.1)))<=N):(Az l e).weight<=e.weight+N*M:=by
 have h0:=(IM l e e (HK e) he fun p hp=>(hl p hp).1).2;have h1:=KL (Az l e) (fun _=>1) h0.1 fun _=>qg _;have h2:=Qa hM l e he hl;have h3:=Us (M:=M) e (asgL M l) (indV (l.map (·.1))) fun s _=>by
  unfold asgL indV;by_cases hs:∃p∈l,p.1=s
  .rw [if_pos hs,if_pos (by obtain ⟨p,hp,rfl⟩:=hs;exact qat hp)]
   omega
  .rw [if_neg hs]
   omega
 have h5:=qax M h;rw[Nat.mul_comm N];omega
theorem shp.app {e:Exp}(h:shp e)(h5:e.kind=5):∃f x,e.kids=[f,x]/\shp f/\shp x/\e.arms=[]:=by
 have ha:=h.one.1.2.1 (show ¬e.kind=8 by omega);have hk:e.kids.length=2:=by
  have:=h.one.2.2;rw[h5]at this;exact this
 match hkk:e.kids,hk with
 |[f,x],_=>exact⟨f,x,rfl,h.child (AO (by grind)),h.child (AO (by grind)),ha⟩
theorem IW {P:Exp->Prop}(hP:∀e x,P e->x∈e.children->P x)(e:Exp):shp e->P e->P (Al e).1/\∀x∈(Al e).2,P x:=by
 induction e using Exp.ind with
 |h e ih=>
  intro hs h;by_cases h5:e.kind=5
  .obtain ⟨f,x,hk,sf,sx,ha⟩:=hs.app h5
   grind[AO,HW,qk]
  grind[GA]
theorem NT (e:Exp):shp e->(Al e).1.weight+((Al e).2.map Exp.weight).sum+(Al e).2.length=e.weight:=by
 induction e using Exp.ind with
 |h e ih=>
  intro hs;by_cases h5:e.kind=5
  .obtain ⟨f,x,hk,sf,sx,ha⟩:=hs.app h5
   have:=ih f (AO (by grind)) sf;rw[HW h5 hk,e.weight_eq,Exp.children,hk,ha];grind
  grind[GA]
theorem Zey {e x:Exp}(hs:shp e)(hx:x∈(Al e).2):x.weight<e.weight:=by
 have h1:=NT e hs;have h2:=GF (qat (f:=Exp.weight) hx);grind
theorem Jd:∀(n:Nat)(e:Exp)(l:List Exp),e.weight<=n->shp e->Ds n e l=((Al e).1,(Al e).2++l)
 |0,e,_,h,_=>by have:=e.weight_pos;omega
 |n+1,e,l,h,hs=>by
  unfold Ds;by_cases h5:e.kind=5
  .obtain ⟨f,x,hk,sf,sx,ha⟩:=hs.app h5
   have hf:=Exp.child_lt (e:=e) (x:=f) (AO (by grind));rw[if_pos h5,hk,HW h5 hk];show Ds n f (x::l)=_;rw[Jd n f (x::l) (by omega) sf];simp
  grind[GA]
theorem Hz (e:Exp):(Aj e).length=e.weight:=by
 induction e using Exp.ind with
 |h e ih=>
  have h1:(e.children.map Aj).flatten.length=(e.children.map Exp.weight).sum:=by
   grind[qK]
  have h2:(e.arms.map fun a=>a.1.vars).flatten.length=(e.arms.map fun a=>a.1.vars.length).sum:=by
   rw[qa3,qao];rfl
  rw[GP,e.weight_eq,qG,qP,h1,h2];omega
theorem Mj {e x:Exp}(hx:x∈e.children){s:Str}(h:s∈Aj x):s∈Aj e:=by
 grind[GP]
theorem Pn (e:Exp):∀s∈Ag e,s∈Aj e:=by
 induction e using Exp.ind<;>grind[Cu,GP,B3]
theorem Rb {e f:Exp}(he:okE e)(hk:e.kind=7):(AG e f).weight=1+2*f.weight:=by
 have ha:=he.1.one.1.2.1 (show ¬e.kind=8 by omega);grind[AG,FK]
theorem V4 {B:Nat}{e f:Exp}(he:okE e)(hk:e.kind=7)(h:occB B e)(hf:f∈e.children):occB B (AG e f):=by
 have ha:=he.1.one.1.2.1 (show ¬e.kind=8 by omega);have hc:(AG e f).children=[f,f]:=by grind[AG,B2]
 obtain⟨i,hi⟩:=qn.1 hf;rw[Fg,hc];refine⟨fun j x hx u hu=>?_,fun x hx=>?_⟩
 .have hxf:x=f:=by grind
  subst hxf;refine h.one i x hi u ?_;rw[Bt]at hu |-;have hk2:(AG e x).kind=7:=hk;rw[if_pos (by omega)]at hu |-;exact hu
 .have hxf:x=f:=by grind
  exact hxf▸h.child hf
theorem Ny {B:Nat}:∀(l:List (Str×Exp)) (e:Exp),okE e->occB B e->(∀p∈l,okE p.2/\occB B p.2)->occB B (Az l e)
 |[],_,_,h,_=>h
 |p::l,e,he,h,hl=>by
  obtain⟨h1,h2⟩:=hl p (by simp);rw[DP];exact Ny l _ (C9 he h1) (QN h1 he h h2) fun q hq=>hl q (by simp[hq])
theorem TP {e f:Exp}(he:okE e)(hk:e.kind=7)(h:lfE e)(hf:f∈e.children):lfE (AG e f):=by
 have ha:=he.1.one.1.2.1 (show ¬e.kind=8 by omega);have hc:(AG e f).children=[f,f]:=by grind[AG,B2]
 have hm:∀y∈(AG e f).children,y=f:=fun y hy=>by grind
 refine⟨?_,?_⟩
 .rw [DZ]
  exact⟨h.1.one,fun y hy=>hm y hy▸h.1.child hf⟩
 .rw [Fh]
  exact⟨h.2.one,fun y hy=>hm y hy▸h.2.child hf⟩
theorem KK (l m:List (Str×Exp))(e:Exp):Az (l++m) e=Az m (Az l e):=by
 grind[Az]
theorem Zc {s:Str}(h:s.length<=1000):nmL (varX s):=fun t ht=>by
 rcases A3.1 ht with h1|⟨i,x,hx,_⟩
 .exact h1▸h
 .cases hx
theorem PX:∀(l:List (Str×Exp))(e:Exp),okE e->nmL e->e.weight<=100000000000->(∀p∈l,p.1.length<=1000/\∃t,p.2=varX t/\t.length<=1000)->okE (Az l e)/\nmL (Az l e)/\(Az l e).weight<=e.weight
 |[],_,h1,h2,_,_=>⟨h1,h2,qg _⟩
 |p::l,e,h1,h2,hw,hl=>by
  obtain⟨hp,t,ht,hn⟩:=hl p (by simp);have hwt:(subP e p.1 p.2).weight<=e.weight:=by grind[Wo]
  rw[DP];obtain⟨g1,g2,g3⟩:=PX l (subP e p.1 p.2) (by grind[C9,Et]) (by rw[ht];exact RY h1.1 (Et t).1 h1.2.1 h2 (Zc hn) hw (by rw[QE];omega) hp) (by omega) fun q hq=>hl q (by grind);grind
theorem KC:∀(l:List (Str×Exp))(e:Exp),okE e->lfE e->(∀k,(Az (l.take k) e).weight<=1000000000)->(∀p∈l,okE p.2/\lfE p.2/\p.2.weight<=1000000000)->okE (Az l e)/\lfE (Az l e)
 |[],_,he,h,_,_=>⟨he,h⟩
 |p::l,e,he,h,hw,hl=>by
  obtain⟨h1,h2,h3⟩:=hl p (by simp);rw[DP];refine KC l _ (C9 he h1) (QC he h1 ?_ h3 h h2) (fun k=>?_) fun q hq=>hl q (by grind)
  .have:=hw 0
   grind[Az]
  .have:=hw (k+1)
   grind[DP]
def renL (T:List Str)(vars:List Str):List (Str×Exp):=vars.zipIdx.map fun p=>(p.1,varX (AI p.2 T))
def argL (T:List Str)(args:List Exp):List (Str×Exp):=args.zipIdx.map fun p=>(AI p.2 T,p.1)
theorem Zet (T vars:List Str)(args:List Exp):GC T vars args=renL T vars++argL T args:=rfl
theorem ZcD {T vars:List Str}{p:Str×Exp}(h:p∈renL T vars)(hl:vars.length+T.length<=687194767360):p.1∈vars/\∃t,p.2=varX t/\t.length<=1000:=by
 obtain⟨⟨v,i⟩,hr,rfl⟩:=qH.1 h;have:=qar.1 hr;have hi:=(qf.1 this).1;exact⟨qc this,_,rfl,F7 i T (by simp only at hi;omega)⟩
theorem FQ {T:List Str}{args:List Exp}{p:Str×Exp}(h:p∈argL T args):p.2∈args/\p.1∉T:=by
 obtain⟨⟨y,i⟩,hr,rfl⟩:=qH.1 h;grind[FY]
structure Lim (B:Nat)(e:Exp):Prop where
 bd:occB B e
 wt:(2*B+1)*e.weight<=100000000000
 sm:e.weight<=100000000
theorem Lim.child {B:Nat}{e x:Exp}(h:Lim B e)(hx:x∈e.children):Lim B x:=by
 have h1:=qax (2*B+1) (qbl (Exp.child_lt hx));exact⟨h.bd.child hx,qt h1 h.wt,qt (qbl (Exp.child_lt hx)) h.sm⟩
structure CaseOk (B:Nat)(e k:Exp)(a:ArmH×Exp):Prop where
 ok:okE e
 lf:lfE e
 lm:Lim B e
 kk:e.kids=[k]
 am:a∈e.arms
section
variable {B:Nat}{e k:Exp}{a:ArmH×Exp}(h:CaseOk B e k a)
include h
theorem CaseOk.sum:a.2.weight+a.1.vars.length+k.weight+1<=e.weight:=by
 have h1:(e.children.map Exp.weight).sum=(e.kids.map Exp.weight).sum+((e.arms.map (·.2)).map Exp.weight).sum:=by grind[Exp.children]
 have h2:a.2.weight<=((e.arms.map (·.2)).map Exp.weight).sum:=GF (qat (f:=Exp.weight) (qat (f:=fun x:ArmH×Exp=>x.2) h.am));have h3:a.1.vars.length<=(e.arms.map fun a=>a.1.vars.length).sum:=GF (qat (f:=fun a:ArmH×Exp=>a.1.vars.length) h.am);have h4:=e.weight_eq;rw[h1,h.kk]at h4;grind
theorem CaseOk.kid:k∈e.children:=AO (by rw[h.kk];simp)
theorem CaseOk.args:∀x∈(Al k).2,okE x/\lfE x/\x.weight<=k.weight/\∀s∈Ag x,s∈Aj e:=by
 have hk:=h.kid;have hs:=(h.ok.child hk).1;have h1:=(IW (P:=okE) (fun _ _ q hx=>q.child hx) k hs (h.ok.child hk)).2;have h2:=(IW (P:=lfE) (fun _ _ q hx=>q.child hx) k hs (h.lf.child hk)).2;have h3:=(IW (P:=fun y=>∀s∈Aj y,s∈Aj e) (fun _ _ q hx s hs=>q s (Mj hx hs)) k hs (fun s hs=>Mj hk hs)).2;exact fun x hx=>⟨h1 x hx,h2 x hx,qbl (Zey hs hx),fun s q=>h3 x hx s (Pn x s q)⟩
theorem CaseOk.ren (j:Nat):okE (Az ((renL (Aj e) a.1.vars).take j) a.2)/\nmL (Az ((renL (Aj e) a.1.vars).take j) a.2)/\(Az ((renL (Aj e) a.1.vars).take j) a.2).weight<=a.2.weight:=by
 have hs:=h.sum;have hw:=h.lm.sm;have hm:=BA h.am;have hu:=Hz e;refine PX _ a.2 (h.ok.child hm) (DQ (h.lf.child hm).1) (by omega) fun p hp=>?_;obtain⟨h1,h2⟩:=ZcD (qad hp) (by omega);exact⟨qt (h.lf.1.one.2.2.2 a h.am p.1 h1).1 (by decide),h2⟩
theorem CaseOk.vars:∀v∈a.1.vars,cV a.2 (indV [v])<=B:=by
 obtain⟨i,hi⟩:=qn.1 h.am;have h8:e.kind=8:=qM fun h8=>by
  have:=h.ok.1.wf.one.2.1 h8;rw[this]at hi;simp at hi
 have hc:e.children[1+i]?=some a.2:=by
  unfold Exp.children;rw[h.kk,qS (by simp)];simp[hi]
 refine fun v hv=>h.lm.bd.one _ _ hc v ?_;rw[Bt,if_neg (by omega),if_pos (by omega),show 1+i-1=i by omega,hi];exact hv
theorem CaseOk.occ (j:Nat):cV (Az (renL (Aj e) a.1.vars) a.2) (indV (((argL (Aj e) (Al k).2).take j).map (·.1)))<=2*B:=by
 have hm:=BA h.am;refine qt (Tp _ _ _ (h.ok.child hm) fun p hp=>?_) (qt (IB _ _ (indV a.1.vars) fun s hs=>?_) (qt (TZ _ h.vars) (qE B (h.lf.2.one.2.2.2.2.2.2 a h.am).2)))
 .obtain ⟨q,_,rfl⟩:=qH.1 hp
  exact⟨_,rfl⟩
 .have hmap:(renL (Aj e) a.1.vars).map (·.1)=a.1.vars:=by
   refine qJ fun i=>?_;simp only[renL,qq,qaB];cases a.1.vars[i]?<;>rfl
  rw[hmap];unfold indV;by_cases hv:s∈a.1.vars
  .rw [if_pos hv]
   split<;>omega
  .rw [if_neg fun q => ?_]
   .omega
   .rcases qp.1 q with q|q
    .obtain ⟨p,hp,rfl⟩:=qH.1 q
     exact(FQ (qad hp)).2 (Mj hm (Pn _ _ hs))
    .exact hv q
theorem CaseOk.sub (j:Nat):okE (Az ((argL (Aj e) (Al k).2).take j) (Az (renL (Aj e) a.1.vars) a.2))/\nmL (Az ((argL (Aj e) (Al k).2).take j) (Az (renL (Aj e) a.1.vars) a.2))/\
 (Az ((argL (Aj e) (Al k).2).take j) (Az (renL (Aj e) a.1.vars) a.2)).weight<=(2*B+1)*e.weight:=by
 obtain⟨r1,r2,r3⟩:=h.ren (renL (Aj e) a.1.vars).length;have ho:=h.occ;rw[qbm]at r1 r2 r3;generalize Az (renL (Aj e) a.1.vars) a.2=b at *
 have hs:=h.sum;have hw:=h.lm.wt;have hsm:=h.lm.sm;have hkp:=k.weight_pos;have hul:=Hz e;have hA:=h.args;have hal:=NT k (h.ok.child h.kid).1;have hL:∀p∈argL (Aj e) (Al k).2,okE p.2/\p.2.weight<=k.weight/\∀q∈argL (Aj e) (Al k).2,q.1∉Ag p.2:=fun p hp=>by
  obtain⟨a1,_,a3,a4⟩:=hA p.2 (FQ hp).1;exact⟨a1,a3,fun q hq hf=>(FQ hq).2 (a4 _ hf)⟩
 have hT:∀j,(Az ((argL (Aj e) (Al k).2).take j) b).weight<=(2*B+1)*e.weight:=fun j=>by
  have h1:=Zaz (N:=2*B) hkp r1 (fun p hp=>by
   obtain⟨h1,h2,h3⟩:=hL p (qad hp);exact⟨h1,h2,fun q hq=>h3 q (qad hq)⟩) (ho j)
  have h2:2*B*k.weight+1*(a.2.weight+a.1.vars.length+1)<=(2*B+1)*e.weight:=by
   have h3:2*B*k.weight<=2*B*e.weight:=qax _ (by omega);rw[qaR];omega
  omega
 refine⟨(IM _ b b (HK b) r1 fun p hp=>(hL p (qad hp)).1).2,T4 _ b r1 r2 (fun i=>?_) fun p hp=>?_,hT j⟩
 .rw [List.take_take]
  exact qt (hT _) hw
 .obtain ⟨a1,a2,a3,_⟩:=hA p.2 (FQ (qad hp)).1
  refine⟨a1,DQ a2.1,by omega,?_⟩;obtain⟨⟨y,i⟩,hr,rfl⟩:=qH.1 (qad hp);have hi:=(qf.1 (qar.1 hr)).1;simp only at hi;exact F7 i _ (by omega)
theorem CaseOk.keeps:occB B (Az (argL (Aj e) (Al k).2) (Az (renL (Aj e) a.1.vars) a.2))/\((2*B+1)*e.weight<=1000000000->lfE (Az (argL (Aj e) (Al k).2) (Az (renL (Aj e) a.1.vars) a.2))):=by
 have hm:=BA h.am;have hs:=h.sum;have hul:=Hz e;have hsm:=h.lm.sm;have hA:=h.args;have hr:∀p∈renL (Aj e) a.1.vars,∃t,p.2=varX t/\nameOk 97 122 t:=fun p hp=>by
  obtain⟨⟨v,i⟩,hr,rfl⟩:=qH.1 hp;have hi:=(qf.1 (qar.1 hr)).1;simp only at hi;exact⟨_,rfl,LB (by omega)⟩
 have hB:∀x∈(Al k).2,occB B x:=(IW (P:=occB B) (fun _ _ q hx=>q.child hx) k (h.ok.child h.kid).1 (h.lm.bd.child h.kid)).2;have r1:=(h.ren (renL (Aj e) a.1.vars).length).1;rw[qbm]at r1;refine⟨Ny _ _ r1 (Ny _ _ (h.ok.child hm) (h.lm.bd.child hm) fun p hp=>?_) fun p hp=>⟨(hA p.2 (FQ hp).1).1,hB p.2 (FQ hp).1⟩,fun hl=>?_⟩
 .obtain ⟨t,ht,_⟩:=hr p hp
  rw[ht];exact⟨Et t,(show isVar t (varX t)from⟨rfl,rfl,rfl,rfl,rfl,rfl⟩).bnd⟩
 .have hle:e.weight<=(2*B+1)*e.weight:=qa7 _ (by omega)
  obtain⟨q1,q2⟩:=KC (renL (Aj e) a.1.vars) a.2 (h.ok.child hm) (h.lf.child hm) (fun i=>qt (h.ren i).2.2 (by omega)) fun p hp=>by
   obtain⟨t,ht,hn⟩:=hr p hp;rw[ht];exact⟨Et t,⟨Za2 hn,ZN t⟩,by rw[QE];omega⟩
  exact(KC _ _ q1 q2 (fun i=>qt (h.sub i).2.2 hl) fun p hp=>by
   obtain⟨a1,a2,a3,_⟩:=hA p.2 (FQ hp).1;exact⟨a1,a2,by omega⟩).2
end
def StB (B:Nat)(e x:Exp):Prop:=x.weight<=(2*B+1)*e.weight/\occB B x/\((2*B+1)*e.weight<=1000000000->lfE x)
theorem Hp {B:Nat}:∀(n:Nat) (e:Exp) (p:Exp×Nat),e.weight<=n->okE e->lfE e->Lim B e->AV subP Aj AG n e=some p->StB B e p.1
 |0,_,_,_,_,_,_,h=>by cases h
 |n+1,e,p,hn,he,hl,hw,h=>by
  have hpos:=e.weight_pos;have hle:e.weight<=(2*B+1)*e.weight:=qa7 _ (by omega);have hwt:=hw.wt;have one:∀c,c∈e.children->StB B e c:=fun c hc=>⟨by have:=Exp.child_lt hc;omega,hw.bd.child hc,fun _=>hl.child hc⟩
  have sub:∀(x:Str) (b y:Exp),okE b->okE y->occB B b->occB B y->lfE b->lfE y->cV b (indV [x])<=B->b.weight+B*y.weight<=(2*B+1)*e.weight->y.weight<=1000000000->StB B e (subP b x y):=fun x b y g1 g2 g3 g4 g5 g6 g7 g8 g9=>
   ⟨qt (VI g1 g2 g7) g8,QN g2 g1 g3 g4,fun q=>QC g1 g2 (by omega) g9 g5 g6⟩
  have up:∀(c:Exp) (q:Exp×Nat),c∈e.children->e.kind=5\/e.kind=8->e.children.head?=some c->StB B c q.1->StB B e (AN e (q.1::e.children.tail)):=by
   intro c q hc h58 hh hq;obtain⟨hq1,hq2,hq3⟩:=hq;have hcl:=Exp.child_lt hc;have hlen:(q.1::e.children.tail).length=e.kids.length+e.arms.length:=by
    have:=e.children_len;grind
   have hmono:(2*B+1)*c.weight<=(2*B+1)*e.weight:=qax _ (by omega);refine⟨?_,?_,fun ql=>?_⟩
   .have h1:=PI hlen
    have h2:=e.weight_eq;cases hcc:e.children with
    |nil=>grind
    |cons d l=>
     rw[hcc]at hh h1 h2;simp only[List.head?_cons,qd]at hh;subst hh;simp only[List.tail_cons,qu,qaa]at h1 h2;rw[List.tail_cons];have h3:(2*B+1)*e.weight=(2*B+1)*d.weight+(2*B+1)*(e.weight-d.weight):=(by rw[<-Nat.mul_add];congr 1;omega);have h4:e.weight-d.weight<=(2*B+1)*(e.weight-d.weight):=qa7 _ (by omega);omega
   .rw [Fg,(BX hlen).2.2.1]
    refine⟨fun i x hx u hu=>?_,fun y hy=>?_⟩
    .rw [HT hlen] at hu
     cases i with
     |zero=>
      rw[Bt]at hu;split at hu
      .omega
      .rw [if_neg (by omega)] at hu
       cases hu
     |succ i=>exact hw.bd.one (i+1) x (by grind) u hu
    .rcases qD.1 hy with rfl|hy
     .exact hq2
     .exact hw.bd.child (List.mem_of_mem_tail hy)
   .have hmem:∀y∈q.1::e.children.tail,lfE y:=fun y hy=>by
     rcases qD.1 hy with rfl|hy
     .exact hq3 (by omega)
     .exact hl.child (List.mem_of_mem_tail hy)
    exact⟨Oj hlen hl.1 fun y hy=>(hmem y hy).1,ZcE hlen hl.2 fun y hy=>(hmem y hy).2⟩
  unfold AV at h;split at h
  .rename_i f a hk
   have hf:f∈e.children:=AO (by grind);have ha:a∈e.children:=AO (by grind);have hhd:e.children.head?=some f:=(by grind[Exp.children]);have hfl:=Exp.child_lt hf;have hal:=Exp.child_lt ha;have hsum:f.weight+a.weight+1<=e.weight:=by
    have h1:=e.weight_eq;unfold Exp.children at h1;rw[hk]at h1;simp only[qay,qu,qaj,qba,qaa,qbn]at h1;omega
   have hmul:(2*B+1)*(f.weight+a.weight+1)<=(2*B+1)*e.weight:=qax _ hsum;have hex:(2*B+1)*(f.weight+a.weight+1)=2*(B*f.weight)+2*(B*a.weight)+2*B+f.weight+a.weight+1:=(by grind);split at h
   .split at h
    .split at h
     .rename_i k hfk
      cases h;have hkf:=AO (e:=f) (x:=k) (by grind);have hkl:=Exp.child_lt hkf;exact sub _ _ _ ((he.child hf).child hkf) (he.child ha) ((hw.bd.child hf).child hkf) (hw.bd.child ha) ((hl.child hf).child hkf) (hl.child ha)
       ((hw.bd.child hf).one 0 k (by grind[Exp.children]) _ (by rw[Bt];grind)) (by omega) (by have:=hw.sm;omega)
     grind
    .rename_i h5 _
     obtain⟨q,hq,rfl⟩:=qr.1 h;exact up f q hf (.inl h5) hhd (Hp n f q (by omega) (he.child hf) (hl.child hf) (hw.child hf) hq)
   .split at h
    .rename_i h6
     cases h;exact sub _ _ _ (he.child ha) (he.child hf) (hw.bd.child ha) (hw.bd.child hf) (hl.child ha) (hl.child hf)
      (hw.bd.one 1 a (by grind[Exp.children]) _ (by rw[Bt];grind)) (by omega) (by have:=hw.sm;omega)
    .split at h
     .rename_i h7
      cases h;have hag:=Rb (f:=f) he h7;have hBa:B*(AG e f).weight=B+2*(B*f.weight):=(by rw[hag];grind);exact sub _ _ _ (he.child ha) (H7 he h7 hf) (hw.bd.child ha) (V4 he h7 hw.bd hf) (hl.child ha) (TP he h7 hl hf)
       (hw.bd.one 1 a (by grind[Exp.children]) _ (by rw[Bt];grind)) (by omega) (by have:=hw.sm;omega)
     grind
  .rename_i k hk
   have hm:k∈e.children:=AO (by grind);have hhd:e.children.head?=some k:=(by grind[Exp.children]);have hkl:=Exp.child_lt hm;split at h
   .cases h
    exact one k hm
   .split at h
    .cases h
     exact one k hm
    .split at h
     .rename_i h8
      split at h
      .rw [Jd k.weight k [] (qg _) (he.child hm).1,qL] at h
       simp only at h;unfold Dn at h;cases hfd:e.arms.find? fun a=>a.1.con==(Al k).1.name with
       |none=>grind
       |some a=>
        rw[hfd]at h;simp only at h;split at h
        .cases h
         have hC:CaseOk B e k a:=⟨he,hl,hw,hk,qaK hfd⟩;obtain⟨s1,s2,s3⟩:=hC.sub (argL (Aj e) (Al k).2).length;rw[qbm]at s1 s2 s3;have hch:Of subP (GC (Aj e) a.1.vars (Al k).2) a.2=Az (argL (Aj e) (Al k).2) (Az (renL (Aj e) a.1.vars) a.2):=by
          rw[Zet,<-KK];rfl
         simp only;rw[hch];exact⟨s3,hC.keeps⟩
        grind
      .obtain ⟨q,hq,rfl⟩:=qr.1 h
       exact up k q hm (.inr h8) hhd (Hp n k q (by omega) (he.child hm) (hl.child hm) (hw.child hm) hq)
     grind
  grind
theorem YZ (e:Exp):fixE e->e.weight+2<=3*AP e:=by
 induction e using Exp.ind with
 |h e ih=>
  intro h;have h1:∀l:List Exp,(∀x∈l,x.weight+2<=3*AP x)->(l.map Exp.weight).sum+2*l.length<=3*(l.map AP).sum:=by
   intro l
   induction l<;>grind
  have h2:=h1 e.children fun x hx=>ih x hx (h.child hx);have h3:(e.arms.map fun a=>a.1.vars.length).sum<=2*e.arms.length:=by
   have:=FJ (l:=e.arms) (f:=fun a=>a.1.vars.length) (g:=fun _=>2) fun a ha=>(h.one.2.2.2.2.2.2 a ha).2;simp only[List.map_const',List.sum_replicate_nat]at this;omega
  have h4:=e.children_len;rw[e.weight_eq,Hx];omega
theorem NZ (e:Exp):AP e<=e.weight:=by
 induction e using Exp.ind with
 |h e ih=>
  have:=FJ (l:=e.children) (f:=AP) (g:=Exp.weight) ih;rw[Hx,e.weight_eq];omega
theorem Lim.small {e:Exp}(h:e.weight<=6000):Lim 6000 e:=⟨M7 e (qt (NZ e) h),by omega,by omega⟩
theorem mkE.low {ds:List DataD}(hc:Em ds){e:Exp}:mkE ds e->lowE e:=by
 induction e using Exp.ind with
 |h e ih=>
  intro h;have hall:∀s∈BQ,nameOk 97 122 s:=by
   intro s hs;simp only[BQ,B8,qp,qD,qY,or_false]at hs;rcases hs with (rfl|rfl|rfl|rfl|rfl|rfl|rfl|rfl)|(rfl|rfl|rfl|rfl|rfl)<;>exact⟨by decide,⟨_,rfl,by decide,by decide⟩,by decide,by decide⟩
  have hcon:∀s,cOk ds s->nameOk 65 90 s:=by
   rintro s (rfl|⟨d,hd,c,hcc,rfl⟩)
   .exact⟨by decide,⟨_,rfl,by decide,by decide⟩,by decide,by decide⟩
   .exact hc d hd c hcc
  obtain⟨_,h2,_,_,_,h6⟩:=h.one;rw[DZ];refine⟨⟨?_,?_,?_,fun a ha v hv=>hall v ((h2 a ha).2.2.2.2 v hv)⟩,fun x hx=>ih x hx (h.child hx)⟩
  .unfold lowK
   rcases h6 with ⟨k,n,_⟩|⟨k,n,_⟩|⟨k,n,_⟩|⟨k,n,_⟩|⟨k,n,_⟩|⟨k,n,_⟩|⟨k,n,_⟩|⟨k,n,_⟩<;>grind
  .rcases h6 with ⟨k,n,_⟩|⟨k,n,_⟩|⟨k,n,_⟩|⟨k,n,_⟩|⟨k,n,_⟩|⟨k,n,_⟩|⟨k,n,_⟩|⟨k,n,_⟩<;>grind
  .unfold lowK
   rcases h6 with ⟨k,n,_⟩|⟨k,n,_⟩|⟨k,n,_⟩|⟨k,n,_⟩|⟨k,n,_⟩|⟨k,n,_⟩|⟨k,n,_⟩|⟨k,n,_⟩<;>grind
theorem mkE.fix {ds:List DataD}(hc:Em ds){e:Exp}:mkE ds e->fixE e:=by
 induction e using Exp.ind with
 |h e ih=>
  intro h;have hcon:∀s,cOk ds s->nameOk 65 90 s:=by
   rintro s (rfl|⟨d,hd,c,hcc,rfl⟩)
   .exact⟨by decide,⟨_,rfl,by decide,by decide⟩,by decide,by decide⟩
   .exact hc d hd c hcc
  obtain⟨_,h2,h3,h4,h5,h6⟩:=h.one;rw[Fh];refine⟨⟨?_,?_,⟨h5.1,h5.2.1,by have:=h5.2.2;omega⟩,h3,h4,?_,fun a ha=>⟨hcon _ (h2 a ha).2.1,(h2 a ha).2.2.1⟩⟩,fun x hx=>ih x hx (h.child hx)⟩
  .rcases h6 with ⟨k,_⟩|⟨k,_⟩|⟨k,_⟩|⟨k,_⟩|⟨k,_⟩|⟨k,_⟩|⟨k,_⟩|⟨k,_⟩<;>omega
  .rcases h6 with ⟨k,_⟩|⟨k,_⟩|⟨k,_⟩|⟨k,_⟩|⟨k,_⟩|⟨k,_⟩|⟨k,_⟩|⟨k,_⟩<;>omega
  .rcases h6 with ⟨k,_⟩|⟨k,_⟩|⟨k,_⟩|⟨k,_⟩|⟨k,_⟩|⟨k,_⟩|⟨k,_⟩|⟨k,_,_,ha⟩<;>grind
theorem mkE.shp {ds:List DataD}{e:Exp}:mkE ds e->shp e:=by
 induction e using Exp.ind with
 |h e ih=>
  intro h;obtain⟨h1,h2,h3,h4,h5,h6⟩:=h.one;rw[DD];refine⟨⟨h.one.wf1,fun k=>⟨h5.1 (by omega),h4.1 (by omega)⟩,?_⟩,fun x hx=>ih x hx (h.child hx)⟩;rcases h6 with ⟨k,_,hk,_⟩|⟨k,_,hk,_⟩|⟨k,_,hk,_⟩|⟨k,_,⟨x,hk⟩,_⟩|⟨k,_,⟨x,y,hk⟩,_⟩|⟨k,_,⟨x,y,hk⟩,_⟩|⟨k,_,⟨x,hk⟩,_⟩|⟨k,_,⟨x,hk⟩,_⟩
  .rw[hk,k];rfl
  .rw[hk,k];rfl
  .rw[hk];rcases k with k | k<;>rw[k]<;>rfl
  .rw[hk,k];rfl
  .rw[hk,k];rfl
  .rw[hk];rcases k with k | k<;>rw[k]<;>rfl
  .rw[hk];rcases k with k | k<;>rw[k]<;>rfl
  .rw[hk,k];rfl
theorem mkE.proper {ds:List DataD}{e:Exp}:mkE ds e->properP e:=by
 induction e using Exp.ind with
 |h e ih=>
  intro h;rw[D1];exact⟨fun a ha=>Zbw (h.one.2.1 a ha).2.2.2.1,fun x hx=>ih x hx (h.child hx)⟩
theorem mkE.con {ds:List DataD}(hc:Em ds){e:Exp}:mkE ds e->conV e:=by
 induction e using Exp.ind with
 |h e ih=>
  intro h;rw[DB];refine⟨fun a ha k hk=>?_,fun x hx=>ih x hx (h.child hx)⟩;have hcon:nameOk 65 90 a.1.con:=by
   rcases (h.one.2.1 a ha).2.1 with q|⟨d,hd,c,hcc,q⟩
   .rw [q]
    exact⟨by decide,⟨_,rfl,by decide,by decide⟩,by decide,by decide⟩
   .rw [q]
    exact hc d hd c hcc
  rw[hk]at hcon;obtain⟨_,⟨c,q1,q2,q3⟩,_⟩:=hcon;unfold AJ at q1;simp only[qQ,qd]at q1;rw[<-q1]at q3;grind
theorem mkE.recZ {ds:List DataD}{e:Exp}:mkE ds e->recZ e:=by
 induction e using Exp.ind with
 |h e ih=>
  intro h;obtain⟨h1,h2,h3,h4,h5,h6⟩:=h.one;rw[EY];exact⟨fun k=>⟨h5.1 (by omega),h4.1 (by omega)⟩,fun x hx=>ih x hx (h.child hx)⟩
def posE (e:Exp):Prop:=e.fold fun e l=>(e.pos=0/\∀a∈e.arms,a.1.pos=0)/\∀p∈l,p
theorem Kj (e:Exp):posE e=((e.pos=0/\∀a∈e.arms,a.1.pos=0)/\∀x∈e.children,posE x):=by
 have:=Exp.fold_eq (fun e (l:List Prop)=>(e.pos=0/\∀a∈e.arms,a.1.pos=0)/\∀p∈l,p) e;unfold posE;rw[this];simp only[qU]
theorem posE.one {e:Exp}(h:posE e):e.pos=0/\∀a∈e.arms,a.1.pos=0:=by grind[Kj]
theorem posE.child {e x:Exp}(h:posE e)(hx:x∈e.children):posE x:=by grind[Kj]
theorem mkE.pos {ds:List DataD}{e:Exp}:mkE ds e->posE e:=by
 induction e using Exp.ind with
 |h e ih=>
  intro h;rw[Kj];exact⟨⟨h.one.1,fun a ha=>(h.one.2.1 a ha).1⟩,fun x hx=>ih x hx (h.child hx)⟩
theorem ZbJ (e:Exp):posE (Ai e):=by
 induction e using Exp.ind with
 |h e ih=>
  rw[Kj];refine⟨?_,fun x hx=>?_⟩
  .rw [E8]
   refine⟨rfl,fun a ha=>?_⟩;grind[DC,F0,qn]
  grind[Ec]
structure StE (e:Exp):Prop where
 ok:okE e
 rz:recZ e
 lf:lfE e
 ps:posE e
theorem mkE.stE {ds:List DataD}(hc:Em ds){e:Exp}(h:mkE ds e):StE e:=⟨⟨h.shp,h.proper,h.con hc⟩,h.recZ,⟨h.low hc,h.fix hc⟩,h.pos⟩
theorem StE.step {B:Nat}{e:Exp}(h:StE e)(hw:Lim B e)(hW:(2*B+1)*e.weight<=1000000000){p:Exp×Nat}(hp:AV subP Aj AG e.weight e=some p):StE (Ai p.1):=by
 obtain⟨h1,h2⟩:=Zaf _ e p h.ok h.rz hp;exact⟨h1,h2,YQ ((Hp _ e p (qg _) h.ok h.lf hw hp).2.2 hW),ZbJ _⟩
variable {A:Af}
def Zf4 (cur:Exp)(acc:List Exp):St:=if acc=[] then ⟨[(1,.sc (.ptr 64 0)),(2,.sc (.ptr 128 0)),(4,.sc .nil)],[(64,some (.box (wc cur.row))),(128,some (.box [zi,zi,zs,zi,.nil,.nil,zi,zs,zi,zi,.nil]))]⟩
 else ⟨[(1,.sc (.ptr 64 0)),(2,.sc (.ptr 128 0)),(4,Di acc)],[(64,some (.box (wc cur.row))),(128,some (.box [zi,zi,zs,zi,.nil,.nil,zi,zs,zi,zi,.nil])),(768,some (.arr 11 (wr (Exp.rows acc)) acc.length))]⟩
variable {A:Af}
theorem Un (e:Exp)(hs:shp e):(Al e).2.length<e.weight:=by
 have h1:=NT e hs;have h3:=(Al e).1.weight_pos;omega
theorem Pa (e:Exp)(hs:shp e)(hl:e.weight<=687194767360):(K A).call 41 [expV e] []=some (.tu [expV (Al e).1,Di (Al e).2],[]):=by
 refine fnO v41 ?_;have hsl:=Un e hs;unfold v41;simp(disch:=try exact zd) [-getElem?_pos];refine Ak (fun i s=>∃cur acc,shp cur/\acc.length=i/\Al e=((Al cur).1,(Al cur).2++acc.reverse)/\
  s=⟨[(1,.sc (.ptr 64 0)),(2,.sc (.ptr 128 0)),(4,.sc (.arr 257 i))],[(64,some (.box (wc cur.row))),(128,some (.box [zi,zi,zs,zi,.nil,.nil,zi,zs,zi,zi,.nil])),(257,some (.arr 11 (wr (Exp.rows acc)) 0))]⟩) (Al e).2.length ⟨e,[],hs,rfl,by simp,by simp⟩ ?_ ?_
 .rintro i s hi ⟨cur,acc,hc,ha,hs,rfl⟩
  have h5:cur.kind=5:=by
   by_cases h5:cur.kind=5
   .exact h5
   .rw [hs,GA h5] at hi
    simp[ha]at hi
  obtain⟨f,x,hfx,sf,sx,har⟩:=hc.app h5;unfold Mh;simp(disch:=try exact zd) [h5,hfx,ha,qQ,-getElem?_pos];refine⟨f,sf,acc++[x],by simp[ha],?_,by simp[ha]⟩;rw[hs,HW h5 hfx];simp
 .rintro s ⟨cur,acc,hc,ha,hs,rfl⟩
  have h5:¬cur.kind=5:=by
   intro h5;obtain⟨f,x,hfx,sf,sx,har⟩:=hc.app h5;rw[hs,HW h5 hfx]at ha;simp at ha;omega
  have hr:(Al e).2=acc.reverse:=by rw[hs,GA h5];simp
  have hc1:(Al e).1=cur:=by rw[hs,GA h5]
  have hv:=VP (A:=A) acc (by omega);unfold Mh;simp(disch:=try exact zd) [h5,hv,hr,hc1,-getElem?_pos]
theorem Qu (e:Exp)(hs:shp e)(hl:e.weight<=687194767360):(K A).call 55 [expV e] []=some (Ac (decide ((Al e).1.kind=2)),[]):=by
 refine fnO v55 ?_;have h1:=Pa (A:=A) e hs hl;unfold v55;by_cases h2:(Al e).1.kind=2
 .simp(disch:=try exact zd) [h1,h2,-getElem?_pos]
 .simp(disch:=try exact zd) [h1,h2,-getElem?_pos]
def valP (e:Exp):Prop:=e.kind=3\/e.kind=4\/(Al e).1.kind=2
instance (e:Exp):Decidable (valP e):=by unfold valP;exact inferInstance
theorem Z3 (e:Exp)(hs:shp e)(hl:e.weight<=687194767360):(K A).call 19 [expV e] []=some (Ac (decide (valP e)),[]):=by
 refine fnO v19 ?_;have h1:=Qu (A:=A) e hs hl;unfold v19 valP;by_cases h3:e.kind=3
 .simp(disch:=try exact zd) [h3,-getElem?_pos]
 .by_cases h4:e.kind=4
  .simp(disch:=try exact zd) [h4,-getElem?_pos]
  .simp(disch:=try exact zd) [h3,h4,h1,-getElem?_pos]
theorem Rm (e:Exp):e.wf->e.weight<=687194767360->(K A).call 71 [expV e] []=some (intV (AP e),[]):=by
 induction e using Exp.ind with
 |h e ih=>
 intro hwf hl;refine fnO v71 ?_;have hle:=e.children_le;have hnw:=NZ e;have hne:=Hx e;by_cases hkids:e.kids=[]
 .have harms:e.arms=[]:=qM fun h=>by
   have h8:e.kind=8:=qM fun h8=>h (hwf.one.2.1 h8);have:=hwf.one.1 h8;rw[hkids]at this;simp at this
  have hc:=Dz (A:=A) e hkids harms;have hch:e.children=[]:=by simp[Exp.children,hkids,harms]
  rw[hch]at hne;simp only[qaj,qbn]at hne;unfold v71;simp(maxSteps:=9^7) (disch:=try exact zd) [hc,-getElem?_pos];refine Ap (fun i=>⟨[(3,intV 1),(7,.sc (.full [])),(8,intV 0),(9,intV i)],[(64,some (.box (wc e.row)))]⟩) 0 ?_ (fun i hi=>by omega) ?_
  .simp
  .unfold IR
   simp(maxSteps:=9^7) (disch:=try exact zd) [hne,-getElem?_pos]
 .have hc:=B7 (A:=A) e hkids (by omega)
  rw[e.children_len]at hc;have hsum:∀i,((e.children.map AP).take i).sum<=(e.children.map AP).sum:=fun i=>DS;unfold v71;simp(maxSteps:=9^7) (disch:=try exact zd) [hc,-getElem?_pos]
  refine Ap (fun i=>⟨[(3,intV ((1+((e.children.map AP).take i).sum:Nat):Int)),(7,.sc (.arr 352 (e.kids.length+e.arms.length))),(8,intV ((e.kids.length:Int)+e.arms.length)),(9,intV i)],[(64,some (.box (wc e.row))),(352,some (.arr 11 (wr (Exp.rows e.children)) 0))]⟩) (e.kids.length+e.arms.length) ?_ ?_ ?_
  .simp
  .intro i hi
   have hi2:(i:Int)<(e.kids.length:Int)+e.arms.length:=(by omega);obtain⟨x,hx⟩:=Ae (l:=e.children) (i:=i) (by rw[e.children_len];exact hi);have hm:=qc hx;have hrec:=ih x hm (hwf.child hm) (by have:=Exp.child_lt hm;omega);have hxm:(e.children.map AP)[i]?=some (AP x):=(by rw[qq,hx];rfl);have hs1:((e.children.map AP).take (i+1)).sum=((e.children.map AP).take i).sum+AP x:=(by rw[Bh hxm];simp)
   have hs2:=hsum (i+1);have hib:(i:Int)+1<=687194767360:=(by have:=e.children_len;omega);rw[hs1];generalize ((e.children.map AP).take i).sum=S at *
   have hadd:IntKind.i64.wrap (((1+S:Nat):Int)+(AP x:Int))=((1+(S+AP x):Nat):Int):=(by rw[H1 _ (by omega)];omega);unfold IR;simp(maxSteps:=9^7) (disch:=try exact zd) [hi,hi2,hx,hrec,hadd,-getElem?_pos];omega
  .have htk:(e.children.map AP).take (e.kids.length+e.arms.length)=e.children.map AP:=qj (by simp [e.children_len])
   rw[htk,<-hne];unfold IR;simp(maxSteps:=9^7) (disch:=try exact zd) [-getElem?_pos]
variable {A:Af}
theorem Ze (s:Str)(h:nameOk 97 122 s):(K A).call 97 [strV s] []=some (Ac false,[]):=by
 refine fnO v97 ?_;have h1:=HE (A:=A) s h;unfold v97;simp(disch:=try exact zd) [h1]
theorem Xv (l:List Str)(hl:l.length<=687194767360)(h:∀s∈l,nameOk 97 122 s):(K A).call 147 [AM l,.sc (.c (.fn 97 [] []))] []=some (intV (-1),[]):=by
 refine fnO v147 ?_;unfold v147;simp(disch:=try exact zd) [-getElem?_pos];refine Ap (fun i=>⟨[(0,AM l),(1,.sc (.c (.fn 97 [] []))),(7,intV l.length),(8,intV i)],[]⟩) l.length ?_ ?_ ?_
 .simp
 .intro i hi
  obtain⟨x,hx⟩:=Ae hi;have h1:=Ze (A:=A) x (h x (qc hx));unfold Iq;simp(disch:=try exact zd) [hi,hx,h1,-getElem?_pos]
 .unfold Iq
  simp(disch:=try exact zd) [-getElem?_pos]
theorem W0 (l:List Str)(hl:l.length<=687194767360)(h:∀s∈l,nameOk 97 122 s):(K A).call 96 [AM l,.sc (.c (.fn 97 [] []))] []=some (Ac false,[]):=by
 refine fnO v96 ?_;have h1:=Xv (A:=A) l hl h;unfold v96;simp(disch:=try exact zd) [h1]
theorem Zfs (l:List Exp)(hl:l.length<=687194767360)(h:∀x∈l,(K A).call 47 [expV x] []=some (Ac true,[])):(K A).call 148 [Di l,.sc (.c (.fn 100 [] []))] []=some (intV (-1),[]):=by
 refine fnO v148 ?_;have hn:∀x∈l,(K A).call 100 [expV x] []=some (Ac false,[]):=by
  intro x hx;have h1:=h x hx;refine fnO v100 ?_;unfold v100;simp(disch:=try exact zd) [h1]
 unfold v148;simp(disch:=try exact zd) [-getElem?_pos];refine Ap (fun i=>⟨[(0,Di l),(1,.sc (.c (.fn 100 [] []))),(7,intV l.length),(8,intV i)],[]⟩) l.length ?_ ?_ ?_
 .simp
 .intro i hi
  obtain⟨x,hx⟩:=Ae hi;have h1:=hn x (qc hx);unfold HP;simp(disch:=try exact zd) [hi,hx,h1,-getElem?_pos]
 .unfold HP
  simp(disch:=try exact zd) [-getElem?_pos]
theorem X9 (l:List Exp)(hl:l.length<=687194767360)(h:∀x∈l,(K A).call 47 [expV x] []=some (Ac true,[])):(K A).call 98 [Di l,.sc (.c (.fn 100 [] []))] []=some (Ac false,[]):=by
 refine fnO v98 ?_;have h1:=Zfs (A:=A) l hl h;unfold v98;simp(disch:=try exact zd) [h1]
theorem Xp:(K A).call 95 [.ag [zi,zs,zi,zi,.c (.sl [])],.ag [zi,zs,zi,zi,.c (.sl [])]] []=some (Ac true,[]):=D7 (n:=20) (by kernel_rfl)
end Go.Vs.Tryz
