/- Substitution by the program, walked, 2. -/
import Derived.Test.YtccmnfpbcmccpaaGreatDoorR5u
set_option linter.unusedSimpArgs false
set_option linter.unusedVariables false
set_option linter.deprecated false
set_option maxHeartbeats 64000000
set_option maxRecDepth 20000
namespace Go.Vs.Tryz
open Go Go.Vs
variable {A:Ab}
theorem RJ (x:Str)(b:Exp)(hb:shp b)(hbl:(Ac b).length<=100000000000)(hbf:∀s∈Ac b,s.length<=1000)(hxl:x.length<=1000):∀(n:Nat)(e:Exp),e.weight<=n->e.weight<=100000000000->shp e->properP e->nmL e->
 (K A).call 202 [.ag (Bf x b (Ac b)),expV e] []=some (expV (subN n e x b),[])
 |0,e,h,_,_,_,_=>by have:=e.weight_pos;omega
 |n+1,e,hn,hl,hs,hp,hnm=>by
  refine fnO v202 ?_;rw[CM];by_cases hk:e.kind=1
  .rw [if_pos hk]
   have hrb:=DR b;unfold v202;by_cases hx:e.name=x
   .rw [if_pos hx]
    simp(maxSteps:=9^7) (disch:=try exact zd) [hk,hx,hrb,-getElem?_pos]
   .rw [if_neg hx]
    simp(maxSteps:=9^7) (disch:=try exact zd) [hk,hx,-getElem?_pos]
  rw[if_neg hk];have hP:=FE (x:=x) (b:=b) hs hp;have hW:=XX hP;have hN:=Wj (x:=x) (b:=b) hs hp hnm (by omega);have hrec:∀y∈(AT x (Ac b) e).children,(K A).call 202 [.ag (Bf x b (Ac b)),expV y] []=some (expV (subN n y x b),[]):=by
   intro y hy;obtain⟨i,hi⟩:=qj.1 hy;obtain⟨x0,h0⟩:=Ag (l:=e.children) (i:=i) (by rw[<-El hP];exact(qf.1 hi).1);have hK:=hP.kids i x0 y h0 hi;have h1:=Exp.child_lt (qd h0);have h2:=hK.weight;exact RJ x b hb hbl hbf hxl n y (by omega) (by omega) hK.shape hK.proper (hN y hy)
  have hs1:=hP.head.shp1 hk hs.one;have hkk:=hP.head.1;have hkl:=hP.head.2.2.2.1;by_cases h4:e.kind=4\/e.kind=6\/e.kind=7
  .have hbd:=Zbt (A:=A) x b (Ac b) e hs h4 (by omega) (by omega) hnm hbf hxl
   have hpe:AT x (Ac b) e=BM x (Ac b) e:=(by unfold AT;rw[if_pos h4]);rw[hpe]at hP hW hN hrec hs1 hkk hkl |-;have hne:(BM x (Ac b) e).kids≠[]:=by
    intro h;have h5:=hs.one.2.2;rw[h]at hkl;unfold CO at h5;simp only[qR]at hkl;split at h5
    .omega
    .rw[if_pos (by omega)]at h5;omega
   generalize BM x (Ac b) e=e' at *
   have hc:=BQ (A:=A) e' hne (by omega);rw[e'.children_len]at hc;have hCl:=subC_len n e' x b;have hw:=Gg (A:=A) e' (subC n e' x b) hCl (by omega);have hrow':=DR e'
   have hrowW:wc (AL e' (subC n e' x b)).row=[.c (.int .i64 e'.kind),.c (.int .i64 e'.pos),.c (.str e'.name),.c (.int .i64 e'.num),.c (.sl (Exp.rows ((subC n e' x b).take e'.kids.length))),.c (.sl (Exp.armRows (AV e'.arms ((subC n e' x b).drop e'.kids.length)))),.c (.int .i64 e'.ty.kind),.c (.str e'.ty.name),.c (.int .i64 e'.ty.id),.c (.int .i64 e'.ty.home),.c (.sl (Ty.rows e'.ty.args))]:=(by rw[Exp.row_eq];rfl)
   have hkW:((subC n e' x b).take e'.kids.length).length=e'.kids.length:=(by rw[qY,hCl];omega);have haW:(AV e'.arms ((subC n e' x b).drop e'.kids.length)).length=e'.arms.length:=(by rw[armsW_len,qaa,hCl];omega);simp only[expV,hrow']at hc hw;unfold v202;rcases h4 with h4|h4|h4
   .rw [h4] at hkk
    simp only[expV,hrow']at hbd;simp(maxSteps:=9^7) (disch:=try exact zd) [hk,h4,hbd,hc,-getElem?_pos];refine wp_mono (JX (A:=A) x b (Ac b) n e' hs1.1 (by omega) hrec) ?_;rintro _ _ ⟨rfl,rfl⟩;simp(maxSteps:=9^7) (disch:=try exact zd) [hw,hrowW,hCl,hkW,haW,-getElem?_pos]
   .rw [h4] at hkk
    simp only[expV,hrow']at hbd;simp(maxSteps:=9^7) (disch:=try exact zd) [hk,h4,hbd,hc,-getElem?_pos];refine wp_mono (JX (A:=A) x b (Ac b) n e' hs1.1 (by omega) hrec) ?_;rintro _ _ ⟨rfl,rfl⟩;simp(maxSteps:=9^7) (disch:=try exact zd) [hw,hrowW,hCl,hkW,haW,-getElem?_pos]
   .rw [h4] at hkk
    simp only[expV,hrow']at hbd;simp(maxSteps:=9^7) (disch:=try exact zd) [hk,h4,hbd,hc,-getElem?_pos];refine wp_mono (JX (A:=A) x b (Ac b) n e' hs1.1 (by omega) hrec) ?_;rintro _ _ ⟨rfl,rfl⟩;simp(maxSteps:=9^7) (disch:=try exact zd) [hw,hrowW,hCl,hkW,haW,-getElem?_pos]
  .have hpe4:∀ y z:Exp,(if e.kind=4\/e.kind=6\/e.kind=7 then y else z)=z:=fun y z=>if_neg h4
   have k4:¬e.kind=4:=fun h=>h4 (.inl h);have k6:¬e.kind=6:=fun h=>h4 (.inr (.inl h));have k7:¬e.kind=7:=fun h=>h4 (.inr (.inr h));by_cases h8:e.kind=8
   .have hk1:=hs.one.1.1 h8
    have hpe:AT x (Ac b) e=.mk e.kind e.pos e.name e.num e.kids (e.arms.map (armP x (Ac b))) e.ty:=(by unfold AT;rw[if_neg h4,if_pos h8]);rw[hpe]at hP hW hN hrec hs1 hkk hkl |-;have hne:e.kids≠[]:=fun h=>by rw[h]at hk1;simp at hk1
    have hml:=e.children_le;rw[e.children_len]at hml;have harm:∀p∈e.arms,(K A).call 224 [.ag (Bf x b (Ac b)),armV p] []=some (armV (armP x (Ac b) p),[]):=by
     intro p hm;have h1:=Exp.vars_le hm;have h2:=Exp.child_lt (BB hm);obtain⟨j,hj⟩:=qj.1 hm;refine YG x b (Ac b) p (hp.one p hm) (hs.child (BB hm)) (hp.child (BB hm)) (by omega) (hnm.child (D3 hj)) (fun s hs'=>?_) hbf hxl;refine hnm s (A3.2 (.inr ⟨e.kids.length+j,p.2,D3 hj,.inl ?_⟩));rw[Bk,if_neg (by omega),if_pos ⟨h8,by omega⟩,hk1,show 1+j-1=j by omega,hj];exact hs'
    have hcl:=ZcH (A:=A) e.arms (by omega);have hag:∀(i:Nat) p,e.arms[i]?=some p->(e.arms.map (armP x (Ac b)))[i]?=some (armP x (Ac b) p):=fun i p h=>by rw[qq,h];rfl
    have ham:(e.arms.map (armP x (Ac b))).length=e.arms.length:=(by simp);generalize e.arms.map (armP x (Ac b))=am at *
    obtain⟨e',he'⟩:∃e',e'=Exp.mk e.kind e.pos e.name e.num e.kids am e.ty:=⟨_,rfl⟩;have q1:e'.kids=e.kids:=(by rw[he'];rfl);have q2:e'.arms=am:=(by rw[he'];rfl);have q3:e'.kind=e.kind:=(by rw[he'];rfl);have q4:e'.pos=e.pos:=(by rw[he'];rfl);have q5:e'.name=e.name:=(by rw[he'];rfl);have q6:e'.num=e.num:=(by rw[he'];rfl);have q7:e'.ty=e.ty:=(by rw[he'];rfl);rw[<-he']at hP hW hN hrec hs1 hkk hkl |-
    have hc:=BQ (A:=A) e' (by rw[q1];exact hne) (by omega);rw[e'.children_len]at hc;have hCl:=subC_len n e' x b;have hw:=Gg (A:=A) e' (subC n e' x b) hCl (by omega);have hrow':=DR e';have hrow0:=DR e
    have hrowW:wc (AL e' (subC n e' x b)).row=[.c (.int .i64 e'.kind),.c (.int .i64 e'.pos),.c (.str e'.name),.c (.int .i64 e'.num),.c (.sl (Exp.rows ((subC n e' x b).take e'.kids.length))),.c (.sl (Exp.armRows (AV e'.arms ((subC n e' x b).drop e'.kids.length)))),.c (.int .i64 e'.ty.kind),.c (.str e'.ty.name),.c (.int .i64 e'.ty.id),.c (.int .i64 e'.ty.home),.c (.sl (Ty.rows e'.ty.args))]:=(by rw[Exp.row_eq];rfl)
    have hkW:((subC n e' x b).take e'.kids.length).length=e'.kids.length:=(by rw[qY,hCl];omega);have haW:(AV e'.arms ((subC n e' x b).drop e'.kids.length)).length=e'.arms.length:=(by rw[armsW_len,qaa,hCl];omega);have hloop:=XB (A:=A) x b (Ac b) n e' hs1.1 (by omega) hrec;simp only[expV,hrow']at hc hw;simp only[q1,q2,q3,q4,q5,q6,q7,ham]at hc hw hrowW hkW haW hloop hCl;unfold v202
    simp(maxSteps:=9^7) (disch:=try exact zd) [hk,k4,k6,k7,h8,hrow0,hcl,-getElem?_pos];refine Aq (fun i=>⟨[(2,.sc (.ptr 64 0)),(3,.sc (.ptr 128 0)),(4,.sc (.ptr 192 0)),(36,.sc (.arr 2080 e.arms.length)),(37,intV e.arms.length),(38,intV i)],
     [(64,some (.box (Bf x b (Ac b)))),(128,some (.box [.c (.int .i64 8),.c (.int .i64 e.pos),.c (.str e.name),.c (.int .i64 e.num),.c (.sl (Exp.rows e.kids)),.arr 2080 e.arms.length,.c (.int .i64 e.ty.kind),.c (.str e.ty.name),.c (.int .i64 e.ty.id),.c (.int .i64 e.ty.home),.c (.sl (Ty.rows e.ty.args))])),(192,some BL),
       (2080,some (.arr 14 (wr (Exp.armRows (am.take i++e.arms.drop i))) 0))]⟩) e.arms.length ?_ ?_ ?_
    .simp
    .intro i hi
     obtain⟨p,hp'⟩:=Ag hi;have hca:=harm p (qd hp');have hg:=EP (i:=i) ham hi;rw[hp']at hg;have hst:=EJ ham (hag i p hp');have hln:=EN (i:=i) ham;have hset:=fun z=>Kk (am.take i++e.arms.drop i) i z;rw[<-hst];generalize am.take i++e.arms.drop i=zr at *
     have hsp:∀p q:ArmH×Exp,splice (wc (AM p)) 0 (wc (AM q))=some (wc (AM q)):=fun p q=>by rw[AM,AM,Exp.row_eq p.2,Exp.row_eq q.2];rfl
     have hi2:(i:Int)<e.arms.length:=(by omega);unfold Jt;simp(maxSteps:=9^7) (disch:=try exact zd) [hi,hi2,hg,hln,hca,hsp,hset,BY,-getElem?_pos]
    .have htk:am.take e.arms.length++e.arms.drop e.arms.length=am:=by
      rw[qbg,qJ,qn (by omega)]
     rw[htk];rw[h8]at hc hw hrowW hloop;unfold Jt;simp(maxSteps:=9^7) (disch:=try exact zd) [hc,ham,q1,q2,-getElem?_pos];refine wp_mono hloop ?_;rintro _ _ ⟨rfl,rfl⟩;simp(maxSteps:=9^7) (disch:=try exact zd) [hw,hrowW,hCl,hkW,haW,ham,q1,q2,-getElem?_pos]
   .have hpe:AT x (Ac b) e=e:=by unfold AT;rw [if_neg h4,if_neg h8]
    rw[hpe]at hP hW hN hrec hs1 hkk hkl |-;by_cases hkids:e.kids=[]
    .have harms:e.arms=[]:=hs.one.1.2.1 h8
     have hc:=DS (A:=A) e hkids harms;have hC0:subC n e x b=[]:=qS.1 (by rw[subC_len,hkids,harms];rfl);have hw:=Gg (A:=A) e [] (by rw[hkids,harms];rfl) (by omega);rw[hC0];have hr1:Exp.rows []=[]:=(by rw[Exp.rows]);have hr2:Exp.armRows []=[]:=(by rw[Exp.armRows]);have hz:AV [] []=[]:=rfl
     have hrow:wc (AL e []).row=[.c (.int .i64 e.kind),.c (.int .i64 e.pos),.c (.str e.name),.c (.int .i64 e.num),.c (.sl []),.c (.sl []),.c (.int .i64 e.ty.kind),.c (.str e.ty.name),.c (.int .i64 e.ty.id),.c (.int .i64 e.ty.home),.c (.sl (Ty.rows e.ty.args))]:=by
      rw[Exp.row_eq];simp[AL,harms,AV,hr1,hr2,Exp.kind,Exp.pos,Exp.name,Exp.num,Exp.kids,Exp.arms,Exp.ty,wc]
     simp only[exsV,hr1,hkids,harms,qR,List.take_nil,List.drop_nil,hz,hr2]at hw;unfold v202;simp(maxSteps:=9^7) (disch:=try exact zd) [hk,k4,k6,k7,h8,hc,-getElem?_pos]
     refine Aq (fun i=>⟨[(2,.sc (.ptr 64 0)),(3,.sc (.ptr 128 0)),(4,.sc (.ptr 192 0)),(7,.sc (.full [])),(53,.sc (.full [])),(54,intV 0),(55,intV i)],[(64,some (.box (Bf x b (Ac b)))),(128,some (.box (wc e.row))),(192,some BL)]⟩) 0 ?_ (fun i hi=>by omega) ?_
     .simp
     .unfold Fn
      simp(maxSteps:=9^7) (disch:=try exact zd) [hw,hrow,-getElem?_pos]
    .have hne:e.kids≠[]:=hkids
     obtain⟨e',he'⟩:∃e',e'=e:=⟨e,rfl⟩;have hrow0:=DR e;have hc:=BQ (A:=A) e hne (by omega);rw[e.children_len]at hc;have hCl:=subC_len n e x b;have hw:=Gg (A:=A) e (subC n e x b) hCl (by omega);have hrow':=DR e
     have hrowW:wc (AL e (subC n e x b)).row=[.c (.int .i64 e.kind),.c (.int .i64 e.pos),.c (.str e.name),.c (.int .i64 e.num),.c (.sl (Exp.rows ((subC n e x b).take e.kids.length))),.c (.sl (Exp.armRows (AV e.arms ((subC n e x b).drop e.kids.length)))),.c (.int .i64 e.ty.kind),.c (.str e.ty.name),.c (.int .i64 e.ty.id),.c (.int .i64 e.ty.home),.c (.sl (Ty.rows e.ty.args))]:=(by rw[Exp.row_eq];rfl)
     have hkW:((subC n e x b).take e.kids.length).length=e.kids.length:=(by rw[qY,hCl];omega);have haW:(AV e.arms ((subC n e x b).drop e.kids.length)).length=e.arms.length:=(by rw[armsW_len,qaa,hCl];omega);simp only[expV,hrow']at hc hw;unfold v202;simp(maxSteps:=9^7) (disch:=try exact zd) [hk,k4,k6,k7,h8,hrow0,hc,-getElem?_pos];refine wp_mono (JX (A:=A) x b (Ac b) n e hs1.1 (by omega) hrec) ?_
     rintro _ _ ⟨rfl,rfl⟩;simp(maxSteps:=9^7) (disch:=try exact zd) [hw,hrowW,hCl,hkW,haW,-getElem?_pos]
variable {A:Ab}
def Zd7 (ds:List DataD):Prop:=∀d∈ds,d.cons.length<=2/\∀c∈d.cons,c.fields.length<=2
def wS:Nat->Nat
 |0=>1
 |d+1=>3*wS d+5
def RawS (L:List Int)(ds:List DataD)(B:Nat)(r:V×List Obj):Prop:=∃e J,rawE ds e/\e.weight<=B/\J<=L.length/\r=(expV e,[AC L J])
def ArmS (L:List Int)(ds:List DataD)(dd:DataD)(x:Exp)(B d i:Nat)(s:St):Prop:=∃arms J,arms.length=i/\J<=L.length/\(∀a∈arms,armE ds a/\rawE ds a.2/\a.2.weight<=B/\a.1.vars.length<=2)/\
 s=⟨[(0,.sc (.ptr 0 0)),(1,Bt ds),(2,intV (d+1)),(6,.sc (.ptr 64 0)),(13,.sc (.ptr 10176 0)),(14,.sc (.ptr 10752 0)),(15,intV i)],
  [(0,some (AC L J)),(64,some (.box [zi,zi,zs,zi,.nil,.nil,zi,zs,zi,zi,.nil])),(10176,some (.box (wc (Ba dd)))),(10624,some (.arr 11 [wc x.row] 0)),
    (10752,some (.box [.c (.int .i64 8),zi,zs,zi,.arr 10624 1,.arr 10822 i,zi,zs,zi,zi,.nil])),(10822,some (.arr 14 (wr (Exp.armRows arms)) 0))]⟩
def Zc8 (ds7:List DataD)(L:List Int)(r:V×List Obj):Prop:=∃a b J ds,(∀d∈ds,d∈ds7)/\G4 ds/\rawE ds a/\a.weight<=wS 4/\rawE ds b/\b.weight<=wS 3/\J<=L.length/\r=(.tu [expV a,expV b,.sc (.ptr 0 0)],[AC L J])
variable {A:Ab}
theorem Zc2 (l m:List Str)(h:l.length<=1649267441664):(K A).call 53 [A1 l,A1 m] []=some (Aa (decide (l=m)),[]):=by
 refine Af (vf:=v53) (by kernel_rfl) rfl (by decide) ?_;unfold v53;by_cases hl:l.length=m.length
 .have hp:=SX l m
  simp(disch:=try exact zd) [hl];refine Aq (fun i=>⟨[(0,A1 l),(1,A1 m),(5,intV i)],[]⟩) (BZ l m) ?_ ?_ ?_
  .simp
  .intro i hi
   obtain⟨x,hx,hy⟩:=SO hi;have hlt:i<m.length:=(by omega);unfold M6;simp(disch:=try exact zd) [hx,hy,hlt,hl,-getElem?_pos]
  .unfold M6
   by_cases hm:BZ l m<l.length
   .obtain ⟨x,y,hx,hy,hxy⟩:=Qe hl hm
    have hne:l≠m:=fun h=>by rw[<-LK hl]at h;omega
    have hm':BZ l m<m.length:=(by omega);simp(disch:=try exact zd) [hx,hy,hm',hl,hxy,hne,-getElem?_pos]
   .have he:l=m:=(LK hl).1 (by omega)
    subst he;simp(disch:=try exact zd) [hm,-getElem?_pos]
 .have hne:l≠m:=fun h=>hl (by rw [h])
  have hl':¬(l.length:Int)=m.length:=by omega
  simp(disch:=try exact zd) [hl',hne,hl]
theorem ZbL (l m:List Exp)(hl:l.length<=687194767360)(ih:∀x∈l,∀y∈m,∃r,IffB (sameP x y) r/\(K A).call 18 [expV x,expV y] []=some r):
 ∃r,IffB (allR sameP l m) r/\(K A).call 54 [exsV l,exsV m] []=some r:=by
 refine fnE v54 ?_;unfold v54;by_cases hn:l.length=m.length
 .simp (disch:=try exact zd) [hn]
  refine AW (fun i s=>(∀(j:Nat) x y,j<i->l[j]?=some x->m[j]?=some y->sameP x y)/\s=⟨[(0,exsV l),(1,exsV m),(5,intV i)],[]⟩) l.length ⟨by omega,by simp⟩ ?_ ?_
  .rintro i s hi ⟨hs,rfl⟩
   obtain⟨x,hx⟩:=Ag hi;obtain⟨y,hy⟩:=Ag (l:=m) (i:=i) (by omega);obtain⟨_,⟨b,hb,rfl⟩,hc⟩:=ih x (qd hx) y (qd hy);unfold Lj;cases b with
   |true=>
    have hxy:=hb.1 rfl;simp(disch:=try exact zd) [hi,hx,hy,hc,-getElem?_pos];intro j x' y' hj hx' hy';by_cases hji:j=i
    .subst hji
     rw[hx]at hx';rw[hy]at hy';cases hx';cases hy';exact hxy
    .exact hs j x' y' (by omega) hx' hy'
   |false=>
    simp(disch:=try exact zd) [hi,hx,hy,hc,-getElem?_pos];exact IffB.no fun h=>by have:=hb.2 (h.2 i x y hx hy);cases this
  .rintro s ⟨hs,rfl⟩
   unfold Lj;simp(disch:=try exact zd);exact IffB.yes ⟨hn,fun i x y hx hy=>hs i x y (qf.1 hx).1 hx hy⟩
 .have hn':¬(l.length:Int)=m.length:=by omega
  simp(disch:=try exact zd) [hn,hn'];exact IffB.no fun h=>hn h.1
theorem PI (a:Exp):∀b,tyBd a->a.weight<=687194767360->b.weight<=687194767360->∃r,IffB (sameP a b) r/\(K A).call 18 [expV a,expV b] []=some r:=by
 induction a using Exp.ind with
 |h a ih=>
 intro b ht hw hwb;have hal:=a.children_le;have hbl:=b.children_le;have hchA:=a.children_len;have hchB:=b.children_len;refine fnE v18 ?_;obtain⟨_,⟨t,h3,rfl⟩,hc3⟩:=Yt (A:=A) 687194767360 a.ty b.ty ht.one (by omega);have hca:=H6 (A:=A) a (by omega);have hcb:=H6 (A:=A) b (by omega)
 obtain⟨_,⟨vk,hK,rfl⟩,hck⟩:=ZbL (A:=A) a.children b.children (by omega) fun x hx y hy=>ih x hx y (ht.child hx) (by have:=Exp.child_lt hx;omega) (by have:=Exp.child_lt hy;omega);unfold v18;by_cases q1:a.kind=b.kind
 case neg=>
  simp(disch:=try exact zd) [q1];exact IffB.no fun h=>by rw[DK]at h;exact q1 h.1
 by_cases q2:a.name=b.name
 case neg=>
  simp(disch:=try exact zd) [q1,q2];exact IffB.no fun h=>by rw[DK]at h;exact q2 h.2.1
 by_cases q3:a.num=b.num
 case neg=>
  simp(disch:=try exact zd) [q1,q2,q3];exact IffB.no fun h=>by rw[DK]at h;exact q3 h.2.2.1
 cases t with
 |false=>
  simp(disch:=try exact zd) [q1,q2,q3,hc3];exact IffB.no fun h=>by rw[DK]at h;have:=h3.2 h.2.2.2.1;cases this
 |true=>
 have q4:=h3.1 rfl;by_cases q5:a.kids.length=b.kids.length
 case neg=>
  have q5':¬(a.kids.length:Int)=b.kids.length:=by omega
  simp(disch:=try exact zd) [q1,q2,q3,hc3,q5,q5'];exact IffB.no fun h=>by rw[DK]at h;exact q5 h.2.2.2.2.1
 by_cases q6:a.arms.length=b.arms.length
 case neg=>
  have q6':¬(a.arms.length:Int)=b.arms.length:=by omega
  simp(disch:=try exact zd) [q1,q2,q3,hc3,q5,q6,q6'];exact IffB.no fun h=>by rw[DK]at h;exact q6 h.2.2.2.2.2.1
 have hrest:(∀(i:Nat) p q,a.arms[i]?=some p->b.arms[i]?=some q->p.1.con=q.1.con/\p.1.vars=q.1.vars)->IffB (sameP a b) (Aa vk,[]):=by
  intro harms;refine⟨vk,hK.trans ?_,rfl⟩;rw[DK];exact⟨fun h=>⟨q1,q2,q3,q4,q5,q6,harms,h.2⟩,fun h=>⟨by omega,h.2.2.2.2.2.2.2⟩⟩
 have hbad:∀(i:Nat) p q,a.arms[i]?=some p->b.arms[i]?=some q->¬(p.1.con=q.1.con/\p.1.vars=q.1.vars)->IffB (sameP a b) (Aa false,[]):=by
  intro i p q hp hq h;exact IffB.no fun h'=>by rw[DK]at h';exact h (h'.2.2.2.2.2.2.1 i p q hp hq)
 generalize sameP a b=P at hrest hbad |-;clear ih hK ht;simp(disch:=try exact zd) [q1,q2,q3,hc3,q5,q6];refine AW (fun i s=>(∀(j:Nat) p q,j<i->a.arms[j]?=some p->b.arms[j]?=some q->p.1.con=q.1.con/\p.1.vars=q.1.vars)/\s=⟨[(2,.sc (.ptr 64 0)),(3,.sc (.ptr 128 0)),(5,intV i)],[(64,some (.box (wc a.row))),(128,some (.box (wc b.row)))]⟩) a.arms.length ⟨by omega,by simp⟩ ?_ ?_
 .rintro i s hi ⟨hs,rfl⟩
  obtain⟨p,hp⟩:=Ag hi;obtain⟨q,hq⟩:=Ag (l:=b.arms) (i:=i) (by omega);have hv:=Exp.vars_le (qd hp);have hc:=Zc2 (A:=A) p.1.vars q.1.vars (by omega);have hib:i<b.arms.length:=by omega
  have bad:=hbad i p q hp hq;have hiI:(i:Int)<b.arms.length:=by omega
  unfold MJ;by_cases c1:p.1.con=q.1.con
  .by_cases c2:p.1.vars=q.1.vars
   .rw [c2] at hc
    simp(maxSteps:=9^7) (disch:=try exact zd) [hi,hib,hiI,hp,hq,hc,c1,c2,q6,-getElem?_pos];intro j x1 x2 y1 y2 hj hx' hy';by_cases hji:j=i
    .subst hji
     rw[hp]at hx';rw[hq]at hy';cases hx';cases hy';exact⟨c1,c2⟩
    .exact hs j _ _ (by omega) hx' hy'
   .simp (maxSteps:=9^7) (disch:=try exact zd) [hi,hib,hiI,hp,hq,hc,c1,c2,q6,-getElem?_pos]
    exact bad fun h=>c2 h.2
  .simp (maxSteps:=9^7) (disch:=try exact zd) [hi,hib,hiI,hp,hq,hc,c1,q6,-getElem?_pos]
   exact bad fun h=>c1 h.1
 .rintro s ⟨hs,rfl⟩
  have yes:=hrest fun i p q hp hq=>hs i p q (qf.1 hp).1 hp hq;unfold MJ;simp(maxSteps:=9^7) (disch:=try exact zd) [hca,hcb,hck,q6];exact yes
variable {A:Ab}
theorem MP:∀s∈C3,s.length<=2:=by decide
theorem rawE.free {ds:List DataD}{e:Exp}:rawE ds e->∀s∈Ac e,s∈C3:=by
 induction e using Exp.ind with
 |h e ih=>
  intro h s hs;by_cases hk:e.kind=1
  .rw [Cd hk] at hs
   subst hs;obtain⟨_,_,_,_,_,h⟩:=h.one;rcases h with ⟨_,n,_⟩|⟨k,_⟩|⟨k,_⟩|⟨k,_⟩|⟨k,_⟩|⟨k,_⟩|⟨k,_⟩|⟨k,_⟩
   .exact n
   all_goals (exfalso;omega)
  .obtain ⟨i,x,hx,h1,_⟩:=(BD hk).1 hs
   exact ih x (qd hx) (h.child (qd hx)) s h1
def tkOk (n:Nat)(l:List Str):Prop:=l.length=n/\∀s∈l,s.length<=2
variable {A:Ab}
theorem OR (e:Exp)(x:Str)(b:Exp)(hb:shp b)(hbw:b.weight<=100000000000)(hbn:nmL b)(hxl:x.length<=1000)(hl:e.weight<=100000000000)(hs:shp e)(hp:properP e)(hn:nmL e):
 (K A).call 155 [expV e,strV x,expV b] []=some (expV (subP e x b),[]):=by
 refine fnO v155 ?_;have hfl:=G7 b;have h1:=RJ (A:=A) x b hb (by omega) (fun s hs=>hbn s (KT b s hs)) hxl e.weight e (qg _) hl hs hp hn;have h2:=SN (A:=A) b hb.wf (by omega);have hrb:=DR b;simp only[expV,hrb]at h2;unfold v155 subP;simp_all
def ImpB (P:Prop)(r:V×List Obj):Prop:=∃v:Bool,(v=true->P)/\r=(Aa v,[])
theorem rawE.nmL {ds:List DataD}(hc:Ii ds){e:Exp}:rawE ds e->nmL e:=by
 have hcok:∀s,cOk ds s->s.length<=1000:=by
  rintro s (rfl|⟨d,hd,c,hcc,rfl⟩);simp
  .have:=(hc d hd c hcc).1
   omega
 induction e using Exp.ind with
 |h e ih=>
  intro h s hs;rcases A3.1 hs with h1|⟨i,x,hx,h1⟩
  .obtain ⟨_,_,_,_,_,hS⟩:=h.one
   rcases hS with ⟨_,n,_⟩|⟨_,n,_⟩|⟨_,n,_⟩|⟨_,n,_⟩|⟨_,n,_⟩|⟨_,n,_⟩|⟨_,n,_⟩|⟨_,n,_⟩<;>grind[MP]
  .rcases h1 with h1|h1
   .rw [Bk] at h1
    split at h1
    .rename_i hk
     obtain⟨_,_,_,_,_,hS⟩:=h.one;rw[qy]at h1;have:e.name∈C3:=by
      rcases hS with ⟨k,n,_⟩|⟨k,n,_⟩|⟨k,n,_⟩|⟨k,n,_⟩|⟨k,n,_⟩|⟨k,n,_⟩|⟨k,n,_⟩|⟨k,n,_⟩<;>grind
     grind[MP]
    .split at h1
     .cases ha:e.arms[i-1]? with
      |none=>grind
      |some a=>
       rw[ha]at h1;have:=MP _ ((h.one.2.1 a (qd ha)).2.2.2 s h1);omega
     grind
   .exact ih x (qd hx) (h.child (qd hx)) s h1
variable {A:Ab}
theorem V5 {x:Str}{free:List Str}{e:Exp}(hs:shp e)(hp:properP e)(hn:nmL e)(hl:e.weight<=100000000000/\free.length<=100000000000):nmL (AT x free e):=by
 have hal:=Fv e hs.wf;unfold AT;by_cases h:e.kind=4\/e.kind=6\/e.kind=7
 .rw [if_pos h]
  obtain⟨ha,hc⟩:=EH (by omega) hs.one;unfold BM;split
  .exact hn
  .have hf:=Ha 0 (allP e++free++[x]) (by simp;omega)
   generalize Av 0 (allP e++free++[x])=to at hf |-;intro s hs';rcases A3.1 hs' with h1|⟨i,y,hy,h1⟩
   .rw[h1,S8];exact hf
   .have hc':∀ ks,(Exp.mk e.kind e.pos to e.num ks e.arms e.ty).children=ks:=fun ks=>by rw [BK,ha];simp
    rw[hc']at hy;have hlt:=(qf.1 hy).1;simp only[qba,List.length_zipIdx]at hlt;obtain⟨z,hz⟩:=Ag hlt;simp only[qq,qaz,hz,qp,qaw,qc]at hy;have hnz:nmL z:=hn.child (i:=i) (by rw[hc];exact hz);rcases h1 with h1|h1
    .rw [Hc] at h1
     split at h1
     .rw [qy] at h1
      exact h1▸hf
     .rw [if_neg (by omega)] at h1
      simp at h1
    .subst hy
     split at h1
     .exact hnz s h1
     .exact N7 hnz hf s h1
 .rw [if_neg h]
  by_cases h8:e.kind=8
  .rw [if_pos h8]
   have hk1:=hs.one.1.1 h8;have harm:∀p∈e.arms,nmL (armP x free p).2/\∀s∈(armP x free p).1.vars,s.length<=1000:=by
    intro p hm;obtain⟨j,hj⟩:=qj.1 hm;have hnp:nmL p.2:=hn.child (D3 hj);have hv:∀s∈p.1.vars,s.length<=1000:=fun s hs'=>by
     refine hn s (A3.2 (.inr ⟨e.kids.length+j,p.2,D3 hj,.inl ?_⟩));rw[Bk,if_neg (by omega),if_pos ⟨h8,by omega⟩,hk1,show 1+j-1=j by omega,hj];exact hs'
    have hvl:=Exp.vars_le hm;have hwl:=Exp.child_lt (BB hm);unfold armP;split
    .exact⟨hnp,hv⟩
    .rename_i hx
     exact KL (hp.one p hm) hx (hs.child (BB hm)) (hp.child (BB hm)) (by omega) hnp hv p.1.vars.length (qg _)
   intro s hs';rcases A3.1 hs' with h1|⟨i,y,hy,h1⟩
   .rw[h1,S8];exact hn _ (A3.2 (.inl rfl))
   .rw [BK] at hy
    rcases qbf i e.kids.length with hk|hk
    .rw [qK hk] at hy
     rcases h1 with h1|h1
     .rw [Hc,if_neg (by omega),if_neg (by omega)] at h1
      simp at h1
     .exact hn.child (i:=i) (PV hy) s h1
    .rw [qH hk,qq] at hy
     obtain⟨q,hq,rfl⟩:=qo.1 hy;have hq':=hq;rw[qq]at hq;obtain⟨p,hp',rfl⟩:=qo.1 hq;obtain⟨g1,g2⟩:=harm p (qd hp');rcases h1 with h1|h1
     .rw [Hc,if_neg (by omega),if_pos ⟨h8,by omega⟩,show i-1=i-e.kids.length by omega,hq'] at h1
      exact g2 s h1
     .exact g1 s h1
  .rw [if_neg h8]
   exact hn
theorem R4 {x:Str}{b:Exp}(hb:nmL b)(hbl:b.weight<=100000000000):∀(n:Nat)(e:Exp),e.weight<=n->e.weight<=100000000000->shp e->properP e->nmL e->nmL (subN n e x b)
 |0,e,_,_,_,_,hn=>hn
 |n+1,e,h,hl,hs,hp,hn=>by
  rw[CM];by_cases hk:e.kind=1
  .rw [if_pos hk]
   split
   .exact hb
   .exact hn
  .rw [if_neg hk]
   have hP:=FE (x:=x) (b:=b) hs hp;have hfl:=G7 b;have hN:=V5 (x:=x) (free:=Ac b) hs hp hn (by omega);generalize AT x (Ac b) e=e' at hP hN |-;intro s hs';rcases A3.1 hs' with h1|⟨i,y,hy,h1⟩
   .exact hN s (A3.2 (.inl h1))
   .rw [(BN (subC_len n e' x b)).2.2.1] at hy
    rw[IC (subC_len n e' x b)]at h1;obtain⟨x1,hx1⟩:=Ag (l:=e'.children) (i:=i) (by have:=(qf.1 hy).1;rw[subC_len,<-e'.children_len]at this;exact this);obtain⟨x0,hx0⟩:=Ag (l:=e.children) (i:=i) (by rw[<-El hP];exact(qf.1 hx1).1);have hK:=hP.kids i x0 x1 hx0 hx1;have hlt:=Exp.child_lt (qd hx0);have hw:=hK.weight;rw[Ej hx1]at hy;cases hy;rcases h1 with h1|h1
    .exact hN s (A3.2 (.inr ⟨i,x1,hx1,.inl h1⟩))
    .split at h1
     .exact hN s (A3.2 (.inr ⟨i,x1,hx1,.inr h1⟩))
     .exact R4 hb hbl n x1 (by omega) (by omega) hK.shape hK.proper (hN.child hx1) s h1
theorem Tn {x:Str}{e b:Exp}(hs:shp e)(_:shp b)(hp:properP e)(hn:nmL e)(hb:nmL b)(hl:e.weight<=100000000000)(hbl:b.weight<=100000000000)(_:x.length<=1000):nmL (subP e x b):=R4 hb hbl _ e (qg _) hl hs hp hn
theorem instR.tyBd (a:Exp):∀(c:Exp)(V:Rep),instR a c V->tyBd a->(∀s d,V s d->tyBd d)->tyBd c:=by
 induction a using Exp.ind with
 |h a ih=>
  intro c V h ht hv;by_cases hk:a.kind=1
  .exact hv _ _ (h.var hk)
  .obtain ⟨h1,h2,h3,h4⟩:=h.node hk
   rw[D8];refine⟨h1.2.2.1▸ht.one,fun y hy=>?_⟩;obtain⟨i,hi⟩:=qj.1 hy;obtain⟨x,hx⟩:=Ag (l:=a.children) (i:=i) (by rw[h1.children];grind);refine ih x (qd hx) y _ (h4 i x y hx hi) (ht.child (qd hx)) fun s d hd=>?_;rcases hd with ⟨_,t,_,_,hvv⟩|⟨_,q,_⟩
   .obtain ⟨_,_,_,ty,ks,am⟩:=hvv
    rw[D8,ty];refine⟨by decide,fun z hz=>?_⟩;grind[Exp.children]
   grind
def ZdF:List Str:=[[120],[121],[122],[102],[118,49]]
theorem Sn:∀(l:List (Str×Exp))(e:Exp),okE e->nmL e->(∀k,(Ax (l.take k) e).weight<=100000000000)->(∀p∈l,okE p.2/\nmL p.2/\p.2.weight<=100000000000/\p.1.length<=1000)->nmL (Ax l e)
 |[],_,_,h,_,_=>h
 |p::l,e,he,h,hw,hl=>by
  obtain⟨h1,h2,h3,h4⟩:=hl p (by simp);rw[CU];refine Sn l _ (Ds he h1) (Tn he.1 h1.1 he.2.1 h h2 ?_ h3 h4) (fun k=>?_) fun q hq=>hl q (by simp[hq])
  .have:=hw 0
   simpa[Ax]using this
  .have:=hw (k+1)
   rw[qaM,CU]at this;exact this
end Go.Vs.Tryz
namespace Go.Vs
open Go
theorem Ty.ind {P:Ty->Prop}(h:∀t:Ty,(∀x∈t.args,P x)->P t)(t:Ty):P t:=by
 have:∀(n:Nat) (t:Ty),t.size<=n->P t:=by
  intro n
  induction n with
  |zero=>
   intro t ht;have:=t.size_pos;omega
  |succ n ih=>
   intro t ht;exact h t fun x hx=>ih x (by have:=Ty.arg_lt hx;omega)
 exact this t.size t (qg _)
mutual
def Ty.all (p:Ty->Prop):Ty->Prop
 |.mk k n i h a=>p (.mk k n i h a)/\Ty.alls p a
def Ty.alls (p:Ty->Prop):List Ty->Prop
 |[]=>True
 |t::r=>Ty.all p t/\Ty.alls p r
end
theorem Ty.alls_iff {p:Ty->Prop}:∀{l:List Ty},Ty.alls p l↔∀x∈l,Ty.all p x
 |[]=>by simp[Ty.alls]
 |t::r=>by simp[Ty.alls,Ty.alls_iff (l:=r)]
theorem Ty.all_iff {p:Ty->Prop}{t:Ty}:Ty.all p t↔p t/\∀x∈t.args,Ty.all p x:=by
 cases t;simp[Ty.all,Ty.args,Ty.alls_iff]
theorem Ty.all.one {p:Ty->Prop}{t:Ty}(h:Ty.all p t):p t:=(Ty.all_iff.1 h).1
theorem Ty.all.arg {p:Ty->Prop}{t x:Ty}(h:Ty.all p t)(hx:x∈t.args):Ty.all p x:=(Ty.all_iff.1 h).2 x hx
theorem Ty.all.mono {p q:Ty->Prop}(hpq:∀t,p t->q t)(t:Ty):Ty.all p t->Ty.all q t:=by
 induction t using Ty.ind<;>grind[Ty.all_iff]
mutual
def Ty.map (f:Ty->Option Ty):Ty->Ty
 |.mk k n i h a=>match f (.mk k n i h a)with
  |some u=>u
  |none=>.mk k n i h (Ty.maps f a)
def Ty.maps (f:Ty->Option Ty):List Ty->List Ty
 |[]=>[]
 |t::r=>Ty.map f t::Ty.maps f r
end
theorem Ty.maps_map {f:Ty->Option Ty}:∀(l:List Ty),Ty.maps f l=l.map (Ty.map f)
 |[]=>by rfl
 |t::r=>by simp[Ty.maps,Ty.maps_map r]
theorem Ty.map_some {f:Ty->Option Ty}{t u:Ty}(h:f t=some u):Ty.map f t=u:=by
 cases t;simp only[Ty.map,h]
theorem Ty.map_none {f:Ty->Option Ty}{t:Ty}(h:f t=none):Ty.map f t=.mk t.kind t.name t.id t.home (t.args.map (Ty.map f)):=by
 cases t;grind[Ty.map,Ty.maps_map,Ty.kind,Ty.name,Ty.id,Ty.home,Ty.args]
def Hs (s:Str)(n:Nat):Prop:=(s=[45,62]/\n=2)\/(s=[73,110,116]/\n=0)\/(s≠[45,62]/\s≠[73,110,116]/\Tryz.nameOk 65 90 s/\n<=4)
def vldN (c:Nat)(t:Ty):Prop:=(t.kind=2->t.id<c/\t.args=[])/\(t.kind=4->t.id=0/\t.home=0/\Hs t.name t.args.length)/\(t.kind=5->t.id=0/\t.home=0/\t.args=[]/\Tryz.nameOk 97 122 t.name)/\1<=t.kind/\t.kind<=5
def tyN (n c:Nat)(t:Ty):Prop:=(t.kind=1->0<=t.id/\t.id<n/\t.args=[])/\(t.kind=2->0<=t.id)/\(t.kind=3->t.args=[])/\vldN c t
def tyB (n c:Nat)(t:Ty):Prop:=Ty.all (tyN n c) t
def tyS (n:Nat)(t:Ty):Prop:=tyB n 0 t
theorem tyB.one {n c:Nat}{t:Ty}(h:tyB n c t):tyN n c t:=Ty.all.one h
theorem tyB.arg {n c:Nat}{t x:Ty}(h:tyB n c t)(hx:x∈t.args):tyB n c x:=Ty.all.arg h hx
theorem tyB.mono {n m c d:Nat}{t:Ty}(h:tyB n c t)(hnm:n<=m)(hcd:c<=d):tyB m d t:=
 Ty.all.mono (fun t ⟨h1,h2,h3,h4,h5⟩=>⟨fun hk=>⟨(h1 hk).1,by omega,(h1 hk).2.2⟩,h2,h3,fun hk=>⟨by omega,(h4 hk).2⟩,h5⟩) t h
theorem tyS.one {n:Nat}{t:Ty}(h:tyS n t):tyN n 0 t:=Ty.all.one h
theorem tyS.arg {n:Nat}{t x:Ty}(h:tyS n t)(hx:x∈t.args):tyS n x:=Ty.all.arg h hx
theorem tyS.mono {n m:Nat}{t:Ty}(h:tyS n t)(hnm:n<=m):tyS m t:=tyB.mono h hnm (qg 0)
theorem tyS.up {n c:Nat}{t:Ty}(h:tyS n t):tyB n c t:=tyB.mono h (qg n) (qai c)
theorem tyN.len {n c:Nat}{t:Ty}{a:List Ty}(h:tyN n c t)(ha:a.length=t.args.length):tyN n c (.mk t.kind t.name t.id t.home a):=by
 have he:t.args=[]->a=[]:=fun h=>qS.1 (by grind);obtain⟨h1,h2,h3,h4,h5,h6,h7⟩:=h;refine⟨fun hk=>⟨(h1 hk).1,(h1 hk).2.1,he (h1 hk).2.2⟩,h2,fun hk=>he (h3 hk),fun hk=>⟨(h4 hk).1,he (h4 hk).2⟩,fun hk=>⟨(h5 hk).1,(h5 hk).2.1,?_⟩,fun hk=>⟨(h6 hk).1,(h6 hk).2.1,he (h6 hk).2.2.1,(h6 hk).2.2.2⟩,h7⟩;show Hs t.name a.length;rw[ha];exact(h5 hk).2.2
def ZcL (args:List Ty)(t:Ty):Option Ty:=if t.kind=2/\0<=t.id/\t.id<args.length then args[t.id.toNat]? else none
def Zel (args:List Ty):Ty->Ty:=Ty.map (ZcL args)
def Vv (s:List AssD)(t:Ty):Ty:=match s.find? (fun a=>decide (a.id=t.id))with
 |some a=>a.ty
 |none=>t
def Hf (s:List AssD)(t:Ty):Option Ty:=if t.kind=1 then some (Vv s t) else none
def Zeb (s:List AssD):Ty->Ty:=Ty.map (Hf s)
def idxS (l:List Str)(s:Str):Int:=match l.findIdx? (fun x=>decide (x=s))with
 |some i=>i
 |none=>-1
def Vj (l:List Str)(t:Ty):Option Ty:=if t.kind=5 then some (if idxS l t.name>=0 then .mk 2 [] (idxS l t.name) 0 [] else t) else none
def Zdj (l:List Str):Ty->Ty:=Ty.map (Vj l)
def ZaF (t:Ty):Option Ty:=if t.kind=3/\t.home=99 then some (.mk 1 [] (900+t.id) 0 []) else none
def Zdq:Ty->Ty:=Ty.map ZaF
def YR (l:List Int)(t:Ty):Prop:=Ty.all (fun u=>u.kind=1->u.id∈l) t
def Zdd (l:List Int)(t:Ty):Prop:=Ty.all (fun u=>u.kind=3/\u.home=99->0<=u.id/\900+u.id∈l) t
def leafIn (k:Int)(l:List Ty)(t:Ty):Prop:=Ty.all (fun u=>u.kind=k->u.args=[]->u∈l) t
theorem leafIn.mono {k:Int}{l m:List Ty}(h:∀x∈l,x∈m){t:Ty}(ht:leafIn k l t):leafIn k m t:=Ty.all.mono (fun _ h1 h2 h3=>h _ (h1 h2 h3)) t ht
end Go.Vs
namespace Go.Vs.Tryz
open Go Go.Vs
variable {A:Ab}
def HasK (k:Int)(t:Ty)(r:V×List Obj):Prop:=∃b:Bool,(b=false->Ty.all (fun u=>u.kind≠k) t)/\r=(Aa b,[])
variable {A:Ab}
def rigB (t:Ty):Prop:=Ty.all (fun u=>u.kind=3/\u.home=99->0<=u.id/\u.id<=1000) t
variable {A:Ab}
def Th (k:Int)(t:Ty)(out o2:List Ty):Prop:=(∀x∈out,x∈o2)/\leafIn k o2 t/\∀p:Ty->Prop,Ty.all p t->∀x∈o2,x∈out\/(p x/\x.kind=k)
def Zdh (k:Int)(t:Ty)(out:List Ty)(r:V×List Obj):Prop:=∃o2:List Ty,out.length<=o2.length/\o2.length<=out.length+t.size/\(∀x∈o2,x.size<=687194767360)/\Th k t out o2/\r=(.sc (.arr 0 o2.length),[.arr 5 (wr (Ty.rows o2)) 0])
variable {A:Ab}
theorem Zbd {l:List Ty}{i:Nat}{x:Ty}(h:l[i]?=some x):((l.take (i+1)).map Ty.size).sum=((l.take i).map Ty.size).sum+x.size:=by
 rw[Bn h];simp
def R1 (k:Int)(l:List Ty)(o2:List Ty):Prop:=o2.length<=(l.map Ty.size).sum/\(∀x∈o2,x.size<=687194767360)/\(∀t∈l,leafIn k o2 t)/\∀p:Ty->Prop,(∀t∈l,Ty.all p t)->∀x∈o2,p x/\x.kind=k
def LeafsI (k:Int)(l:List Ty)(i:Nat)(o2:List Ty):Prop:=o2.length<=((l.take i).map Ty.size).sum/\(∀x∈o2,x.size<=687194767360)/\(∀(j:Nat) t,j<i->l[j]?=some t->leafIn k o2 t)/\∀p:Ty->Prop,(∀t∈l,Ty.all p t)->∀x∈o2,p x/\x.kind=k
theorem LeafsI.next {k:Int}{l:List Ty}{i:Nat}{x:Ty}{o2 o3:List Ty}(h:LeafsI k l i o2)(hx:l[i]?=some x)(h2:o3.length<=o2.length+x.size)(h3:∀x∈o3,x.size<=687194767360)(q:Th k x o2 o3):LeafsI k l (i+1) o3:=by
 obtain⟨a1,a2,a3,a4⟩:=h;obtain⟨r1,r2,r3⟩:=q;refine⟨by rw[Zbd hx];omega,h3,?_,?_⟩
 .intro j y hj hy
  by_cases hji:j<i
  .exact(a3 j y hji hy).mono r1
  .obtain rfl:j=i:=by omega
   rw[hx]at hy;cases hy;exact r2
 .intro p hp y hy
  rcases r3 p (hp x (qd hx)) y hy with h|h
  .exact a4 p hp y h
  .exact h
theorem LeafsI.all {k:Int}{l:List Ty}{o2:List Ty}(h:LeafsI k l l.length o2):R1 k l o2:=by
 obtain⟨a1,a2,a3,a4⟩:=h;rw[qn (qg _)]at a1;refine⟨a1,a2,fun t ht=>?_,a4⟩;obtain⟨j,hj,he⟩:=List.getElem_of_mem ht;exact a3 j t hj (by rw[qm hj,he])
def IdsQ (n:Nat)(l:List Ty)(ids:List Int):Prop:=ids.length<=(l.map Ty.size).sum/\(∀t∈l,YR ids t)/\∀i∈ids,0<=i/\i<n
def ZdO (n:Nat)(l:List Ty)(r:V×List Obj):Prop:=∃ids,IdsQ n l ids/\r=(GY ids,[])
def Zc7 (l:List Ty)(r:V×List Obj):Prop:=∃o2,R1 3 l o2/\r=(tysV o2,[])
variable {A:Ab}
def SchR (m:Nat)(r:V×List Obj):Prop:=∃(c:Nat)(t:Ty),c<=m/\tyB 0 c t/\t.size<=m/\r=(schV c t,[])
variable {A:Ab}
def fitD (d:DataD):Prop:=LQ d/\(∀c∈d.cons,∀f∈c.fields,tyS 0 f/\f.size<=20)/\Hs d.name d.params.length/\∀c∈d.cons,c.fields.length<=2
def fitDs (ds:List DataD):Prop:=ds.length<=100/\∀d∈ds,fitD d
theorem fitDs.good {ds:List DataD}(h:fitDs ds):G4 ds:=⟨h.1,fun d hd=>(h.2 d hd).1⟩
def TyR (n m:Nat)(r:V×List Obj):Prop:=∃t:Ty,tyS n t/\t.size<=m/\r=(tyV t,[])
def TyC (c m:Nat)(r:V×List Obj):Prop:=∃t:Ty,tyB 0 c t/\t.size<=m/\r=(tyV t,[])
def Zdi (ds:List DataD)(s:Str):Prop:=∃d∈ds,∃c∈d.cons,c.name=s
def ZdA (ds:List DataD)(s:Str)(r:V×List Obj):Prop:=∃(i k:Nat)(d:DataD)(c:ConD),ds[i]?=some d/\d.cons[k]?=some c/\c.name=s/\r=(.tu [intV i,intV k,Aa true],[])
def ZdW (r:V×List Obj):Prop:=∃(c:Nat)(t:Ty)(b:Bool),c<=4/\tyB 0 c t/\t.size<=1000/\r=(.tu [schV c t,Aa b],[])
def Zd1 (n m:Nat)(r:V×List Obj):Prop:=∃(l:List Ty)(b:Bool),l.length<=2/\(∀x∈l,tyS n x/\x.size<=m)/\r=(.tu [tysV l,Aa b],[])
end Go.Vs.Tryz
namespace Go.Vs
open Go
def tyO:Option Ty->List W
 |none=>[zi,zs,zi,zi,.nil]
 |some t=>wc t.row
def tyOs (l:List (Option Ty)):List (List W):=l.map tyO
def boOs (l:List Bool):List (List W):=l.map fun b=>[.c (.bool b)]
@[simp] theorem tyOs_len (l:List (Option Ty)):(tyOs l).length=l.length:=by simp[tyOs]
@[simp] theorem boOs_len (l:List Bool):(boOs l).length=l.length:=by simp[boOs]
@[simp] theorem tyOs_get (l:List (Option Ty)) (i:Nat):(tyOs l)[i]?=(l[i]?).map tyO:=by simp[tyOs]
@[simp] theorem boOs_get (l:List Bool) (i:Nat):(boOs l)[i]?=(l[i]?).map fun b=>[W.c (.bool b)]:=by simp[boOs]
theorem V3 (L:Nat->Option Obj)(d:Nat)(o:Option Ty){y:W}(hy:y∈tyO o):W.ids L d y=[]:=by
 cases o with
 |none=>
  simp only[tyO,qD,qas,or_false]at hy;rcases hy with rfl|rfl|rfl|rfl|rfl<;>cases d<;>rfl
 |some t=>
  have h:=wc_ids L d t.row;rw[qZ]at h;exact h y hy
@[simp] theorem tyOs_allIds (L:Nat->Option Obj) (d:Nat) (l:List (Option Ty)) (p:Nat->Bool):((tyOs l).all fun a=>a.all fun b=>(W.ids L d b).all p)=true:=by
 simp only[qx,tyOs,qL];rintro _ ⟨o,_,rfl⟩ y hy;rw[V3 L d o hy];simp
@[simp] theorem tyOs_refs (d:Nat) (l:List (Option Ty)):(tyOs l).flatMap (fun x=>x.flatMap (W.refs d))=[]:=by
 simp only[qZ,tyOs,qL];rintro _ ⟨o,_,rfl⟩ y hy;cases o with
 |none=>
  simp only[tyO,qD,qas,or_false]at hy;rcases hy with rfl|rfl|rfl|rfl|rfl<;>cases d<;>rfl
 |some t=>
  have h:=wc_refs d t.row;rw[qZ]at h;exact h y hy
@[simp] theorem boOs_refs (d:Nat) (l:List Bool):(boOs l).flatMap (fun x=>x.flatMap (W.refs d))=[]:=by
 simp only[qZ,boOs,qL];rintro _ ⟨o,_,rfl⟩ y hy;simp only[qD,qas,or_false]at hy;subst hy;cases d<;>rfl
@[simp] theorem tyOs_ren (ρ:Nat->Option Nat) (d:Nat) (l:List (Option Ty)):(tyOs l).map (fun x=>x.map (W.ren ρ d))=tyOs l:=by
 unfold tyOs;rw[qan];refine qM fun o _=>?_;cases o with
 |none=>cases d<;>rfl
 |some t=>simp[tyO]
@[simp] theorem boOs_ren (ρ:Nat->Option Nat) (d:Nat) (l:List Bool):(boOs l).map (fun x=>x.map (W.ren ρ d))=boOs l:=by
 unfold boOs;rw[qan];refine qM fun o _=>?_;cases d<;>rfl
end Go.Vs
namespace Go.Vs.Tryz
open Go Go.Vs
variable {A:Ab}
def InsI (n:Nat)(l:List (Option Ty))(ks:List Bool):Prop:=l.length=n/\ks.length=n/\(∀t,some t∈l->t.size<=687194767360)/\∀i:Nat,ks[i]?=some true->∃t,l[i]?=some (some t)
def InsR (n:Nat)(r:V×List Obj):Prop:=∃(b:Bool)(l:List (Option Ty))(ks:List Bool),InsI n l ks/\r=(Aa b,[.arr 5 (tyOs l) 0,.arr 1 (boOs ks) 0])
def Zd4 (r:V×List Obj):Prop:=∃(w:List (List Cell))(b:Bool),r=(.tu [.sc (.c (.sl w)),Aa b],[])
variable {A:Ab}
def Ek:List Str:=C3++[[119],[112],[113],[114],[115]]
theorem JZ {s:Str}(h:s∈C3):s∈Ek:=qz.2 (.inl h)
def mkS (ds:List DataD)(e:Exp):Prop:=
 (e.kind=1/\e.name∈Ek/\e.kids=[]/\e.arms=[])\/(e.kind=2/\cOk ds e.name/\e.kids=[]/\e.arms=[])\/((e.kind=3\/e.kind=10)/\e.name=[]/\e.kids=[]/\e.arms=[])\/
 (e.kind=4/\e.name∈Ek/\(∃x,e.kids=[x])/\e.arms=[])\/(e.kind=5/\e.name=[]/\(∃x y,e.kids=[x,y])/\e.arms=[])\/((e.kind=6\/e.kind=7)/\e.name∈Ek/\(∃x y,e.kids=[x,y])/\e.arms=[])\/
 ((e.kind=9\/e.kind=11)/\e.name=[]/\(∃x,e.kids=[x])/\e.arms=[])\/(e.kind=8/\e.name=[]/\(∃x,e.kids=[x])/\e.arms≠[])
def armM (ds:List DataD)(a:ArmH×Exp):Prop:=a.1.pos=0/\cOk ds a.1.con/\a.1.vars.length<=2/\a.1.vars.Nodup/\∀v∈a.1.vars,v∈Ek
def wrT (t:Ty):Prop:=tyS 0 t/\Ty.all (fun u=>u.kind≠3) t
def annT (e:Exp):Prop:=(e.kind≠9->e.ty=tz)/\(e.kind=9->wrT e.ty)
def numB (e:Exp):Prop:=(e.kind≠3->e.num=0)/\0<=e.num/\e.num<=999
def mkE1 (ds:List DataD)(e:Exp):Prop:=e.pos=0/\(∀a∈e.arms,armM ds a)/\e.ty.size<=687194767360/\annT e/\numB e/\mkS ds e
def mkE (ds:List DataD)(e:Exp):Prop:=e.fold fun e l=>mkE1 ds e/\∀p∈l,p
theorem Nm (ds:List DataD)(e:Exp):mkE ds e=(mkE1 ds e/\∀x∈e.children,mkE ds x):=by
 have:=Exp.fold_eq (fun e (l:List Prop)=>mkE1 ds e/\∀p∈l,p) e;unfold mkE;rw[this];simp only[qN]
theorem mkE.one {ds:List DataD}{e:Exp}(h:mkE ds e):mkE1 ds e:=by grind[Nm]
theorem mkE.child {ds:List DataD}{e x:Exp}(h:mkE ds e)(hx:x∈e.children):mkE ds x:=by grind[Nm]
theorem mkE1.wf1 {ds:List DataD}{e:Exp}(h:mkE1 ds e):e.wf1:=by
 obtain⟨_,_,_,_,_,h⟩:=h;unfold Exp.wf1;rcases h with ⟨k,_,hk,ha⟩|⟨k,_,hk,ha⟩|⟨k,_,hk,ha⟩|⟨k,_,⟨x,hk⟩,ha⟩|⟨k,_,⟨x,y,hk⟩,ha⟩|⟨k,_,⟨x,y,hk⟩,ha⟩|⟨k,_,⟨x,hk⟩,ha⟩|⟨k,_,⟨x,hk⟩,ha⟩<;>grind
theorem mkE.wf {ds:List DataD}{e:Exp}:mkE ds e->e.wf:=by
 induction e using Exp.ind with
 |h e ih=>
  intro h;rw[Exp.wf_eq];exact⟨h.one.wf1,fun x hx=>ih x hx (h.child hx)⟩
theorem mkE.tyBd {ds:List DataD}{e:Exp}:mkE ds e->tyBd e:=by
 induction e using Exp.ind with
 |h e ih=>
  intro h;rw[D8];exact⟨h.one.2.2.1,fun x hx=>ih x hx (h.child hx)⟩
def ctxOk (n m:Nat)(l:List EntD):Prop:=l.length<=n/\∀x∈l,x.name∈Ek/\(∃c:Nat,x.count=c/\c<=900)/\tyB 0 x.count.toNat x.ty/\x.ty.size<=m
def MkR (L:List Int)(ds:List DataD)(B:Nat)(r:V×List Obj):Prop:=∃e J,mkE ds e/\e.weight<=B/\J<=L.length/\r=(expV e,[AC L J])
theorem VM {k:Nat}(h:k<10000000000):nameOk 97 122 (AG k):=by
 refine⟨?_,⟨118,rfl,by decide,by decide⟩,?_,?_⟩
 .have:=Gt k 10 (by omega) (by omega)
  grind[AG]
 .intro c hc
  have hd:∀c:UInt8,48<=c.toNat/\c.toNat<=57->GS c=true:=by
   grind[GS]
  rcases qD.1 hc with rfl|hc
  rfl;grind[K1]
 .intro hk
  have key:∀w∈keyWords,∀c∈w,¬(48<=c.toNat/\c.toNat<=57):=by decide
  grind[numS,K1,List.mem_cons_self,AG]
theorem Ob {n:Nat}{taken:List Str}(h:n+taken.length<9000000000):nameOk 97 122 (Av n taken):=
 VM (by grind[Nj])
def lowK (k:Int):Prop:=k=1\/k=4\/k=6\/k=7
def lowE1 (e:Exp):Prop:=(lowK e.kind->nameOk 97 122 e.name)/\(e.kind=2->nameOk 65 90 e.name)/\(¬lowK e.kind->e.kind≠2->e.name=[])/\∀a∈e.arms,∀v∈a.1.vars,nameOk 97 122 v
def lowE (e:Exp):Prop:=e.fold fun e l=>lowE1 e/\∀p∈l,p
theorem D1 (e:Exp):lowE e=(lowE1 e/\∀x∈e.children,lowE x):=by
 have:=Exp.fold_eq (fun e (l:List Prop)=>lowE1 e/\∀p∈l,p) e;unfold lowE;rw[this];simp only[qN]
theorem lowE.one {e:Exp}(h:lowE e):lowE1 e:=by grind[D1]
theorem lowE.child {e x:Exp}(h:lowE e)(hx:x∈e.children):lowE x:=by grind[D1]
theorem lowE1.with {e:Exp}{cs:List Exp}(hl:cs.length=e.kids.length+e.arms.length)(h:lowE1 e):lowE1 (AL e cs):=by
 obtain⟨_,_,_,h4⟩:=BN hl;refine⟨h.1,h.2.1,h.2.2.1,fun a ha=>?_⟩;obtain⟨i,hi⟩:=qj.1 ha;have:=h4 i;rw[hi]at this;cases hq:e.arms[i]? with
 |none=>grind
 |some q=>
  rw[hq]at this;simp only[qp,qc]at this;rw[this];exact h.2.2.2 q (qd hq)
theorem MY {e:Exp}{cs:List Exp}(hl:cs.length=e.kids.length+e.arms.length)(he:lowE e)(hc:∀c∈cs,lowE c):lowE (AL e cs):=by
 rw[D1,(BN hl).2.2.1];exact⟨he.one.with hl,hc⟩
theorem isVar.low {s:Str}{c:Exp}(h:isVar s c)(hs:nameOk 97 122 s):lowE c:=by
 obtain⟨k,nm,_,_,ks,am⟩:=h;rw[D1];refine⟨⟨fun _=>nm▸hs,fun q=>by omega,fun q=>absurd (.inl k) q,by grind⟩,fun z hz=>?_⟩;grind[Exp.children]
theorem Xa {s:Str}(hs:nameOk 97 122 s):lowE (varX s):=(show isVar s (varX s)from⟨rfl,rfl,rfl,rfl,rfl,rfl⟩).low hs
theorem Qk {frm to:Str}(ht:nameOk 97 122 to)(e:Exp):lowE e->lowE (repl frm to e):=by
 induction e using Exp.ind with
 |h e ih=>
  intro h;by_cases hk:e.kind=1
  .rw [EE hk]
   split
   .rw [D1]
    exact⟨⟨fun _=>ht,fun q=>absurd (show e.kind=2 from q) (by omega),fun q=>absurd (show lowK e.kind from .inl hk) q,h.one.2.2.2⟩,fun x hx=>h.child hx⟩
   omega
  .rw [EM hk]
   refine MY (replC_len frm to e) h fun c hc=>?_;obtain⟨i,hi⟩:=qj.1 hc;obtain⟨x,hx⟩:=Ag (l:=e.children) (i:=i) (by have:=(qf.1 hi).1;simp_all);rw[D6 hx]at hi;cases hi;have hm:=qd hx;split
   .exact h.child hm
   .exact ih x hm (h.child hm)
theorem PX {x:Str}{free vars:List Str}{b:Exp}(hn:inj vars)(hx:x∉vars)(hs:shp b)(hp:properP b)(hl:b.weight+vars.length+free.length<=4000000000)(hb:lowE b)(hv:∀s∈vars,nameOk 97 122 s):
 ∀k,k<=vars.length->lowE (Bi x free vars b k).2/\∀s∈(Bi x free vars b k).1,nameOk 97 122 s
 |0,_=>⟨hb,hv⟩
 |k+1,hk=>by
  obtain⟨h1,h2⟩:=PX (free:=free) hn hx hs hp hl hb hv k (by omega);have ho:=Hw (free:=free) hn hx hs hp k (by omega);rw[EI];generalize Bi x free vars b k=p at *
  obtain⟨vs,bk⟩:=p;simp only at *
  unfold CL;simp only;cases hv2:vs[k]? with
  |none=>grind
  |some v=>
   simp only;split;grind
   .have hal:=Fv bk ho.shape.wf
    have hf:nameOk 97 122 (Av 0 (allP bk++vs++free++[x])):=Ob (by have:=ho.weight;have:=ho.len;grind);grind[Qk]
theorem ZF {x:Str}{free:List Str}{e:Exp}(hs:shp e)(hp:properP e)(h:lowE e)(hl:e.weight+free.length<=2000000000):lowE (AT x free e):=by
 have hal:=Fv e hs.wf;unfold AT;by_cases hk:e.kind=4\/e.kind=6\/e.kind=7
 .rw [if_pos hk]
  obtain⟨ha,hc⟩:=EH (by omega) hs.one;unfold BM;split;omega
  .have hf:nameOk 97 122 (Av 0 (allP e++free++[x])):=Ob (by grind)
   generalize Av 0 (allP e++free++[x])=to at hf |-;rw[D1];refine⟨⟨fun _=>hf,fun q=>absurd (show e.kind=2 from q) (by omega),fun q=>absurd (show lowK e.kind from .inr hk) q,h.one.2.2.2⟩,fun y hy=>?_⟩;have hc':∀ks,(Exp.mk e.kind e.pos to e.num ks e.arms e.ty).children=ks:=fun ks=>by grind[BK]
   rw[hc']at hy;obtain⟨⟨z,i⟩,hz,rfl⟩:=qL.1 hy;have hzk:=qd (qao.1 hz);simp only;split
   .exact h.child (AO hzk)
   .exact Qk hf _ (h.child (AO hzk))
 .rw [if_neg hk]
  by_cases h8:e.kind=8
  .rw [if_pos h8]
   have harm:∀p∈e.arms,lowE (armP x free p).2/\∀s∈(armP x free p).1.vars,nameOk 97 122 s:=by
    intro p hm;have hnp:lowE p.2:=h.child (BB hm);have hv:=h.one.2.2.2 p hm;have hvl:=Exp.vars_le hm;have hwl:=Exp.child_lt (BB hm);unfold armP;split;grind
    .rename_i hx
     exact PX (hp.one p hm) hx (hs.child (BB hm)) (hp.child (BB hm)) (by omega) hnp hv p.1.vars.length (qg _)
   rw[D1];refine⟨⟨h.one.1,h.one.2.1,h.one.2.2.1,fun a ha=>?_⟩,fun y hy=>?_⟩
   .obtain ⟨p,hp',rfl⟩:=qL.1 (show a∈e.arms.map (armP x free) from ha)
    grind
   .rw [BK] at hy
    rcases qz.1 hy with hy|hy
    .exact h.child (AO hy)
    grind
  grind
theorem Sk {x:Str}{b:Exp}(hb:lowE b)(hbl:b.weight<=1000000000):∀(n:Nat)(e:Exp),e.weight<=n->e.weight<=1000000000->shp e->properP e->lowE e->lowE (subN n e x b)
 |0,e,_,_,_,_,hn=>hn
 |n+1,e,h,hl,hs,hp,hn=>by
  rw[CM];by_cases hk:e.kind=1;grind
  .rw [if_neg hk]
   have hP:=FE (x:=x) (b:=b) hs hp;have hfl:=G7 b;have hN:=ZF (x:=x) (free:=Ac b) hs hp hn (by omega);generalize AT x (Ac b) e=e' at hP hN |-;refine MY (subC_len n e' x b) hN fun y hy=>?_;obtain⟨i,hi⟩:=qj.1 hy;obtain⟨x1,hx1⟩:=Ag (l:=e'.children) (i:=i) (by have:=(qf.1 hi).1;simp_all);obtain⟨x0,hx0⟩:=Ag (l:=e.children) (i:=i) (by grind[El]);have hK:=hP.kids i x0 x1 hx0 hx1
   have hlt:=Exp.child_lt (qd hx0);have hw:=hK.weight;rw[Ej hx1]at hi;cases hi;split
   .exact hN.child (qd hx1)
   .exact Sk hb hbl n x1 (by omega) (by omega) hK.shape hK.proper (hN.child (qd hx1))
theorem D9 {e:Exp}:lowE e->nmL e:=by
 induction e using Exp.ind with
 |h e ih=>
  intro h s hs;have l12:∀{lo hi:Nat} {s:Str},nameOk lo hi s->s.length<=1000:=fun q=>qr q.1 (by decide);have hnm:e.name.length<=1000:=by
   by_cases hk:lowK e.kind
   .exact l12 (h.one.1 hk)
   .by_cases h2:e.kind=2
    .exact l12 (h.one.2.1 h2)
    .rw [h.one.2.2.1 hk h2]
     decide
  rcases A3.1 hs with h1|⟨i,x,hx,h1|h1⟩
  grind
  .rw [Bk] at h1
   split at h1;grind
   .split at h1
    .cases ha:e.arms[i-1]? with
     |none=>grind
     |some a=>
      rw[ha]at h1;exact l12 (h.one.2.2.2 a (qd ha) s h1)
    grind
  .have hm:=qd hx
   exact ih x hm (h.child hm) s h1
def Ge (e:Exp):Prop:=1<=e.kind/\e.kind<=11/\((e.kind≠3->e.num=0)/\0<=e.num/\e.num<=999999999)/\e.ty.size<=687194767360/\annT e/\(e.kind=8->e.arms≠[])/\∀a∈e.arms,nameOk 65 90 a.1.con/\a.1.vars.length<=2
def fixE (e:Exp):Prop:=e.fold fun e l=>Ge e/\∀p∈l,p
theorem EK (e:Exp):fixE e=(Ge e/\∀x∈e.children,fixE x):=by
 have:=Exp.fold_eq (fun e (l:List Prop)=>Ge e/\∀p∈l,p) e;unfold fixE;rw[this];simp only[qN]
theorem fixE.one {e:Exp}(h:fixE e):Ge e:=by grind[EK]
theorem fixE.child {e x:Exp}(h:fixE e)(hx:x∈e.children):fixE x:=by grind[EK]
theorem M0 {a c:Exp}(h1:a.kind=c.kind)(h2:a.num=c.num)(h3:a.ty=c.ty)(h4:a.arms.length=c.arms.length)(h5:∀(i:Nat) p q,a.arms[i]?=some p->c.arms[i]?=some q->p.1.con=q.1.con/\p.1.vars.length=q.1.vars.length)(h:Ge a):Ge c:=by
 obtain⟨g1,g2,g3,g4,g5,g6,g7⟩:=h;refine⟨h1▸g1,h1▸g2,?_,h3▸g4,⟨fun q=>h3▸g5.1 (h1▸q),fun q=>h3▸g5.2 (h1▸q)⟩,fun q=>?_,fun q hq=>?_⟩;omega;grind
 .obtain ⟨i,hi⟩:=qj.1 hq
  obtain⟨p,hp⟩:=Ag (l:=a.arms) (i:=i) (by grind);grind
theorem isVar.fix {s:Str}{c:Exp}(h:isVar s c):fixE c:=by
 obtain⟨k,_,nu,ty,ks,am⟩:=h;rw[EK];refine⟨⟨by omega,by omega,⟨fun _=>nu,by omega,by omega⟩,by rw[ty];decide,⟨fun _=>ty,fun q=>by omega⟩,fun q=>by omega,by grind⟩,fun z hz=>?_⟩;grind[Exp.children]
theorem instR.fix (a:Exp):∀(c:Exp)(V:Rep),instR a c V->fixE a->(∀s d,V s d->fixE d)->fixE c:=by
 induction a using Exp.ind with
 |h a ih=>
  intro c V h ht hv;by_cases hk:a.kind=1
  .exact hv _ _ (h.var hk)
  .obtain ⟨h1,h2,h3,h4⟩:=h.node hk
   rw[EK];refine⟨M0 h1.1 h1.2.1 h1.2.2.1 h1.2.2.2.2 h3 ht.one,fun y hy=>?_⟩;obtain⟨i,hi⟩:=qj.1 hy;obtain⟨x,hx⟩:=Ag (l:=a.children) (i:=i) (by rw[h1.children];grind);refine ih x (qd hx) y _ (h4 i x y hx hi) (ht.child (qd hx)) fun s d hd=>?_;rcases hd with ⟨_,t,_,_,hvv⟩|⟨_,q,_⟩
   .exact hvv.fix
   grind
theorem Xl {e:Exp}{cs:List Exp}(hl:cs.length=e.kids.length+e.arms.length)(he:fixE e)(hc:∀c∈cs,fixE c):fixE (AL e cs):=by
 obtain⟨_,h2,h3,h4⟩:=BN hl;rw[EK,h3];refine⟨M0 (a:=e) rfl rfl rfl h2.symm (fun i p q hp hq=>?_) he.one,hc⟩;grind
theorem Zb8 (s:Str):fixE (varX s):=(show isVar s (varX s)from⟨rfl,rfl,rfl,rfl,rfl,rfl⟩).fix
def lfE (e:Exp):Prop:=lowE e/\fixE e
theorem lfE.child {e x:Exp}(h:lfE e)(hx:x∈e.children):lfE x:=⟨h.1.child hx,h.2.child hx⟩
theorem Pf {x:Str}{e b:Exp}(he:okE e)(hb:okE b)(hel:e.weight<=1000000000)(hbl:b.weight<=1000000000)(h:lfE e)(hr:lfE b):lfE (subP e x b):=by
 refine⟨Sk hr.1 hbl _ e (qg _) hel he.1 he.2.1 h.1,instR.fix e _ _ (Hk x b hb.1 e.weight e (qg _) he.1 he.2.1) h.2 fun s d hd=>?_⟩;unfold subV at hd;split at hd
 .exact hd▸hr.2
 .exact hd.fix
theorem ZcM (a:Exp):∀b,sameP a b->lfE a->lfE b:=by
 induction a using Exp.ind with
 |h a ih=>
  intro b h ha;obtain⟨⟨h1,h2,h3,h4,h5,h6,h7⟩,h8⟩:=BP.1 h;have hk:∀y∈b.children,lfE y:=fun y hy=>by
   obtain⟨i,hi⟩:=qj.1 hy;obtain⟨x,hx⟩:=Ag (l:=a.children) (i:=i) (by rw[h.kids_len];grind);have hm:=qd hx;exact ih x hm y (h8 i x y hx hi) (ha.child hm)
  refine⟨?_,?_⟩
  .rw [D1]
   obtain⟨g1,g2,g3,g4⟩:=ha.1.one;refine⟨⟨by grind,by grind,by grind,fun q hq=>?_⟩,fun y hy=>(hk y hy).1⟩;obtain⟨i,hi⟩:=qj.1 hq;obtain⟨p,hp⟩:=Ag (l:=a.arms) (i:=i) (by grind);grind
  .rw [EK]
   exact⟨M0 h1 h3 h4 h6 (fun i p q hp hq=>by grind) ha.2.one,fun y hy=>(hk y hy).2⟩
theorem WW {e:Exp}(h:lfE e):lfE (Ai e):=ZcM e _ (Io e) h
def asz (ρ:Str->Nat)(bs:List Str):Str->Nat:=fun s=>if s∈bs then 0 else ρ s
def cF (e:Exp)(l:List ((Str->Nat)->Nat))(ρ:Str->Nat):Nat:=if e.kind=1 then ρ e.name else (l.zipIdx.map fun p=>p.1 (asz ρ (e.bound p.2))).sum
def cV (e:Exp):(Str->Nat)->Nat:=e.fold cF
theorem DM {e:Exp}(h:e.kind=1)(ρ:Str->Nat):cV e ρ=ρ e.name:=by
 unfold cV;rw[Exp.fold_eq,cF,if_pos h]
theorem DJ {e:Exp}(h:e.kind≠1)(ρ:Str->Nat):cV e ρ=(e.children.zipIdx.map fun p=>cV p.1 (asz ρ (e.bound p.2))).sum:=by
 unfold cV;rw[Exp.fold_eq,cF,if_neg h,NM]
theorem Jh (e:Exp):∀(ρ σ:Str->Nat),(∀s∈Ac e,ρ s<=σ s)->cV e ρ<=cV e σ:=by
 induction e using Exp.ind with
 |h e ih=>
  intro ρ σ h;by_cases hk:e.kind=1
  .grind[DM,Cd]
  .rw [DJ hk,DJ hk]
   refine Fe _ _ 0 rfl fun i x y hx hy=>?_;rw[hx]at hy;cases hy;refine ih x (qd hx) _ _ fun s hs=>?_;grind[asz,BD]
theorem TR {α:Type}{f:α×Nat->Nat}:∀(l:List α)(k:Nat),(∀(i:Nat) x,l[i]?=some x->f (x,k+i)=0)->((l.zipIdx k).map f).sum=0
 |[],_,_=>rfl
 |a::l,k,h=>by
  simp only[qa4,qv,qad];have h1:=h 0 a rfl;have h2:=TR (f:=f) l (k+1) fun i x hx=>by
   have:=h (i+1) x (by simpa using hx);grind
  grind
theorem Od (e:Exp)(ρ:Str->Nat)(h:∀s∈Ac e,ρ s=0):cV e ρ=0:=by
 induction e using Exp.ind generalizing ρ with
 |h e ih=>
  by_cases hk:e.kind=1
  .grind[DM,Cd]
  .rw [DJ hk]
   refine TR _ 0 fun i x hx=>ih x (qd hx) _ fun s hs=>?_;grind[asz,BD]
theorem K6 {α:Type}{f g h:α×Nat->Nat}:∀(l:List α)(k:Nat),(∀(i:Nat) x,l[i]?=some x->f (x,k+i)<=g (x,k+i)+h (x,k+i))->((l.zipIdx k).map f).sum<=((l.zipIdx k).map g).sum+((l.zipIdx k).map h).sum
 |[],_,_=>by simp
 |a::l,k,hf=>by
  simp only[qa4,qv,qad];have h1:=hf 0 a rfl;have h2:=K6 (f:=f) (g:=g) (h:=h) l (k+1) fun i x hx=>by
   have:=hf (i+1) x (by simpa using hx);grind
  grind
theorem ZC (e:Exp):∀(ρ σ τ:Str->Nat),(∀s∈Ac e,ρ s<=σ s+τ s)->cV e ρ<=cV e σ+cV e τ:=by
 induction e using Exp.ind with
 |h e ih=>
  intro ρ σ τ h;by_cases hk:e.kind=1
  .grind[DM,Cd]
  .rw [DJ hk,DJ hk,DJ hk]
   refine K6 _ 0 fun i x hx=>ih x (qd hx) _ _ _ fun s hs=>?_;grind[asz,BD]
theorem Tq {M:Nat}(e:Exp):∀(ρ σ:Str->Nat),(∀s∈Ac e,ρ s<=1+M*σ s)->wV e ρ<=e.weight+M*cV e σ:=by
 induction e using Exp.ind with
 |h e ih=>
  intro ρ σ h;have hp:=e.weight_pos;by_cases hk:e.kind=1
  .have:=h e.name ((Cd hk).2 rfl)
   rw[Fb hk,DM hk];omega
  .rw [Gr hk,DJ hk,e.weight_eq,Mf]
   have h1:=K6 (f:=fun p=>wV p.1 (asg ρ (e.bound p.2))) (g:=fun p:Exp×Nat=>p.1.weight) (h:=fun p=>M*cV p.1 (asz σ (e.bound p.2))) e.children 0 fun i x hx=>by
    refine ih x (qd hx) _ _ fun s hs=>?_;have:=fun hb=>h s ((BD hk).2 ⟨i,x,hx,hs,hb⟩);unfold asg asz;split<;>grind
   have h2:(e.children.zipIdx.map fun p=>M*cV p.1 (asz σ (e.bound p.2))).sum=M*(e.children.zipIdx.map fun p=>cV p.1 (asz σ (e.bound p.2))).sum:=by
    generalize e.children.zipIdx=l
    induction l with
    |nil=>rfl
    |cons a l ih=>simp only[qv,qad,ih,Nat.mul_add]
   omega
theorem O2 (a:Exp):∀(c:Exp)(V:Rep)(ρ σ:Str->Nat),instR a c V->(∀s∈Ac a,∀d,V s d->cV d σ<=ρ s)->cV c σ<=cV a ρ:=by
 induction a using Exp.ind with
 |h a ih=>
  intro c V ρ σ h hv;by_cases hk:a.kind=1
  .rw [DM hk]
   exact hv _ ((Cd hk).2 rfl) _ (h.var hk)
  .obtain ⟨h1,h2,h3,h4⟩:=h.node hk
   have hl:c.children.length=a.children.length:=h1.children.symm;rw[DJ (show c.kind≠1 from fun q=>hk (h1.1.trans q)),DJ hk];refine Fe _ _ 0 hl fun i y x hy hx=>?_;refine ih x (qd hx) y _ _ _ (h4 i x y hx hy) fun s hs d hd=>?_;simp only[qaw];rcases hd with ⟨hb,t,ht,_,hvt⟩|⟨hb,hvd,hf⟩
   .rw [DM hvt.1,hvt.2.1]
    grind[asz]
   .refine qr (Jh d _ σ fun u hu=>?_) (qr (hv s ((BD hk).2 ⟨i,x,hx,hs,hb⟩) d hvd) ?_)<;>grind[asz]
theorem Xj {x:Str}{b e:Exp}(hb:okE b)(he:okE e)(σ:Str->Nat):cV (subP e x b) σ<=cV e (fun s=>if s=x then cV b σ else σ s):=by
 refine O2 e _ _ _ σ (Hk x b hb.1 e.weight e (qg _) he.1 he.2.1) fun s _ d hd=>?_;unfold subV at hd;split at hd
 .grind
 .rename_i h
  rw[if_neg h,DM hd.1,hd.2.1];exact qg _
def Aj (e:Exp):Nat:=e.fold fun _ l=>1+l.sum
theorem C2 (e:Exp):Aj e=1+(e.children.map Aj).sum:=Exp.fold_eq _ e
def indV (l:List Str):Str->Nat:=fun s=>if s∈l then 1 else 0
theorem Zam (e:Exp)(l:List Str):cV e (indV l)<=Aj e:=by
 suffices h:∀ρ:Str->Nat,(∀s,ρ s<=1)->cV e ρ<=Aj e from h _ fun s=>by unfold indV;split<;>omega
 induction e using Exp.ind with
 |h e ih=>
  intro ρ h;rw[C2];by_cases hk:e.kind=1
  .have:=h e.name
   rw[DM hk];omega
  .rw [DJ hk]
   have h1:(e.children.zipIdx.map fun p=>cV p.1 (asz ρ (e.bound p.2))).sum<=(e.children.zipIdx.map fun p=>Aj p.1).sum:=Fe _ _ 0 rfl fun i x y hx hy=>by
    rw[hx]at hy;cases hy;exact ih x (qd hx) _ fun s=>by unfold asz;split<;>grind
   have h2:(e.children.zipIdx.map fun p=>Aj p.1)=e.children.map Aj:=by
    refine qE fun i=>?_;grind
   rw[h2]at h1;omega
def occB (B:Nat)(e:Exp):Prop:=e.fold fun e l=>(∀(i:Nat) x,e.children[i]?=some x->∀u∈e.bound i,cV x (indV [u])<=B)/\∀p∈l,p
theorem FK (B:Nat)(e:Exp):occB B e=((∀(i:Nat) x,e.children[i]?=some x->∀u∈e.bound i,cV x (indV [u])<=B)/\∀x∈e.children,occB B x):=by
 have:=Exp.fold_eq (fun e (l:List Prop)=>(∀(i:Nat) x,e.children[i]?=some x->∀u∈e.bound i,cV x (indV [u])<=B)/\∀p∈l,p) e;unfold occB;rw[this];simp only[qN]
theorem occB.one {B:Nat}{e:Exp}(h:occB B e):∀(i:Nat) x,e.children[i]?=some x->∀u∈e.bound i,cV x (indV [u])<=B:=by
 rw[FK]at h;exact h.1
theorem occB.child {B:Nat}{e x:Exp}(h:occB B e)(hx:x∈e.children):occB B x:=by
 rw[FK]at h;exact h.2 x hx
theorem HN {B:Nat}(e:Exp):Aj e<=B->occB B e:=by
 induction e using Exp.ind with
 |h e ih=>
  intro h;have hc:∀x∈e.children,Aj x<=B:=fun x hx=>by
   have:=IS (qat (f:=Aj) hx);rw[C2]at h;omega
  rw[FK];exact⟨fun i x hx u _=>qr (Zam x [u]) (hc x (qd hx)),fun x hx=>ih x hx (hc x hx)⟩
theorem VG {l:List Str}{s t:Str}(hs:s∈l)(ht:t∈l)(h:rlast l s=rlast l t):s=t:=by
 unfold rlast at h;rw[if_pos hs,if_pos ht]at h;have h1:=HL (GU.2 (List.mem_reverse.2 hs));have h2:=HL (GU.2 (List.mem_reverse.2 ht));rw[show Be l.reverse s=Be l.reverse t by omega]at h1;grind
theorem isVar.bnd {B:Nat}{s:Str}{c:Exp}(h:isVar s c):occB B c:=by
 have hc:c.children=[]:=by
  obtain⟨_,_,_,_,ks,am⟩:=h;simp[Exp.children,ks,am]
 rw[FK,hc];exact⟨fun i x hx=>by simp at hx,fun x hx=>by cases hx⟩
theorem Wm {B:Nat}(a:Exp):∀(c:Exp)(V:Rep),instR a c V->occB B a->(∀s d,V s d->occB B d)->occB B c:=by
 induction a using Exp.ind with
 |h a ih=>
  intro c V h ha hv;by_cases hk:a.kind=1
  .exact hv _ _ (h.var hk)
  .obtain ⟨h1,h2,h3,h4⟩:=h.node hk
   have hl:c.children.length=a.children.length:=h1.children.symm;rw[FK];have get:∀(i:Nat) y,c.children[i]?=some y->∃x,a.children[i]?=some x:=fun i y hy=>Ag (by grind);refine⟨fun i y hy u hu=>?_,fun y hy=>?_⟩
   .obtain ⟨x,hx⟩:=get i y hy
    have hi:=O2 x y _ (fun s=>if s∈a.bound i/\rlast (a.bound i) s=rlast (c.bound i) u then 1 else 0) (indV [u]) (h4 i x y hx hy) fun s hs d hd=>by
     rcases hd with ⟨hb,t,ht,hr,hvt⟩|⟨hb,hvd,hf⟩
     .rw [DM hvt.1,hvt.2.1]
      unfold indV;grind
     .rw [Od d _ fun w hw=>by unfold indV;grind]
      omega
    refine qr hi ?_;by_cases hq:∃v∈a.bound i,rlast (a.bound i) v=rlast (c.bound i) u
    .obtain ⟨v,hvb,hvr⟩:=hq
     refine qr (Jh x _ (indV [v]) fun s _=>?_) (ha.one i x hx v hvb);split
     .rename_i hs
      have:s=v:=VG hs.1 hvb (hs.2.trans hvr.symm);simp[indV,this]
     .omega
    .rw [Od x _ fun s _=>if_neg fun q=>hq ⟨s,q⟩]
     omega
   .obtain ⟨i,hi⟩:=qj.1 hy
    obtain⟨x,hx⟩:=get i y hi;refine ih x (qd hx) y _ (h4 i x y hx hi) (ha.child (qd hx)) fun s d hd=>?_;rcases hd with ⟨_,t,_,_,hvt⟩|⟨_,q,_⟩
    .exact hvt.bnd
    .exact hv s d q
theorem OK {B:Nat}{x:Str}{b e:Exp}(hb:okE b)(he:okE e)(h:occB B e)(hr:occB B b):occB B (subP e x b):=by
 refine Wm e _ _ (Hk x b hb.1 e.weight e (qg _) he.1 he.2.1) h fun s d hd=>?_;unfold subV at hd;split at hd
 .exact hd▸hr
 .exact hd.bnd
theorem RB {B:Nat}{e:Exp}:∀(l:List Str),(∀v∈l,cV e (indV [v])<=B)->cV e (indV l)<=l.length*B
 |[],_=>by
  have:=Od e (indV []) fun s _=>by simp[indV]
  omega
 |v::l,h=>by
  have h1:=h v (by simp);have h2:=RB l fun u hu=>h u (by simp[hu]);have h3:=ZC e (indV (v::l)) (indV [v]) (indV l) fun s _=>by
   unfold indV;grind
  rw[qF,qaH];omega
theorem ZbT {B:Nat}{x:Str}{e b:Exp}(he:okE e)(hb:okE b)(h:cV e (indV [x])<=B):(subP e x b).weight<=e.weight+B*b.weight:=by
 have h1:=K7 (subP e x b) (fun _=>1) (Ds he hb).1 fun _=>qg _;have h2:=NQ (x:=x) (b:=b) (e:=e) (n:=e.weight) hb.1 (qg _) he.1 he.2.1 fun _=>1;have h3:=LS (qg 1) b (fun _=>1) fun _ _=>qg _;have h4:=Tq (M:=b.weight) e (fun s=>if s=x then wV b (fun _=>1) else 1) (indV [x]) fun s _=>by
  unfold indV;split<;>simp_all<;>omega
 have h5:=qaC b.weight h;rw[Nat.mul_comm B];unfold subP at *
 omega
theorem Ss:∀(l:List (Str×Exp))(e:Exp)(F:List Str),okE e->(∀p∈l,∃t,p.2=varX t)->cV (Ax l e) (indV F)<=cV e (indV (F++l.map (·.1)))
 |[],e,F,_,_=>by simp[Ax]
 |p::l,e,F,he,hl=>by
  obtain⟨t,ht⟩:=hl p (by simp);have hv:okE p.2:=ht▸Ev t;rw[CU];refine qr (Ss l _ F (Ds he hv) fun q hq=>hl q (by simp[hq])) (qr (Xj hv he _) (Jh e _ _ fun s _=>?_));by_cases hs:s=p.1
  .rw [if_pos hs,ht,DM (show (varX t).kind=1 from rfl)]
   unfold indV;grind
  .rw [if_neg hs]
   unfold indV;grind
theorem Xz {M N:Nat}(hM:1<=M){l:List (Str×Exp)}{e:Exp}(he:okE e)(hl:∀p∈l,okE p.2/\p.2.weight<=M/\∀q∈l,q.1∉Ac p.2)(h:cV e (indV (l.map (·.1)))<=N):(Ax l e).weight<=e.weight+N*M:=by
 have h0:=(Km l e e (HQ e) he fun p hp=>(hl p hp).1).2;have h1:=K7 (Ax l e) (fun _=>1) h0.1 fun _=>qg _;have h2:=QX hM l e he hl;have h3:=Tq (M:=M) e (asgL M l) (indV (l.map (·.1))) fun s _=>by
  unfold asgL indV;by_cases hs:∃p∈l,p.1=s
  .rw [if_pos hs,if_pos (by obtain ⟨p,hp,rfl⟩:=hs;exact qat hp)]
   omega
  .rw [if_neg hs]
   omega
 have h5:=qaC M h;rw[Nat.mul_comm N];omega
theorem shp.app {e:Exp}(h:shp e)(h5:e.kind=5):∃f x,e.kids=[f,x]/\shp f/\shp x/\e.arms=[]:=by
 have ha:=h.one.1.2.1 (show ¬e.kind=8 by omega);have hk:e.kids.length=2:=by
  have:=h.one.2.2;rw[h5]at this;exact this
 match hkk:e.kids,hk with
 |[f,x],_=>exact⟨f,x,rfl,h.child (AO (by grind)),h.child (AO (by grind)),ha⟩
theorem HZ {P:Exp->Prop}(hP:∀e x,P e->x∈e.children->P x)(e:Exp):shp e->P e->P (spine e).1/\∀x∈(spine e).2,P x:=by
 induction e using Exp.ind with
 |h e ih=>
  intro hs h;by_cases h5:e.kind=5
  .obtain ⟨f,x,hk,sf,sx,ha⟩:=hs.app h5
   grind[AO,Ez,qy]
  grind[DN]
theorem J8 (e:Exp):shp e->(spine e).1.weight+((spine e).2.map Exp.weight).sum+(spine e).2.length=e.weight:=by
 induction e using Exp.ind with
 |h e ih=>
  intro hs;by_cases h5:e.kind=5
  .obtain ⟨f,x,hk,sf,sx,ha⟩:=hs.app h5
   have:=ih f (AO (by grind)) sf;rw[Ez h5 hk,e.weight_eq,Exp.children,hk,ha];grind
  grind[DN]
theorem RO {e x:Exp}(hs:shp e)(hx:x∈(spine e).2):x.weight<e.weight:=by
 have h1:=J8 e hs;have h2:=IS (qat (f:=Exp.weight) hx);grind
theorem HW:∀(n:Nat)(e:Exp)(l:List Exp),e.weight<=n->shp e->CC n e l=((spine e).1,(spine e).2++l)
 |0,e,_,h,_=>by have:=e.weight_pos;omega
 |n+1,e,l,h,hs=>by
  unfold CC;by_cases h5:e.kind=5
  .obtain ⟨f,x,hk,sf,sx,ha⟩:=hs.app h5
   have hf:=Exp.child_lt (e:=e) (x:=f) (AO (by grind));rw[if_pos h5,hk,Ez h5 hk];show CC n f (x::l)=_;rw[HW n f (x::l) (by omega) sf];simp
  grind[DN]
theorem II (e:Exp):(Ah e).length=e.weight:=by
 induction e using Exp.ind with
 |h e ih=>
  have h1:(e.children.map Ah).flatten.length=(e.children.map Exp.weight).sum:=by
   grind[qM]
  have h2:(e.arms.map fun a=>a.1.vars).flatten.length=(e.arms.map fun a=>a.1.vars.length).sum:=by
   rw[qa2,qan];rfl
  rw[E6,e.weight_eq,qF,qI,h1,h2];omega
theorem NL {e x:Exp}(hx:x∈e.children){s:Str}(h:s∈Ah x):s∈Ah e:=by
 grind[E6]
theorem QM (e:Exp):∀s∈Ac e,s∈Ah e:=by
 induction e using Exp.ind<;>grind[Cd,E6,BD]
theorem Qg {e f:Exp}(he:okE e)(hk:e.kind=7):(AA e f).weight=1+2*f.weight:=by
 have ha:=he.1.one.1.2.1 (show ¬e.kind=8 by omega);grind[AA,Dr]
theorem XH {B:Nat}{e f:Exp}(he:okE e)(hk:e.kind=7)(h:occB B e)(hf:f∈e.children):occB B (AA e f):=by
 have ha:=he.1.one.1.2.1 (show ¬e.kind=8 by omega);have hc:(AA e f).children=[f,f]:=by grind[AA,BK]
 obtain⟨i,hi⟩:=qj.1 hf;rw[FK,hc];refine⟨fun j x hx u hu=>?_,fun x hx=>?_⟩
 .have hxf:x=f:=by grind
  subst hxf;refine h.one i x hi u ?_;rw[Bk]at hu |-;have hk2:(AA e x).kind=7:=hk;rw[if_pos (by omega)]at hu |-;exact hu
 .have hxf:x=f:=by grind
  exact hxf▸h.child hf
theorem Mg {B:Nat}:∀(l:List (Str×Exp))(e:Exp),okE e->occB B e->(∀p∈l,okE p.2/\occB B p.2)->occB B (Ax l e)
 |[],_,_,h,_=>h
 |p::l,e,he,h,hl=>by
  obtain⟨h1,h2⟩:=hl p (by simp);rw[CU];exact Mg l _ (Ds he h1) (OK h1 he h h2) fun q hq=>hl q (by simp[hq])
theorem QJ {e f:Exp}(he:okE e)(hk:e.kind=7)(h:lfE e)(hf:f∈e.children):lfE (AA e f):=by
 have ha:=he.1.one.1.2.1 (show ¬e.kind=8 by omega);have hc:(AA e f).children=[f,f]:=by grind[AA,BK]
 have hm:∀y∈(AA e f).children,y=f:=fun y hy=>by grind
 refine⟨?_,?_⟩
 .rw [D1]
  exact⟨h.1.one,fun y hy=>hm y hy▸h.1.child hf⟩
 .rw [EK]
  exact⟨h.2.one,fun y hy=>hm y hy▸h.2.child hf⟩
theorem Nx (l m:List (Str×Exp))(e:Exp):Ax (l++m) e=Ax m (Ax l e):=by
 grind[Ax]
theorem Zp {s:Str}(h:s.length<=1000):nmL (varX s):=fun t ht=>by
 rcases A3.1 ht with h1|⟨i,x,hx,_⟩
 .exact h1▸h
 .cases hx
theorem Td:∀(l:List (Str×Exp))(e:Exp),okE e->nmL e->e.weight<=100000000000->(∀p∈l,p.1.length<=1000/\∃t,p.2=varX t/\t.length<=1000)->okE (Ax l e)/\nmL (Ax l e)/\(Ax l e).weight<=e.weight
 |[],_,h1,h2,_,_=>⟨h1,h2,qg _⟩
 |p::l,e,h1,h2,hw,hl=>by
  obtain⟨hp,t,ht,hn⟩:=hl p (by simp);have hwt:(subP e p.1 p.2).weight<=e.weight:=by grind[Zcy]
  rw[CU];obtain⟨g1,g2,g3⟩:=Td l (subP e p.1 p.2) (by grind[Ds,Ev]) (by rw[ht];exact Tn h1.1 (Ev t).1 h1.2.1 h2 (Zp hn) hw (by rw[RP];omega) hp) (by omega) fun q hq=>hl q (by grind);grind
theorem Ng:∀(l:List (Str×Exp))(e:Exp),okE e->lfE e->(∀k,(Ax (l.take k) e).weight<=1000000000)->(∀p∈l,okE p.2/\lfE p.2/\p.2.weight<=1000000000)->okE (Ax l e)/\lfE (Ax l e)
 |[],_,he,h,_,_=>⟨he,h⟩
 |p::l,e,he,h,hw,hl=>by
  obtain⟨h1,h2,h3⟩:=hl p (by simp);rw[CU];refine Ng l _ (Ds he h1) (Pf he h1 ?_ h3 h h2) (fun k=>?_) fun q hq=>hl q (by grind)
  .have:=hw 0
   grind[Ax]
  .have:=hw (k+1)
   grind[CU]
def renL (T:List Str)(vars:List Str):List (Str×Exp):=vars.zipIdx.map fun p=>(p.1,varX (Av p.2 T))
def argL (T:List Str)(args:List Exp):List (Str×Exp):=args.zipIdx.map fun p=>(Av p.2 T,p.1)
theorem ZaL (T vars:List Str)(args:List Exp):Ef T vars args=renL T vars++argL T args:=rfl
theorem ZaO {T vars:List Str}{p:Str×Exp}(h:p∈renL T vars)(hl:vars.length+T.length<=687194767360):p.1∈vars/\∃t,p.2=varX t/\t.length<=1000:=by
 obtain⟨⟨v,i⟩,hr,rfl⟩:=qL.1 h;have:=qao.1 hr;have hi:=(qf.1 this).1;exact⟨qd this,_,rfl,Ha i T (by simp only at hi;omega)⟩
theorem FS {T:List Str}{args:List Exp}{p:Str×Exp}(h:p∈argL T args):p.2∈args/\p.1∉T:=by
 obtain⟨⟨y,i⟩,hr,rfl⟩:=qL.1 h;grind[F2]
structure Lim (B:Nat)(e:Exp):Prop where
 bd:occB B e
 wt:(2*B+1)*e.weight<=100000000000
 sm:e.weight<=100000000
theorem Lim.child {B:Nat}{e x:Exp}(h:Lim B e)(hx:x∈e.children):Lim B x:=by
 have h1:=qaC (2*B+1) (qbh (Exp.child_lt hx));exact⟨h.bd.child hx,qr h1 h.wt,qr (qbh (Exp.child_lt hx)) h.sm⟩
structure CaseOk (B:Nat)(e k:Exp)(a:ArmH×Exp):Prop where
 ok:okE e
 lf:lfE e
 lm:Lim B e
 kk:e.kids=[k]
 am:a∈e.arms
section
variable {B:Nat}{e k:Exp}{a:ArmH×Exp}(h:CaseOk B e k a)
include h
theorem CaseOk.sum:a.2.weight+a.1.vars.length+k.weight+1<=e.weight:=by
 have h1:(e.children.map Exp.weight).sum=(e.kids.map Exp.weight).sum+((e.arms.map (·.2)).map Exp.weight).sum:=by grind[Exp.children]
 have h2:a.2.weight<=((e.arms.map (·.2)).map Exp.weight).sum:=IS (qat (f:=Exp.weight) (qat (f:=fun x:ArmH×Exp=>x.2) h.am));have h3:a.1.vars.length<=(e.arms.map fun a=>a.1.vars.length).sum:=IS (qat (f:=fun a:ArmH×Exp=>a.1.vars.length) h.am);have h4:=e.weight_eq;rw[h1,h.kk]at h4;grind
theorem CaseOk.kid:k∈e.children:=AO (by rw[h.kk];simp)
theorem CaseOk.args:∀x∈(spine k).2,okE x/\lfE x/\x.weight<=k.weight/\∀s∈Ac x,s∈Ah e:=by
 have hk:=h.kid;have hs:=(h.ok.child hk).1;have h1:=(HZ (P:=okE) (fun _ _ q hx=>q.child hx) k hs (h.ok.child hk)).2;have h2:=(HZ (P:=lfE) (fun _ _ q hx=>q.child hx) k hs (h.lf.child hk)).2;have h3:=(HZ (P:=fun y=>∀s∈Ah y,s∈Ah e) (fun _ _ q hx s hs=>q s (NL hx hs)) k hs (fun s hs=>NL hk hs)).2;exact fun x hx=>⟨h1 x hx,h2 x hx,qbh (RO hs hx),fun s q=>h3 x hx s (QM x s q)⟩
theorem CaseOk.ren (j:Nat):okE (Ax ((renL (Ah e) a.1.vars).take j) a.2)/\nmL (Ax ((renL (Ah e) a.1.vars).take j) a.2)/\(Ax ((renL (Ah e) a.1.vars).take j) a.2).weight<=a.2.weight:=by
 have hs:=h.sum;have hw:=h.lm.sm;have hm:=BB h.am;have hu:=II e;refine Td _ a.2 (h.ok.child hm) (D9 (h.lf.child hm).1) (by omega) fun p hp=>?_;obtain⟨h1,h2⟩:=ZaO (q8 hp) (by omega);exact⟨qr (h.lf.1.one.2.2.2 a h.am p.1 h1).1 (by decide),h2⟩
theorem CaseOk.vars:∀v∈a.1.vars,cV a.2 (indV [v])<=B:=by
 obtain⟨i,hi⟩:=qj.1 h.am;have h8:e.kind=8:=qP fun h8=>by
  have:=h.ok.1.wf.one.2.1 h8;rw[this]at hi;simp at hi
 have hc:e.children[1+i]?=some a.2:=by
  unfold Exp.children;rw[h.kk,qH (by simp)];simp[hi]
 refine fun v hv=>h.lm.bd.one _ _ hc v ?_;rw[Bk,if_neg (by omega),if_pos (by omega),show 1+i-1=i by omega,hi];exact hv
theorem CaseOk.occ (j:Nat):cV (Ax (renL (Ah e) a.1.vars) a.2) (indV (((argL (Ah e) (spine k).2).take j).map (·.1)))<=2*B:=by
 have hm:=BB h.am;refine qr (Ss _ _ _ (h.ok.child hm) fun p hp=>?_) (qr (Jh _ _ (indV a.1.vars) fun s hs=>?_) (qr (RB _ h.vars) (qQ B (h.lf.2.one.2.2.2.2.2.2 a h.am).2)))
 .obtain ⟨q,_,rfl⟩:=qL.1 hp
  exact⟨_,rfl⟩
 .have hmap:(renL (Ah e) a.1.vars).map (·.1)=a.1.vars:=by
   refine qE fun i=>?_;simp only[renL,qq,qaz];cases a.1.vars[i]?<;>rfl
  rw[hmap];unfold indV;by_cases hv:s∈a.1.vars
  .rw [if_pos hv]
   split<;>omega
  .rw [if_neg fun q => ?_]
   .omega
   .rcases qz.1 q with q|q
    .obtain ⟨p,hp,rfl⟩:=qL.1 q
     exact(FS (q8 hp)).2 (NL hm (QM _ _ hs))
    .exact hv q
theorem CaseOk.sub (j:Nat):okE (Ax ((argL (Ah e) (spine k).2).take j) (Ax (renL (Ah e) a.1.vars) a.2))/\nmL (Ax ((argL (Ah e) (spine k).2).take j) (Ax (renL (Ah e) a.1.vars) a.2))/\
 (Ax ((argL (Ah e) (spine k).2).take j) (Ax (renL (Ah e) a.1.vars) a.2)).weight<=(2*B+1)*e.weight:=by
 obtain⟨r1,r2,r3⟩:=h.ren (renL (Ah e) a.1.vars).length;have ho:=h.occ;rw[qbi]at r1 r2 r3;generalize Ax (renL (Ah e) a.1.vars) a.2=b at *
 have hs:=h.sum;have hw:=h.lm.wt;have hsm:=h.lm.sm;have hkp:=k.weight_pos;have hul:=II e;have hA:=h.args;have hal:=J8 k (h.ok.child h.kid).1;have hL:∀p∈argL (Ah e) (spine k).2,okE p.2/\p.2.weight<=k.weight/\∀q∈argL (Ah e) (spine k).2,q.1∉Ac p.2:=fun p hp=>by
  obtain⟨a1,_,a3,a4⟩:=hA p.2 (FS hp).1;exact⟨a1,a3,fun q hq hf=>(FS hq).2 (a4 _ hf)⟩
 have hT:∀j,(Ax ((argL (Ah e) (spine k).2).take j) b).weight<=(2*B+1)*e.weight:=fun j=>by
  have h1:=Xz (N:=2*B) hkp r1 (fun p hp=>by
   obtain⟨h1,h2,h3⟩:=hL p (q8 hp);exact⟨h1,h2,fun q hq=>h3 q (q8 hq)⟩) (ho j)
  have h2:2*B*k.weight+1*(a.2.weight+a.1.vars.length+1)<=(2*B+1)*e.weight:=by
   have h3:2*B*k.weight<=2*B*e.weight:=qaC _ (by omega);rw[qaH];omega
  omega
 refine⟨(Km _ b b (HQ b) r1 fun p hp=>(hL p (q8 hp)).1).2,Sn _ b r1 r2 (fun i=>?_) fun p hp=>?_,hT j⟩
 .rw [List.take_take]
  exact qr (hT _) hw
 .obtain ⟨a1,a2,a3,_⟩:=hA p.2 (FS (q8 hp)).1
  refine⟨a1,D9 a2.1,by omega,?_⟩;obtain⟨⟨y,i⟩,hr,rfl⟩:=qL.1 (q8 hp);have hi:=(qf.1 (qao.1 hr)).1;simp only at hi;exact Ha i _ (by omega)
theorem CaseOk.keeps:occB B (Ax (argL (Ah e) (spine k).2) (Ax (renL (Ah e) a.1.vars) a.2))/\((2*B+1)*e.weight<=1000000000->lfE (Ax (argL (Ah e) (spine k).2) (Ax (renL (Ah e) a.1.vars) a.2))):=by
 have hm:=BB h.am;have hs:=h.sum;have hul:=II e;have hsm:=h.lm.sm;have hA:=h.args;have hr:∀p∈renL (Ah e) a.1.vars,∃t,p.2=varX t/\nameOk 97 122 t:=fun p hp=>by
  obtain⟨⟨v,i⟩,hr,rfl⟩:=qL.1 hp;have hi:=(qf.1 (qao.1 hr)).1;simp only at hi;exact⟨_,rfl,Ob (by omega)⟩
 have hB:∀x∈(spine k).2,occB B x:=(HZ (P:=occB B) (fun _ _ q hx=>q.child hx) k (h.ok.child h.kid).1 (h.lm.bd.child h.kid)).2;have r1:=(h.ren (renL (Ah e) a.1.vars).length).1;rw[qbi]at r1;refine⟨Mg _ _ r1 (Mg _ _ (h.ok.child hm) (h.lm.bd.child hm) fun p hp=>?_) fun p hp=>⟨(hA p.2 (FS hp).1).1,hB p.2 (FS hp).1⟩,fun hl=>?_⟩
 .obtain ⟨t,ht,_⟩:=hr p hp
  rw[ht];exact⟨Ev t,(show isVar t (varX t)from⟨rfl,rfl,rfl,rfl,rfl,rfl⟩).bnd⟩
 .have hle:e.weight<=(2*B+1)*e.weight:=qa9 _ (by omega)
  obtain⟨q1,q2⟩:=Ng (renL (Ah e) a.1.vars) a.2 (h.ok.child hm) (h.lf.child hm) (fun i=>qr (h.ren i).2.2 (by omega)) fun p hp=>by
   obtain⟨t,ht,hn⟩:=hr p hp;rw[ht];exact⟨Ev t,⟨Xa hn,Zb8 t⟩,by rw[RP];omega⟩
  exact(Ng _ _ q1 q2 (fun i=>qr (h.sub i).2.2 hl) fun p hp=>by
   obtain⟨a1,a2,a3,_⟩:=hA p.2 (FS hp).1;exact⟨a1,a2,by omega⟩).2
end
def StB (B:Nat)(e x:Exp):Prop:=x.weight<=(2*B+1)*e.weight/\occB B x/\((2*B+1)*e.weight<=1000000000->lfE x)
theorem GP {B:Nat}:∀(n:Nat)(e:Exp)(p:Exp×Nat),e.weight<=n->okE e->lfE e->Lim B e->AI subP Ah AA n e=some p->StB B e p.1
 |0,_,_,_,_,_,_,h=>by cases h
 |n+1,e,p,hn,he,hl,hw,h=>by
  have hpos:=e.weight_pos;have hle:e.weight<=(2*B+1)*e.weight:=qa9 _ (by omega);have hwt:=hw.wt;have one:∀c,c∈e.children->StB B e c:=fun c hc=>⟨by have:=Exp.child_lt hc;omega,hw.bd.child hc,fun _=>hl.child hc⟩
  have sub:∀(x:Str) (b y:Exp),okE b->okE y->occB B b->occB B y->lfE b->lfE y->cV b (indV [x])<=B->b.weight+B*y.weight<=(2*B+1)*e.weight->y.weight<=1000000000->StB B e (subP b x y):=fun x b y g1 g2 g3 g4 g5 g6 g7 g8 g9=>
   ⟨qr (ZbT g1 g2 g7) g8,OK g2 g1 g3 g4,fun q=>Pf g1 g2 (by omega) g9 g5 g6⟩
  have up:∀(c:Exp) (q:Exp×Nat),c∈e.children->e.kind=5\/e.kind=8->e.children.head?=some c->StB B c q.1->StB B e (AL e (q.1::e.children.tail)):=by
   intro c q hc h58 hh hq;obtain⟨hq1,hq2,hq3⟩:=hq;have hcl:=Exp.child_lt hc;have hlen:(q.1::e.children.tail).length=e.kids.length+e.arms.length:=by
    have:=e.children_len;grind
   have hmono:(2*B+1)*c.weight<=(2*B+1)*e.weight:=qaC _ (by omega);refine⟨?_,?_,fun ql=>?_⟩
   .have h1:=TQ hlen
    have h2:=e.weight_eq;cases hcc:e.children with
    |nil=>grind
    |cons d l=>
     rw[hcc]at hh h1 h2;simp only[List.head?_cons,qc]at hh;subst hh;simp only[List.tail_cons,qv,qad]at h1 h2;rw[List.tail_cons];have h3:(2*B+1)*e.weight=(2*B+1)*d.weight+(2*B+1)*(e.weight-d.weight):=(by rw[<-Nat.mul_add];congr 1;omega);have h4:e.weight-d.weight<=(2*B+1)*(e.weight-d.weight):=qa9 _ (by omega);omega
   .rw [FK,(BN hlen).2.2.1]
    refine⟨fun i x hx u hu=>?_,fun y hy=>?_⟩
    .rw [IC hlen] at hu
     cases i with
     |zero=>
      rw[Bk]at hu;split at hu
      .omega
      .rw [if_neg (by omega)] at hu
       cases hu
     |succ i=>exact hw.bd.one (i+1) x (by grind) u hu
    .rcases qD.1 hy with rfl|hy
     .exact hq2
     .exact hw.bd.child (List.mem_of_mem_tail hy)
   .have hmem:∀y∈q.1::e.children.tail,lfE y:=fun y hy=>by
     rcases qD.1 hy with rfl|hy
     .exact hq3 (by omega)
     .exact hl.child (List.mem_of_mem_tail hy)
    exact⟨MY hlen hl.1 fun y hy=>(hmem y hy).1,Xl hlen hl.2 fun y hy=>(hmem y hy).2⟩
  unfold AI at h;split at h
  .rename_i f a hk
   have hf:f∈e.children:=AO (by grind);have ha:a∈e.children:=AO (by grind);have hhd:e.children.head?=some f:=(by grind[Exp.children]);have hfl:=Exp.child_lt hf;have hal:=Exp.child_lt ha;have hsum:f.weight+a.weight+1<=e.weight:=by
    have h1:=e.weight_eq;unfold Exp.children at h1;rw[hk]at h1;simp only[qaD,qv,qaf,qbl,qad,qbj]at h1;omega
   have hmul:(2*B+1)*(f.weight+a.weight+1)<=(2*B+1)*e.weight:=qaC _ hsum;have hex:(2*B+1)*(f.weight+a.weight+1)=2*(B*f.weight)+2*(B*a.weight)+2*B+f.weight+a.weight+1:=(by grind);split at h
   .split at h
    .split at h
     .rename_i k hfk
      cases h;have hkf:=AO (e:=f) (x:=k) (by grind);have hkl:=Exp.child_lt hkf;exact sub _ _ _ ((he.child hf).child hkf) (he.child ha) ((hw.bd.child hf).child hkf) (hw.bd.child ha) ((hl.child hf).child hkf) (hl.child ha)
       ((hw.bd.child hf).one 0 k (by grind[Exp.children]) _ (by rw[Bk];grind)) (by omega) (by have:=hw.sm;omega)
     grind
    .rename_i h5 _
     obtain⟨q,hq,rfl⟩:=qo.1 h;exact up f q hf (.inl h5) hhd (GP n f q (by omega) (he.child hf) (hl.child hf) (hw.child hf) hq)
   .split at h
    .rename_i h6
     cases h;exact sub _ _ _ (he.child ha) (he.child hf) (hw.bd.child ha) (hw.bd.child hf) (hl.child ha) (hl.child hf)
      (hw.bd.one 1 a (by grind[Exp.children]) _ (by rw[Bk];grind)) (by omega) (by have:=hw.sm;omega)
    .split at h
     .rename_i h7
      cases h;have hag:=Qg (f:=f) he h7;have hBa:B*(AA e f).weight=B+2*(B*f.weight):=(by rw[hag];grind);exact sub _ _ _ (he.child ha) (IJ he h7 hf) (hw.bd.child ha) (XH he h7 hw.bd hf) (hl.child ha) (QJ he h7 hl hf)
       (hw.bd.one 1 a (by grind[Exp.children]) _ (by rw[Bk];grind)) (by omega) (by have:=hw.sm;omega)
     grind
  .rename_i k hk
   have hm:k∈e.children:=AO (by grind);have hhd:e.children.head?=some k:=(by grind[Exp.children]);have hkl:=Exp.child_lt hm;split at h
   .cases h
    exact one k hm
   .split at h
    .cases h
     exact one k hm
    .split at h
     .rename_i h8
      split at h
      .rw [HW k.weight k [] (qg _) (he.child hm).1,qJ] at h
       simp only at h;unfold CK at h;cases hfd:e.arms.find? fun a=>a.1.con==(spine k).1.name with
       |none=>grind
       |some a=>
        rw[hfd]at h;simp only at h;split at h
        .cases h
         have hC:CaseOk B e k a:=⟨he,hl,hw,hk,List.mem_of_find?_eq_some hfd⟩;obtain⟨s1,s2,s3⟩:=hC.sub (argL (Ah e) (spine k).2).length;rw[qbi]at s1 s2 s3;have hch:LZ subP (Ef (Ah e) a.1.vars (spine k).2) a.2=Ax (argL (Ah e) (spine k).2) (Ax (renL (Ah e) a.1.vars) a.2):=by
          rw[ZaL,<-Nx];rfl
         simp only;rw[hch];exact⟨s3,hC.keeps⟩
        grind
      .obtain ⟨q,hq,rfl⟩:=qo.1 h
       exact up k q hm (.inr h8) hhd (GP n k q (by omega) (he.child hm) (hl.child hm) (hw.child hm) hq)
     grind
  grind
theorem Jz (e:Exp):fixE e->e.weight+2<=3*Aj e:=by
 induction e using Exp.ind with
 |h e ih=>
  intro h;have h1:∀l:List Exp,(∀x∈l,x.weight+2<=3*Aj x)->(l.map Exp.weight).sum+2*l.length<=3*(l.map Aj).sum:=by
   intro l
   induction l<;>grind
  have h2:=h1 e.children fun x hx=>ih x hx (h.child hx);have h3:(e.arms.map fun a=>a.1.vars.length).sum<=2*e.arms.length:=by
   have:=HF (l:=e.arms) (f:=fun a=>a.1.vars.length) (g:=fun _=>2) fun a ha=>(h.one.2.2.2.2.2.2 a ha).2;simp only[List.map_const',List.sum_replicate_nat]at this;omega
  have h4:=e.children_len;rw[e.weight_eq,C2];omega
theorem OD (e:Exp):Aj e<=e.weight:=by
 induction e using Exp.ind with
 |h e ih=>
  have:=HF (l:=e.children) (f:=Aj) (g:=Exp.weight) ih;rw[C2,e.weight_eq];omega
theorem Lim.small {e:Exp}(h:e.weight<=6000):Lim 6000 e:=⟨HN e (qr (OD e) h),by omega,by omega⟩
theorem mkE.low {ds:List DataD}(hc:Ii ds){e:Exp}:mkE ds e->lowE e:=by
 induction e using Exp.ind with
 |h e ih=>
  intro h;have hall:∀s∈Ek,nameOk 97 122 s:=by
   intro s hs;simp only[Ek,C3,qz,qD,qas,or_false]at hs;rcases hs with (rfl|rfl|rfl|rfl|rfl|rfl|rfl|rfl)|(rfl|rfl|rfl|rfl|rfl)<;>exact⟨by decide,⟨_,rfl,by decide,by decide⟩,by decide,by decide⟩
  have hcon:∀s,cOk ds s->nameOk 65 90 s:=by
   rintro s (rfl|⟨d,hd,c,hcc,rfl⟩)
   .exact⟨by decide,⟨_,rfl,by decide,by decide⟩,by decide,by decide⟩
   .exact hc d hd c hcc
  obtain⟨_,h2,_,_,_,h6⟩:=h.one;rw[D1];refine⟨⟨?_,?_,?_,fun a ha v hv=>hall v ((h2 a ha).2.2.2.2 v hv)⟩,fun x hx=>ih x hx (h.child hx)⟩
  .unfold lowK
   rcases h6 with ⟨k,n,_⟩|⟨k,n,_⟩|⟨k,n,_⟩|⟨k,n,_⟩|⟨k,n,_⟩|⟨k,n,_⟩|⟨k,n,_⟩|⟨k,n,_⟩<;>grind
  .rcases h6 with ⟨k,n,_⟩|⟨k,n,_⟩|⟨k,n,_⟩|⟨k,n,_⟩|⟨k,n,_⟩|⟨k,n,_⟩|⟨k,n,_⟩|⟨k,n,_⟩<;>grind
  .unfold lowK
   rcases h6 with ⟨k,n,_⟩|⟨k,n,_⟩|⟨k,n,_⟩|⟨k,n,_⟩|⟨k,n,_⟩|⟨k,n,_⟩|⟨k,n,_⟩|⟨k,n,_⟩<;>grind
theorem mkE.fix {ds:List DataD}(hc:Ii ds){e:Exp}:mkE ds e->fixE e:=by
 induction e using Exp.ind with
 |h e ih=>
  intro h;have hcon:∀s,cOk ds s->nameOk 65 90 s:=by
   rintro s (rfl|⟨d,hd,c,hcc,rfl⟩)
   .exact⟨by decide,⟨_,rfl,by decide,by decide⟩,by decide,by decide⟩
   .exact hc d hd c hcc
  obtain⟨_,h2,h3,h4,h5,h6⟩:=h.one;rw[EK];refine⟨⟨?_,?_,⟨h5.1,h5.2.1,by have:=h5.2.2;omega⟩,h3,h4,?_,fun a ha=>⟨hcon _ (h2 a ha).2.1,(h2 a ha).2.2.1⟩⟩,fun x hx=>ih x hx (h.child hx)⟩
  .rcases h6 with ⟨k,_⟩|⟨k,_⟩|⟨k,_⟩|⟨k,_⟩|⟨k,_⟩|⟨k,_⟩|⟨k,_⟩|⟨k,_⟩<;>omega
  .rcases h6 with ⟨k,_⟩|⟨k,_⟩|⟨k,_⟩|⟨k,_⟩|⟨k,_⟩|⟨k,_⟩|⟨k,_⟩|⟨k,_⟩<;>omega
  .rcases h6 with ⟨k,_⟩|⟨k,_⟩|⟨k,_⟩|⟨k,_⟩|⟨k,_⟩|⟨k,_⟩|⟨k,_⟩|⟨k,_,_,ha⟩<;>grind
theorem mkE.shp {ds:List DataD}{e:Exp}:mkE ds e->shp e:=by
 induction e using Exp.ind with
 |h e ih=>
  intro h;obtain⟨h1,h2,h3,h4,h5,h6⟩:=h.one;rw[B1];refine⟨⟨h.one.wf1,fun k=>⟨h5.1 (by omega),h4.1 (by omega)⟩,?_⟩,fun x hx=>ih x hx (h.child hx)⟩;rcases h6 with ⟨k,_,hk,_⟩|⟨k,_,hk,_⟩|⟨k,_,hk,_⟩|⟨k,_,⟨x,hk⟩,_⟩|⟨k,_,⟨x,y,hk⟩,_⟩|⟨k,_,⟨x,y,hk⟩,_⟩|⟨k,_,⟨x,hk⟩,_⟩|⟨k,_,⟨x,hk⟩,_⟩
  .rw[hk,k];rfl
  .rw[hk,k];rfl
  .rw[hk];rcases k with k | k<;>rw[k]<;>rfl
  .rw[hk,k];rfl
  .rw[hk,k];rfl
  .rw[hk];rcases k with k | k<;>rw[k]<;>rfl
  .rw[hk];rcases k with k | k<;>rw[k]<;>rfl
  .rw[hk,k];rfl
theorem mkE.proper {ds:List DataD}{e:Exp}:mkE ds e->properP e:=by
 induction e using Exp.ind with
 |h e ih=>
  intro h;rw[DW];exact⟨fun a ha=>Xq (h.one.2.1 a ha).2.2.2.1,fun x hx=>ih x hx (h.child hx)⟩
theorem mkE.con {ds:List DataD}(hc:Ii ds){e:Exp}:mkE ds e->conV e:=by
 induction e using Exp.ind with
 |h e ih=>
  intro h;rw[DL];refine⟨fun a ha k hk=>?_,fun x hx=>ih x hx (h.child hx)⟩;have hcon:nameOk 65 90 a.1.con:=by
   rcases (h.one.2.1 a ha).2.1 with q|⟨d,hd,c,hcc,q⟩
   .rw [q]
    exact⟨by decide,⟨_,rfl,by decide,by decide⟩,by decide,by decide⟩
   .rw [q]
    exact hc d hd c hcc
  rw[hk]at hcon;obtain⟨_,⟨c,q1,q2,q3⟩,_⟩:=hcon;unfold AG at q1;simp only[qU,qc]at q1;rw[<-q1]at q3;grind
theorem mkE.recZ {ds:List DataD}{e:Exp}:mkE ds e->recZ e:=by
 induction e using Exp.ind with
 |h e ih=>
  intro h;obtain⟨h1,h2,h3,h4,h5,h6⟩:=h.one;rw[Eg];exact⟨fun k=>⟨h5.1 (by omega),h4.1 (by omega)⟩,fun x hx=>ih x hx (h.child hx)⟩
def posE (e:Exp):Prop:=e.fold fun e l=>(e.pos=0/\∀a∈e.arms,a.1.pos=0)/\∀p∈l,p
theorem Ie (e:Exp):posE e=((e.pos=0/\∀a∈e.arms,a.1.pos=0)/\∀x∈e.children,posE x):=by
 have:=Exp.fold_eq (fun e (l:List Prop)=>(e.pos=0/\∀a∈e.arms,a.1.pos=0)/\∀p∈l,p) e;unfold posE;rw[this];simp only[qN]
theorem posE.one {e:Exp}(h:posE e):e.pos=0/\∀a∈e.arms,a.1.pos=0:=by grind[Ie]
theorem posE.child {e x:Exp}(h:posE e)(hx:x∈e.children):posE x:=by grind[Ie]
theorem mkE.pos {ds:List DataD}{e:Exp}:mkE ds e->posE e:=by
 induction e using Exp.ind with
 |h e ih=>
  intro h;rw[Ie];exact⟨⟨h.one.1,fun a ha=>(h.one.2.1 a ha).1⟩,fun x hx=>ih x hx (h.child hx)⟩
theorem Ut (e:Exp):posE (Ai e):=by
 induction e using Exp.ind with
 |h e ih=>
  rw[Ie];refine⟨?_,fun x hx=>?_⟩
  .rw [DT]
   refine⟨rfl,fun a ha=>?_⟩;grind[Fs,F9,qj]
  grind[Gi]
structure StE (e:Exp):Prop where
 ok:okE e
 rz:recZ e
 lf:lfE e
 ps:posE e
theorem StE.step {B:Nat}{e:Exp}(h:StE e)(hw:Lim B e)(hW:(2*B+1)*e.weight<=1000000000){p:Exp×Nat}(hp:AI subP Ah AA e.weight e=some p):StE (Ai p.1):=by
 obtain⟨h1,h2⟩:=ZI _ e p h.ok h.rz hp;exact⟨h1,h2,WW ((GP _ e p (qg _) h.ok h.lf hw hp).2.2 hW),Ut _⟩
variable {A:Ab}
def ZdI (cur:Exp)(acc:List Exp):St:=if acc=[] then ⟨[(1,.sc (.ptr 64 0)),(2,.sc (.ptr 128 0)),(4,.sc .nil)],[(64,some (.box (wc cur.row))),(128,some (.box [zi,zi,zs,zi,.nil,.nil,zi,zs,zi,zi,.nil]))]⟩
 else ⟨[(1,.sc (.ptr 64 0)),(2,.sc (.ptr 128 0)),(4,CA acc)],[(64,some (.box (wc cur.row))),(128,some (.box [zi,zi,zs,zi,.nil,.nil,zi,zs,zi,zi,.nil])),(768,some (.arr 11 (wr (Exp.rows acc)) acc.length))]⟩
variable {A:Ab}
theorem L8 (e:Exp)(hs:shp e):(spine e).2.length<e.weight:=by
 have h1:=J8 e hs;have h3:=(spine e).1.weight_pos;omega
theorem MB (e:Exp)(hs:shp e)(hl:e.weight<=687194767360):(K A).call 41 [expV e] []=some (.tu [expV (spine e).1,CA (spine e).2],[]):=by
 refine fnO v41 ?_;have hsl:=L8 e hs;unfold v41;simp(disch:=try exact zd);refine AW (fun i s=>∃cur acc,shp cur/\acc.length=i/\spine e=((spine cur).1,(spine cur).2++acc.reverse)/\
  s=⟨[(1,.sc (.ptr 64 0)),(2,.sc (.ptr 128 0)),(4,.sc (.arr 257 i))],[(64,some (.box (wc cur.row))),(128,some (.box [zi,zi,zs,zi,.nil,.nil,zi,zs,zi,zi,.nil])),(257,some (.arr 11 (wr (Exp.rows acc)) 0))]⟩) (spine e).2.length ⟨e,[],hs,rfl,by simp,by simp⟩ ?_ ?_
 .rintro i s hi ⟨cur,acc,hc,ha,hs,rfl⟩
  have h5:cur.kind=5:=by
   by_cases h5:cur.kind=5
   .exact h5
   .rw [hs,DN h5] at hi
    simp[ha]at hi
  obtain⟨f,x,hfx,sf,sx,har⟩:=hc.app h5;unfold Nk;simp(disch:=try exact zd) [h5,hfx,ha,qU];refine⟨f,sf,acc++[x],by simp[ha],?_,by simp[ha]⟩;rw[hs,Ez h5 hfx];simp
 .rintro s ⟨cur,acc,hc,ha,hs,rfl⟩
  have h5:¬cur.kind=5:=by
   intro h5;obtain⟨f,x,hfx,sf,sx,har⟩:=hc.app h5;rw[hs,Ez h5 hfx]at ha;simp at ha;omega
  have hr:(spine e).2=acc.reverse:=by rw[hs,DN h5];simp
  have hc1:(spine e).1=cur:=by rw[hs,DN h5]
  have hv:=US (A:=A) acc (by omega);unfold Nk;simp(disch:=try exact zd) [h5,hv,hr,hc1]
theorem Qp (e:Exp)(hs:shp e)(hl:e.weight<=687194767360):(K A).call 55 [expV e] []=some (Aa (decide ((spine e).1.kind=2)),[]):=by
 refine fnO v55 ?_;have h1:=MB (A:=A) e hs hl;unfold v55;by_cases h2:(spine e).1.kind=2
 .simp(disch:=try exact zd) [h1,h2]
 .simp(disch:=try exact zd) [h1,h2]
def valP (e:Exp):Prop:=e.kind=3\/e.kind=4\/(spine e).1.kind=2
instance (e:Exp):Decidable (valP e):=by unfold valP;exact inferInstance
theorem Zck (e:Exp)(hs:shp e)(hl:e.weight<=687194767360):(K A).call 19 [expV e] []=some (Aa (decide (valP e)),[]):=by
 refine fnO v19 ?_;have h1:=Qp (A:=A) e hs hl;unfold v19 valP;by_cases h3:e.kind=3
 .simp(disch:=try exact zd) [h3]
 .by_cases h4:e.kind=4
  .simp(disch:=try exact zd) [h4]
  .simp(disch:=try exact zd) [h3,h4,h1]
theorem OI (e:Exp):e.wf->e.weight<=687194767360->(K A).call 71 [expV e] []=some (intV (Aj e),[]):=by
 induction e using Exp.ind with
 |h e ih=>
 intro hwf hl;refine fnO v71 ?_;have hle:=e.children_le;have hnw:=OD e;have hne:=C2 e;by_cases hkids:e.kids=[]
 .have harms:e.arms=[]:=qP fun h=>by
   have h8:e.kind=8:=qP fun h8=>h (hwf.one.2.1 h8);have:=hwf.one.1 h8;rw[hkids]at this;simp at this
  have hc:=DS (A:=A) e hkids harms;have hch:e.children=[]:=by simp[Exp.children,hkids,harms]
  rw[hch]at hne;simp only[qaf,qbj]at hne;unfold v71;simp(disch:=try exact zd) [hc];refine Aq (fun i=>⟨[(3,intV 1),(7,.sc (.full [])),(8,intV 0),(9,intV i)],[(64,some (.box (wc e.row)))]⟩) 0 ?_ (fun i hi=>by omega) ?_
  .simp
  .unfold JI
   simp(disch:=try exact zd) [hne]
 .have hc:=BQ (A:=A) e hkids (by omega)
  rw[e.children_len]at hc;have hsum:∀i,((e.children.map Aj).take i).sum<=(e.children.map Aj).sum:=fun i=>HM;unfold v71;simp(disch:=try exact zd) [hc]
  refine Aq (fun i=>⟨[(3,intV ((1+((e.children.map Aj).take i).sum:Nat):Int)),(7,.sc (.arr 352 (e.kids.length+e.arms.length))),(8,intV ((e.kids.length:Int)+e.arms.length)),(9,intV i)],[(64,some (.box (wc e.row))),(352,some (.arr 11 (wr (Exp.rows e.children)) 0))]⟩) (e.kids.length+e.arms.length) ?_ ?_ ?_
  .simp
  .intro i hi
   have hi2:(i:Int)<(e.kids.length:Int)+e.arms.length:=(by omega);obtain⟨x,hx⟩:=Ag (l:=e.children) (i:=i) (by rw[e.children_len];exact hi);have hm:=qd hx;have hrec:=ih x hm (hwf.child hm) (by have:=Exp.child_lt hm;omega);have hxm:(e.children.map Aj)[i]?=some (Aj x):=(by rw[qq,hx];rfl);have hs1:((e.children.map Aj).take (i+1)).sum=((e.children.map Aj).take i).sum+Aj x:=(by rw[Bn hxm];simp)
   have hs2:=hsum (i+1);have hib:(i:Int)+1<=687194767360:=(by have:=e.children_len;omega);rw[hs1];generalize ((e.children.map Aj).take i).sum=S at *
   have hadd:IntKind.i64.wrap (((1+S:Nat):Int)+(Aj x:Int))=((1+(S+Aj x):Nat):Int):=(by rw[FY _ (by omega)];omega);unfold JI;simp(maxSteps:=9^7) (disch:=try exact zd) [hi,hi2,hx,hrec,hadd,-getElem?_pos];omega
  .have htk:(e.children.map Aj).take (e.kids.length+e.arms.length)=e.children.map Aj:=qn (by simp [e.children_len])
   rw[htk,<-hne];unfold JI;simp(maxSteps:=9^7) (disch:=try exact zd)
variable {A:Ab}
theorem Zbn (s:Str)(h:nameOk 97 122 s):(K A).call 97 [strV s] []=some (Aa false,[]):=by
 refine fnO v97 ?_;have h1:=HX (A:=A) s h;unfold v97;simp(disch:=try exact zd) [h1]
theorem Za1 (l:List Str)(hl:l.length<=687194767360)(h:∀s∈l,nameOk 97 122 s):(K A).call 147 [A1 l,.sc (.c (.fn 97 [] []))] []=some (intV (-1),[]):=by
 refine fnO v147 ?_;unfold v147;simp(disch:=try exact zd) [-getElem?_pos];refine Aq (fun i=>⟨[(0,A1 l),(1,.sc (.c (.fn 97 [] []))),(7,intV l.length),(8,intV i)],[]⟩) l.length ?_ ?_ ?_
 .simp
 .intro i hi
  obtain⟨x,hx⟩:=Ag hi;have h1:=Zbn (A:=A) x (h x (qd hx));unfold Jg;simp(disch:=try exact zd) [hi,hx,h1,-getElem?_pos]
 .unfold Jg
  simp(disch:=try exact zd) [-getElem?_pos]
theorem Yr (l:List Str)(hl:l.length<=687194767360)(h:∀s∈l,nameOk 97 122 s):(K A).call 96 [A1 l,.sc (.c (.fn 97 [] []))] []=some (Aa false,[]):=by
 refine fnO v96 ?_;have h1:=Za1 (A:=A) l hl h;unfold v96;simp(disch:=try exact zd) [h1]
theorem YO (l:List Exp)(hl:l.length<=687194767360)(h:∀x∈l,(K A).call 47 [expV x] []=some (Aa true,[])):(K A).call 148 [CA l,.sc (.c (.fn 100 [] []))] []=some (intV (-1),[]):=by
 refine fnO v148 ?_;have hn:∀x∈l,(K A).call 100 [expV x] []=some (Aa false,[]):=by
  intro x hx;have h1:=h x hx;refine fnO v100 ?_;unfold v100;simp(disch:=try exact zd) [h1]
 unfold v148;simp(disch:=try exact zd) [-getElem?_pos];refine Aq (fun i=>⟨[(0,CA l),(1,.sc (.c (.fn 100 [] []))),(7,intV l.length),(8,intV i)],[]⟩) l.length ?_ ?_ ?_
 .simp
 .intro i hi
  obtain⟨x,hx⟩:=Ag hi;have h1:=hn x (qd hx);unfold Iv;simp(disch:=try exact zd) [hi,hx,h1,-getElem?_pos]
 .unfold Iv
  simp(disch:=try exact zd) [-getElem?_pos]
theorem Zcm (l:List Exp)(hl:l.length<=687194767360)(h:∀x∈l,(K A).call 47 [expV x] []=some (Aa true,[])):(K A).call 98 [CA l,.sc (.c (.fn 100 [] []))] []=some (Aa false,[]):=by
 refine fnO v98 ?_;have h1:=YO (A:=A) l hl h;unfold v98;simp(disch:=try exact zd) [h1]
theorem XN:(K A).call 95 [.ag [zi,zs,zi,zi,.c (.sl [])],.ag [zi,zs,zi,zi,.c (.sl [])]] []=some (Aa true,[]):=A8 (n:=20) (by kernel_rfl)
end Go.Vs.Tryz
