/- Substitution by the program, walked, 2. -/
import Derived.Test.YtccmnfpbcmccpaaGreatDoorRHs
import Derived.Test.YtccmnfpbcmccpaaGreatDoorRGs
set_option linter.unusedSimpArgs false
set_option linter.unusedVariables false
set_option linter.deprecated false
set_option maxRecDepth 9999
set_option maxHeartbeats 64000000
set_option maxRecDepth 20000
namespace Go.Vs.Tryz
open Go Go.Vs
variable {A:Zab}
theorem Zus (x:Str)(b:Exp)(hb:shp b)(hbl:(Zaf b).length<=16777216)(hbf:∀s∈Zaf b,s.length<=1000)(hxl:x.length<=1000):∀(n:Nat) (e:Exp),e.weight<=n->e.weight<=16777216->shp e->properP e->nmL e->
 (K A).call 202 [.ag (ZcE x b (Zaf b)),expV e] []=some (expV (subN n e x b),[])
 |0,e,h,_,_,_,_=>by have:=e.weight_pos;omega
 |n+1,e,hn,hl,hs,hp,hnm=>by
  refine fnO v202 ?_;rw[Zdn];by_cases hk:e.kind=1
  .rw [if_pos hk]
   have hrb:=Za7 b;unfold v202;by_cases hx:e.name=x
   .rw [if_pos hx]
    simp(maxSteps:=4000000) (disch:=first|exact zd|fail) [hk,hx,hrb,-getElem?_pos]
   .rw [if_neg hx]
    simp(maxSteps:=4000000) (disch:=first|exact zd|fail) [hk,hx,-getElem?_pos]
  rw[if_neg hk];have hP:=Zfz (x:=x) (b:=b) hs hp;have hW:=ZnH hP;have hN:=Zwv (x:=x) (b:=b) hs hp hnm (by omega);have hrec:∀y∈(Zcn x (Zaf b) e).children,(K A).call 202 [.ag (ZcE x b (Zaf b)),expV y] []=some (expV (subN n y x b),[]):=by
   intro y hy;obtain⟨i,hi⟩:=qk.1 hy;obtain⟨x0,h0⟩:=Zaa (l:=e.children) (i:=i) (by rw[<-Zcr hP];exact(qd.1 hi).1);have hK:=hP.kids i x0 y h0 hi;have h1:=Exp.child_lt (qa h0);have h2:=hK.weight;exact Zus x b hb hbl hbf hxl n y (by omega) (by omega) hK.shape hK.proper (hN y hy)
  have hs1:=hP.head.shp1 hk hs.one;have hkk:=hP.head.1;have hkl:=hP.head.2.2.2.1;by_cases h4:e.kind=4\/e.kind=6\/e.kind=7
  .have hbd:=ZuY (A:=A) x b (Zaf b) e hs h4 (by omega) (by omega) hnm hbf hxl
   have hpe:Zcn x (Zaf b) e=Zcq x (Zaf b) e:=(by unfold Zcn;rw[if_pos h4]);rw[hpe]at hP hW hN hrec hs1 hkk hkl |-;have hne:(Zcq x (Zaf b) e).kids≠[]:=by
    intro h;have h5:=hs.one.2.2;rw[h]at hkl;unfold Zhv at h5;simp only[qT]at hkl;split at h5
    .omega
    .rw[if_pos (by omega)]at h5;omega
   generalize Zcq x (Zaf b) e=e' at *
   have hc:=ZaP (A:=A) e' hne (by omega);rw[e'.children_len]at hc;have hCl:=subC_len n e' x b;have hw:=ZfK (A:=A) e' (subC n e' x b) hCl (by omega);have hrow':=Za7 e'
   have hrowW:wc (Za6 e' (subC n e' x b)).row=[.c (.int .i64 e'.kind),.c (.int .i64 e'.pos),.c (.str e'.name),.c (.int .i64 e'.num),.c (.sl (Exp.rows ((subC n e' x b).take e'.kids.length))),.c (.sl (Exp.armRows (ZaX e'.arms ((subC n e' x b).drop e'.kids.length)))),.c (.int .i64 e'.ty.kind),.c (.str e'.ty.name),.c (.int .i64 e'.ty.id),.c (.int .i64 e'.ty.home),.c (.sl (Ty.rows e'.ty.args))]:=(by rw[Exp.row_eq];rfl)
   have hkW:((subC n e' x b).take e'.kids.length).length=e'.kids.length:=(by rw[qK,hCl];omega);have haW:(ZaX e'.arms ((subC n e' x b).drop e'.kids.length)).length=e'.arms.length:=(by rw[armsW_len,qV,hCl];omega);simp only[expV,hrow']at hc hw;unfold v202;rcases h4 with h4|h4|h4
   .rw [h4] at hkk
    simp only[expV,hrow']at hbd;simp(maxSteps:=4000000) (disch:=first|exact zd|fail) [hk,h4,hbd,hc,-getElem?_pos];refine ZaU (ZkP (A:=A) x b (Zaf b) n e' hs1.1 (by omega) hrec) ?_;rintro _ _ ⟨rfl,rfl⟩;simp(maxSteps:=4000000) (disch:=first|exact zd|fail) [hw,hrowW,hCl,hkW,haW,-getElem?_pos]
   .rw [h4] at hkk
    simp only[expV,hrow']at hbd;simp(maxSteps:=4000000) (disch:=first|exact zd|fail) [hk,h4,hbd,hc,-getElem?_pos];refine ZaU (ZkP (A:=A) x b (Zaf b) n e' hs1.1 (by omega) hrec) ?_;rintro _ _ ⟨rfl,rfl⟩;simp(maxSteps:=4000000) (disch:=first|exact zd|fail) [hw,hrowW,hCl,hkW,haW,-getElem?_pos]
   .rw [h4] at hkk
    simp only[expV,hrow']at hbd;simp(maxSteps:=4000000) (disch:=first|exact zd|fail) [hk,h4,hbd,hc,-getElem?_pos];refine ZaU (ZkP (A:=A) x b (Zaf b) n e' hs1.1 (by omega) hrec) ?_;rintro _ _ ⟨rfl,rfl⟩;simp(maxSteps:=4000000) (disch:=first|exact zd|fail) [hw,hrowW,hCl,hkW,haW,-getElem?_pos]
  .have hpe4:∀ y z:Exp,(if e.kind=4\/e.kind=6\/e.kind=7 then y else z)=z:=fun y z=>if_neg h4
   have k4:¬e.kind=4:=fun h=>h4 (.inl h);have k6:¬e.kind=6:=fun h=>h4 (.inr (.inl h));have k7:¬e.kind=7:=fun h=>h4 (.inr (.inr h));by_cases h8:e.kind=8
   .have hk1:=hs.one.1.1 h8
    have hpe:Zcn x (Zaf b) e=.mk e.kind e.pos e.name e.num e.kids (e.arms.map (armP x (Zaf b))) e.ty:=(by unfold Zcn;rw[if_neg h4,if_pos h8]);rw[hpe]at hP hW hN hrec hs1 hkk hkl |-;have hne:e.kids≠[]:=fun h=>by rw[h]at hk1;simp at hk1
    have hml:=e.children_le;rw[e.children_len]at hml;have harm:∀p∈e.arms,(K A).call 224 [.ag (ZcE x b (Zaf b)),armV p] []=some (armV (armP x (Zaf b) p),[]):=by
     intro p hm;have h1:=Exp.vars_le hm;have h2:=Exp.child_lt (Zbt hm);obtain⟨j,hj⟩:=qk.1 hm;refine arm145 x b (Zaf b) p (hp.one p hm) (hs.child (Zbt hm)) (hp.child (Zbt hm)) (by omega) (hnm.child (ZcX hj)) (fun s hs'=>?_) hbf hxl;refine hnm s (ZaH.2 (.inr ⟨e.kids.length+j,p.2,ZcX hj,.inl ?_⟩));rw[ZaM,if_neg (by omega),if_pos ⟨h8,by omega⟩,hk1,show 1+j-1=j by omega,hj];exact hs'
    have hcl:=Zv6 (A:=A) e.arms (by omega);have hag:∀(i:Nat) p,e.arms[i]?=some p->(e.arms.map (armP x (Zaf b)))[i]?=some (armP x (Zaf b) p):=fun i p h=>by rw[qi,h];rfl
    have ham:(e.arms.map (armP x (Zaf b))).length=e.arms.length:=(by simp);generalize e.arms.map (armP x (Zaf b))=am at *
    obtain⟨e',he'⟩:∃e',e'=Exp.mk e.kind e.pos e.name e.num e.kids am e.ty:=⟨_,rfl⟩;have q1:e'.kids=e.kids:=(by rw[he'];rfl);have q2:e'.arms=am:=(by rw[he'];rfl);have q3:e'.kind=e.kind:=(by rw[he'];rfl);have q4:e'.pos=e.pos:=(by rw[he'];rfl);have q5:e'.name=e.name:=(by rw[he'];rfl);have q6:e'.num=e.num:=(by rw[he'];rfl);have q7:e'.ty=e.ty:=(by rw[he'];rfl);rw[<-he']at hP hW hN hrec hs1 hkk hkl |-
    have hc:=ZaP (A:=A) e' (by rw[q1];exact hne) (by omega);rw[e'.children_len]at hc;have hCl:=subC_len n e' x b;have hw:=ZfK (A:=A) e' (subC n e' x b) hCl (by omega);have hrow':=Za7 e';have hrow0:=Za7 e
    have hrowW:wc (Za6 e' (subC n e' x b)).row=[.c (.int .i64 e'.kind),.c (.int .i64 e'.pos),.c (.str e'.name),.c (.int .i64 e'.num),.c (.sl (Exp.rows ((subC n e' x b).take e'.kids.length))),.c (.sl (Exp.armRows (ZaX e'.arms ((subC n e' x b).drop e'.kids.length)))),.c (.int .i64 e'.ty.kind),.c (.str e'.ty.name),.c (.int .i64 e'.ty.id),.c (.int .i64 e'.ty.home),.c (.sl (Ty.rows e'.ty.args))]:=(by rw[Exp.row_eq];rfl)
    have hkW:((subC n e' x b).take e'.kids.length).length=e'.kids.length:=(by rw[qK,hCl];omega);have haW:(ZaX e'.arms ((subC n e' x b).drop e'.kids.length)).length=e'.arms.length:=(by rw[armsW_len,qV,hCl];omega);have hloop:=ZAn (A:=A) x b (Zaf b) n e' hs1.1 (by omega) hrec;simp only[expV,hrow']at hc hw;simp only[q1,q2,q3,q4,q5,q6,q7,ham]at hc hw hrowW hkW haW hloop hCl;unfold v202
    simp(maxSteps:=4000000) (disch:=first|exact zd|fail) [hk,k4,k6,k7,h8,hrow0,hcl,-getElem?_pos];refine Zak (fun i=>⟨[(2,.sc (.ptr 64 0)),(3,.sc (.ptr 128 0)),(4,.sc (.ptr 192 0)),(36,.sc (.arr 2080 e.arms.length)),(37,intV e.arms.length),(38,intV i)],
     [(64,some (.box (ZcE x b (Zaf b)))),(128,some (.box [.c (.int .i64 8),.c (.int .i64 e.pos),.c (.str e.name),.c (.int .i64 e.num),.c (.sl (Exp.rows e.kids)),.arr 2080 e.arms.length,.c (.int .i64 e.ty.kind),.c (.str e.ty.name),.c (.int .i64 e.ty.id),.c (.int .i64 e.ty.home),.c (.sl (Ty.rows e.ty.args))])),(192,some Zd7),
       (2080,some (.arr 14 (wr (Exp.armRows (am.take i++e.arms.drop i))) 0))]⟩) e.arms.length ?_ ?_ ?_
    .simp
    .intro i hi
     obtain⟨p,hp'⟩:=Zaa hi;have hca:=harm p (qa hp');have hg:=ZbL (i:=i) ham hi;rw[hp']at hg;have hst:=Zbz ham (hag i p hp');have hln:=ZbN (i:=i) ham;have hset:=fun z=>Zb1 (am.take i++e.arms.drop i) i z;rw[<-hst];generalize am.take i++e.arms.drop i=zr at *
     have hsp:∀p q:ArmH×Exp,splice (wc (Zaw p)) 0 (wc (Zaw q))=some (wc (Zaw q)):=fun p q=>by rw[Zaw,Zaw,Exp.row_eq p.2,Exp.row_eq q.2];rfl
     have hi2:(i:Int)<e.arms.length:=(by omega);unfold Zpm;simp(maxSteps:=4000000) (disch:=first|exact zd|fail) [hi,hi2,hg,hln,hca,hsp,hset,Zbg,-getElem?_pos]
    .have htk:am.take e.arms.length++e.arms.drop e.arms.length=am:=by
      rw[qao,qF,qf (by omega)]
     rw[htk];rw[h8]at hc hw hrowW hloop;unfold Zpm;simp(maxSteps:=4000000) (disch:=first|exact zd|fail) [hc,ham,q1,q2,-getElem?_pos];refine ZaU hloop ?_;rintro _ _ ⟨rfl,rfl⟩;simp(maxSteps:=4000000) (disch:=first|exact zd|fail) [hw,hrowW,hCl,hkW,haW,ham,q1,q2,-getElem?_pos]
   .have hpe:Zcn x (Zaf b) e=e:=by unfold Zcn;rw [if_neg h4,if_neg h8]
    rw[hpe]at hP hW hN hrec hs1 hkk hkl |-;by_cases hkids:e.kids=[]
    .have harms:e.arms=[]:=hs.one.1.2.1 h8
     have hc:=ZaT (A:=A) e hkids harms;have hC0:subC n e x b=[]:=qL.1 (by rw[subC_len,hkids,harms];rfl);have hw:=ZfK (A:=A) e [] (by rw[hkids,harms];rfl) (by omega);rw[hC0];have hr1:Exp.rows []=[]:=(by rw[Exp.rows]);have hr2:Exp.armRows []=[]:=(by rw[Exp.armRows]);have hz:ZaX [] []=[]:=rfl
     have hrow:wc (Za6 e []).row=[.c (.int .i64 e.kind),.c (.int .i64 e.pos),.c (.str e.name),.c (.int .i64 e.num),.c (.sl []),.c (.sl []),.c (.int .i64 e.ty.kind),.c (.str e.ty.name),.c (.int .i64 e.ty.id),.c (.int .i64 e.ty.home),.c (.sl (Ty.rows e.ty.args))]:=by
      rw[Exp.row_eq];simp[Za6,harms,ZaX,hr1,hr2,Exp.kind,Exp.pos,Exp.name,Exp.num,Exp.kids,Exp.arms,Exp.ty,wc]
     simp only[exsV,hr1,hkids,harms,qT,List.take_nil,List.drop_nil,hz,hr2]at hw;unfold v202;simp(maxSteps:=4000000) (disch:=first|exact zd|fail) [hk,k4,k6,k7,h8,hc,-getElem?_pos]
     refine Zak (fun i=>⟨[(2,.sc (.ptr 64 0)),(3,.sc (.ptr 128 0)),(4,.sc (.ptr 192 0)),(7,.sc (.full [])),(53,.sc (.full [])),(54,intV 0),(55,intV i)],[(64,some (.box (ZcE x b (Zaf b)))),(128,some (.box (wc e.row))),(192,some Zd7)]⟩) 0 ?_ (fun i hi=>by omega) ?_
     .simp
     .unfold Zhl
      simp(maxSteps:=4000000) (disch:=first|exact zd|fail) [hw,hrow,-getElem?_pos]
    .have hne:e.kids≠[]:=hkids
     obtain⟨e',he'⟩:∃e',e'=e:=⟨e,rfl⟩;have hrow0:=Za7 e;have hc:=ZaP (A:=A) e hne (by omega);rw[e.children_len]at hc;have hCl:=subC_len n e x b;have hw:=ZfK (A:=A) e (subC n e x b) hCl (by omega);have hrow':=Za7 e
     have hrowW:wc (Za6 e (subC n e x b)).row=[.c (.int .i64 e.kind),.c (.int .i64 e.pos),.c (.str e.name),.c (.int .i64 e.num),.c (.sl (Exp.rows ((subC n e x b).take e.kids.length))),.c (.sl (Exp.armRows (ZaX e.arms ((subC n e x b).drop e.kids.length)))),.c (.int .i64 e.ty.kind),.c (.str e.ty.name),.c (.int .i64 e.ty.id),.c (.int .i64 e.ty.home),.c (.sl (Ty.rows e.ty.args))]:=(by rw[Exp.row_eq];rfl)
     have hkW:((subC n e x b).take e.kids.length).length=e.kids.length:=(by rw[qK,hCl];omega);have haW:(ZaX e.arms ((subC n e x b).drop e.kids.length)).length=e.arms.length:=(by rw[armsW_len,qV,hCl];omega);simp only[expV,hrow']at hc hw;unfold v202;simp(maxSteps:=4000000) (disch:=first|exact zd|fail) [hk,k4,k6,k7,h8,hrow0,hc,-getElem?_pos];refine ZaU (ZkP (A:=A) x b (Zaf b) n e hs1.1 (by omega) hrec) ?_
     rintro _ _ ⟨rfl,rfl⟩;simp(maxSteps:=4000000) (disch:=first|exact zd|fail) [hw,hrowW,hCl,hkW,haW,-getElem?_pos]
variable {A:Zab}
theorem ZzV (l m:List Str)(h:l.length<=4294967296):(K A).call 53 [Za3 l,Za3 m] []=some (Zae (decide (l=m)),[]):=by
 refine Zaj (vf:=v53) (by kernel_rfl) rfl (by decide) ?_;unfold v53;by_cases hl:l.length=m.length
 .have hp:=Zl4 l m
  simp(disch:=first|exact zd|fail) [hl];refine Zak (fun i=>⟨[(0,Za3 l),(1,Za3 m),(5,intV i)],[]⟩) (Zcu l m) ?_ ?_ ?_
  .simp
  .intro i hi
   obtain⟨x,hx,hy⟩:=Zln hi;have hlt:i<m.length:=(by omega);unfold Zz3;simp(disch:=first|exact zd|fail) [hx,hy,hlt,hl,-getElem?_pos]
  .unfold Zz3
   by_cases hm:Zcu l m<l.length
   .obtain ⟨x,y,hx,hy,hxy⟩:=Zl6 hl hm
    have hne:l≠m:=fun h=>by rw[<-ZiK hl]at h;omega
    have hm':Zcu l m<m.length:=(by omega);simp(disch:=first|exact zd|fail) [hx,hy,hm',hl,hxy,hne,-getElem?_pos]
   .have he:l=m:=(ZiK hl).1 (by omega)
    subst he;simp(disch:=first|exact zd|fail) [hm,-getElem?_pos]
 .have hne:l≠m:=fun h=>hl (by rw [h])
  have hl':¬(l.length:Int)=m.length:=by omega
  simp(disch:=first|exact zd|fail) [hl',hne,hl]
theorem ZqV (l m:List Exp)(hl:l.length<=1073741824)(ih:∀x∈l,∀y∈m,∃r,IffB (sameP x y) r/\(K A).call 18 [expV x,expV y] []=some r):
 ∃r,IffB (allR sameP l m) r/\(K A).call 54 [exsV l,exsV m] []=some r:=by
 refine fnE v54 ?_;unfold v54;by_cases hn:l.length=m.length
 .simp (disch:=first|exact zd|fail) [hn]
  refine Zad (fun i s=>(∀(j:Nat) x y,j<i->l[j]?=some x->m[j]?=some y->sameP x y)/\s=⟨[(0,exsV l),(1,exsV m),(5,intV i)],[]⟩) l.length ⟨by omega,by simp⟩ ?_ ?_
  .rintro i s hi ⟨hs,rfl⟩
   obtain⟨x,hx⟩:=Zaa hi;obtain⟨y,hy⟩:=Zaa (l:=m) (i:=i) (by omega);obtain⟨_,⟨b,hb,rfl⟩,hc⟩:=ih x (qa hx) y (qa hy);unfold ZAJ;cases b with
   |true=>
    have hxy:=hb.1 rfl;simp(disch:=first|exact zd|fail) [hi,hx,hy,hc,-getElem?_pos];intro j x' y' hj hx' hy';by_cases hji:j=i
    .subst hji
     rw[hx]at hx';rw[hy]at hy';cases hx';cases hy';exact hxy
    .exact hs j x' y' (by omega) hx' hy'
   |false=>
    simp(disch:=first|exact zd|fail) [hi,hx,hy,hc,-getElem?_pos];exact IffB.no fun h=>by have:=hb.2 (h.2 i x y hx hy);cases this
  .rintro s ⟨hs,rfl⟩
   unfold ZAJ;simp(disch:=first|exact zd|fail);exact IffB.yes ⟨hn,fun i x y hx hy=>hs i x y (qd.1 hx).1 hx hy⟩
 .have hn':¬(l.length:Int)=m.length:=by omega
  simp(disch:=first|exact zd|fail) [hn,hn'];exact IffB.no fun h=>hn h.1
theorem ZrQ (a:Exp):∀b,tyBd a->a.weight<=1073741824->b.weight<=1073741824->∃r,IffB (sameP a b) r/\(K A).call 18 [expV a,expV b] []=some r:=by
 induction a using Exp.ind with
 |h a ih=>
 intro b ht hw hwb;have hal:=a.children_le;have hbl:=b.children_le;have hchA:=a.children_len;have hchB:=b.children_len;refine fnE v18 ?_;obtain⟨_,⟨t,h3,rfl⟩,hc3⟩:=teq85 (A:=A) 1073741824 a.ty b.ty ht.one (by omega);have hca:=ZbS (A:=A) a (by omega);have hcb:=ZbS (A:=A) b (by omega)
 obtain⟨_,⟨vk,hK,rfl⟩,hck⟩:=ZqV (A:=A) a.children b.children (by omega) fun x hx y hy=>ih x hx y (ht.child hx) (by have:=Exp.child_lt hx;omega) (by have:=Exp.child_lt hy;omega);unfold v18;by_cases q1:a.kind=b.kind
 case neg=>
  simp(disch:=first|exact zd|fail) [q1];exact IffB.no fun h=>by rw[Zcd]at h;exact q1 h.1
 by_cases q2:a.name=b.name
 case neg=>
  simp(disch:=first|exact zd|fail) [q1,q2];exact IffB.no fun h=>by rw[Zcd]at h;exact q2 h.2.1
 by_cases q3:a.num=b.num
 case neg=>
  simp(disch:=first|exact zd|fail) [q1,q2,q3];exact IffB.no fun h=>by rw[Zcd]at h;exact q3 h.2.2.1
 cases t with
 |false=>
  simp(disch:=first|exact zd|fail) [q1,q2,q3,hc3];exact IffB.no fun h=>by rw[Zcd]at h;have:=h3.2 h.2.2.2.1;cases this
 |true=>
 have q4:=h3.1 rfl;by_cases q5:a.kids.length=b.kids.length
 case neg=>
  have q5':¬(a.kids.length:Int)=b.kids.length:=by omega
  simp(disch:=first|exact zd|fail) [q1,q2,q3,hc3,q5,q5'];exact IffB.no fun h=>by rw[Zcd]at h;exact q5 h.2.2.2.2.1
 by_cases q6:a.arms.length=b.arms.length
 case neg=>
  have q6':¬(a.arms.length:Int)=b.arms.length:=by omega
  simp(disch:=first|exact zd|fail) [q1,q2,q3,hc3,q5,q6,q6'];exact IffB.no fun h=>by rw[Zcd]at h;exact q6 h.2.2.2.2.2.1
 have hrest:(∀(i:Nat) p q,a.arms[i]?=some p->b.arms[i]?=some q->p.1.con=q.1.con/\p.1.vars=q.1.vars)->IffB (sameP a b) (Zae vk,[]):=by
  intro harms;refine⟨vk,hK.trans ?_,rfl⟩;rw[Zcd];exact⟨fun h=>⟨q1,q2,q3,q4,q5,q6,harms,h.2⟩,fun h=>⟨by omega,h.2.2.2.2.2.2.2⟩⟩
 have hbad:∀(i:Nat) p q,a.arms[i]?=some p->b.arms[i]?=some q->¬(p.1.con=q.1.con/\p.1.vars=q.1.vars)->IffB (sameP a b) (Zae false,[]):=by
  intro i p q hp hq h;exact IffB.no fun h'=>by rw[Zcd]at h';exact h (h'.2.2.2.2.2.2.1 i p q hp hq)
 generalize sameP a b=P at hrest hbad |-;clear ih hK ht;simp(disch:=first|exact zd|fail) [q1,q2,q3,hc3,q5,q6];refine Zad (fun i s=>(∀(j:Nat) p q,j<i->a.arms[j]?=some p->b.arms[j]?=some q->p.1.con=q.1.con/\p.1.vars=q.1.vars)/\s=⟨[(2,.sc (.ptr 64 0)),(3,.sc (.ptr 128 0)),(5,intV i)],[(64,some (.box (wc a.row))),(128,some (.box (wc b.row)))]⟩) a.arms.length ⟨by omega,by simp⟩ ?_ ?_
 .rintro i s hi ⟨hs,rfl⟩
  obtain⟨p,hp⟩:=Zaa hi;obtain⟨q,hq⟩:=Zaa (l:=b.arms) (i:=i) (by omega);have hv:=Exp.vars_le (qa hp);have hc:=ZzV (A:=A) p.1.vars q.1.vars (by omega);have hib:i<b.arms.length:=by omega
  have bad:=hbad i p q hp hq;have hiI:(i:Int)<b.arms.length:=by omega
  unfold ZBr;by_cases c1:p.1.con=q.1.con
  .by_cases c2:p.1.vars=q.1.vars
   .rw [c2] at hc
    simp(maxSteps:=4000000) (disch:=first|exact zd|fail) [hi,hib,hiI,hp,hq,hc,c1,c2,q6,-getElem?_pos];intro j x1 x2 y1 y2 hj hx' hy';by_cases hji:j=i
    .subst hji
     rw[hp]at hx';rw[hq]at hy';cases hx';cases hy';exact⟨c1,c2⟩
    .exact hs j _ _ (by omega) hx' hy'
   .simp (maxSteps:=4000000) (disch:=first|exact zd|fail) [hi,hib,hiI,hp,hq,hc,c1,c2,q6,-getElem?_pos]
    exact bad fun h=>c2 h.2
  .simp (maxSteps:=4000000) (disch:=first|exact zd|fail) [hi,hib,hiI,hp,hq,hc,c1,q6,-getElem?_pos]
   exact bad fun h=>c1 h.1
 .rintro s ⟨hs,rfl⟩
  have yes:=hrest fun i p q hp hq=>hs i p q (qd.1 hp).1 hp hq;unfold ZBr;simp(maxSteps:=4000000) (disch:=first|exact zd|fail) [hca,hcb,hck,q6,-getElem?_pos];exact yes
variable {A:Zab}
theorem Ze4:∀s∈Zbl,s.length<=2:=by decide
theorem rawE.free {ds:List DataD}{e:Exp}:rawE ds e->∀s∈Zaf e,s∈Zbl:=by
 induction e using Exp.ind with
 |h e ih=>
  intro h s hs;by_cases hk:e.kind=1
  .rw [ZaZ hk] at hs
   subst hs;obtain⟨_,_,_,_,_,h⟩:=h.one;rcases h with ⟨_,n,_⟩|⟨k,_⟩|⟨k,_⟩|⟨k,_⟩|⟨k,_⟩|⟨k,_⟩|⟨k,_⟩|⟨k,_⟩
   .exact n
   all_goals (exfalso;omega)
  .obtain ⟨i,x,hx,h1,_⟩:=(Zbs hk).1 hs
   exact ih x (qa hx) (h.child (qa hx)) s h1
def tkOk (n:Nat)(l:List Str):Prop:=l.length=n/\∀s∈l,s.length<=2
variable {A:Zab}
theorem Zsg (e:Exp)(x:Str)(b:Exp)(hb:shp b)(hbw:b.weight<=16777216)(hbn:nmL b)(hxl:x.length<=1000)(hl:e.weight<=16777216)(hs:shp e)(hp:properP e)(hn:nmL e):
 (K A).call 155 [expV e,strV x,expV b] []=some (expV (subP e x b),[]):=by
 refine fnO v155 ?_;have hfl:=Zb8 b;have h1:=Zus (A:=A) x b hb (by omega) (fun s hs=>hbn s (Ziw b s hs)) hxl e.weight e (qe _) hl hs hp hn;have h2:=ZyW (A:=A) b hb.wf (by omega);have hrb:=Za7 b;simp only[expV,hrb]at h2;unfold v155 subP;simp_all
def ImpB (P:Prop)(r:V×List Obj):Prop:=∃v:Bool,(v=true->P)/\r=(Zae v,[])
theorem rawE.nmL {ds:List DataD}(hc:Zdz ds){e:Exp}:rawE ds e->nmL e:=by
 have hcok:∀s,cOk ds s->s.length<=1000:=by
  rintro s (rfl|⟨d,hd,c,hcc,rfl⟩);simp
  .have:=(hc d hd c hcc).1
   omega
 induction e using Exp.ind with
 |h e ih=>
  intro h s hs;rcases ZaH.1 hs with h1|⟨i,x,hx,h1⟩
  .obtain ⟨_,_,_,_,_,hS⟩:=h.one
   rcases hS with ⟨_,n,_⟩|⟨_,n,_⟩|⟨_,n,_⟩|⟨_,n,_⟩|⟨_,n,_⟩|⟨_,n,_⟩|⟨_,n,_⟩|⟨_,n,_⟩<;>grind[Ze4]
  .rcases h1 with h1|h1
   .rw [ZaM] at h1
    split at h1
    .rename_i hk
     obtain⟨_,_,_,_,_,hS⟩:=h.one;rw[qj]at h1;have:e.name∈Zbl:=by
      rcases hS with ⟨k,n,_⟩|⟨k,n,_⟩|⟨k,n,_⟩|⟨k,n,_⟩|⟨k,n,_⟩|⟨k,n,_⟩|⟨k,n,_⟩|⟨k,n,_⟩<;>grind
     grind[Ze4]
    .split at h1
     .cases ha:e.arms[i-1]? with
      |none=>grind
      |some a=>
       rw[ha]at h1;have:=Ze4 _ ((h.one.2.1 a (qa ha)).2.2.2 s h1);omega
     grind
   .exact ih x (qa hx) (h.child (qa hx)) s h1
variable {A:Zab}
theorem instR.tyBd (a:Exp):∀(c:Exp) (V:Rep),instR a c V->tyBd a->(∀s d,V s d->tyBd d)->tyBd c:=by
 induction a using Exp.ind with
 |h a ih=>
  intro c V h ht hv;by_cases hk:a.kind=1
  .exact hv _ _ (h.var hk)
  .obtain ⟨h1,h2,h3,h4⟩:=h.node hk
   rw[Zel];refine⟨h1.2.2.1▸ht.one,fun y hy=>?_⟩;obtain⟨i,hi⟩:=qk.1 hy;obtain⟨x,hx⟩:=Zaa (l:=a.children) (i:=i) (by rw[h1.children];grind);refine ih x (qa hx) y _ (h4 i x y hx hi) (ht.child (qa hx)) fun s d hd=>?_;rcases hd with ⟨_,t,_,_,hvv⟩|⟨_,q,_⟩
   .obtain ⟨_,_,_,ty,ks,am⟩:=hvv
    rw[Zel,ty];refine⟨by decide,fun z hz=>?_⟩;grind[Exp.children]
   grind
def names5:List Str:=[[120],[121],[122],[102],[118,49]]
theorem ZqB {M:Nat}(hM:1<=M){l:List (Str×Exp)}{e:Exp}(he:okE e)(hl:∀p∈l,okE p.2/\p.2.weight<=M/\∀q∈l,q.1∉Zaf p.2)(k:Nat):(ZaV (l.take k) e).weight<=e.weight*M:=
 ZmD hM he fun p hp=>by
  obtain⟨h1,h2,h3⟩:=hl p (qak hp);exact⟨h1,h2,fun q hq=>h3 q (qak hq)⟩
end Go.Vs.Tryz
namespace Go.Vs
open Go
def tyO:Option Ty->List W
 |none=>[zi,zs,zi,zi,.nil]
 |some t=>wc t.row
def tyOs (l:List (Option Ty)):List (List W):=l.map tyO
def boOs (l:List Bool):List (List W):=l.map fun b=>[.c (.bool b)]
@[simp] theorem tyOs_len (l:List (Option Ty)):(tyOs l).length=l.length:=by simp[tyOs]
@[simp] theorem boOs_len (l:List Bool):(boOs l).length=l.length:=by simp[boOs]
@[simp] theorem tyOs_get (l:List (Option Ty)) (i:Nat):(tyOs l)[i]?=(l[i]?).map tyO:=by simp[tyOs]
@[simp] theorem boOs_get (l:List Bool) (i:Nat):(boOs l)[i]?=(l[i]?).map fun b=>[W.c (.bool b)]:=by simp[boOs]
theorem Zz9 (o:Option Ty):(tyO o).length=5:=by cases o<;>simp[tyO,wc]
theorem ZpA (n:Nat):List.replicate n [zi,zs,zi,zi,W.nil]=tyOs (List.replicate n none):=by simp[tyOs,tyO]
theorem ZkJ (n:Nat):List.replicate n [W.c (.bool false)]=boOs (List.replicate n false):=by simp[boOs]
theorem Zx4 (l:List (Option Ty))(i:Nat)(t:Ty):(tyOs l).set i (wc t.row)=tyOs (l.set i (some t)):=by simp[tyOs,tyO,qa0]
theorem ZxS (l:List Bool)(i:Nat)(b:Bool):(boOs l).set i [W.c (.bool b)]=boOs (l.set i b):=by simp[boOs,qa0]
theorem Zf2 {α:Type}:∀(l:List α) (i:Nat) (a:α),setRow l i a=l.set i a
 |[],_,_=>by simp[setRow]
 |_::_,0,_=>by simp[setRow]
 |_::r,n+1,a=>by simp[setRow,Zf2 r n a]
theorem Znp (l:List (Option Ty))(i:Nat)(t:Ty):setRow (tyOs l) i (wc t.row)=tyOs (l.set i (some t)):=by rw[Zf2,Zx4]
theorem Zm3 (l:List Bool)(i:Nat)(b:Bool):setRow (boOs l) i [W.c (.bool b)]=boOs (l.set i b):=by rw[Zf2,ZxS]
theorem Zyb (L:Nat->Option Obj)(d:Nat)(l:List (Option Ty)):Zag (Zag (W.toC L d)) (tyOs l)=some (l.map fun o=>(o.getD (.mk 0 [] 0 0 [])).row):=by
 unfold tyOs
 induction l with
 |nil=>rfl
 |cons a r ih=>
  have h1:Zag (W.toC L d) (tyO a)=some (a.getD (.mk 0 [] 0 0 [])).row:=by
   cases a with
   |none=>simp[tyO,Ty.row,Zag,Ty.rows]
   |some t=>simp[tyO]
  simp only[qq,Zag,h1,ih]
theorem ZAy (L:Nat->Option Obj)(d:Nat)(o:Option Ty){y:W}(hy:y∈tyO o):W.ids L d y=[]:=by
 cases o with
 |none=>
  simp only[tyO,qz,qU,or_false]at hy;rcases hy with rfl|rfl|rfl|rfl|rfl<;>cases d<;>rfl
 |some t=>
  have h:=wc_ids L d t.row;rw[qaj]at h;exact h y hy
@[simp] theorem tyOs_allIds (L:Nat->Option Obj) (d:Nat) (l:List (Option Ty)) (p:Nat->Bool):((tyOs l).all fun a=>a.all fun b=>(W.ids L d b).all p)=true:=by
 simp only[qy,tyOs,qH];rintro _ ⟨o,_,rfl⟩ y hy;rw[ZAy L d o hy];simp
@[simp] theorem tyOs_refs (d:Nat) (l:List (Option Ty)):(tyOs l).flatMap (fun x=>x.flatMap (W.refs d))=[]:=by
 simp only[qaj,tyOs,qH];rintro _ ⟨o,_,rfl⟩ y hy;cases o with
 |none=>
  simp only[tyO,qz,qU,or_false]at hy;rcases hy with rfl|rfl|rfl|rfl|rfl<;>cases d<;>rfl
 |some t=>
  have h:=wc_refs d t.row;rw[qaj]at h;exact h y hy
@[simp] theorem boOs_refs (d:Nat) (l:List Bool):(boOs l).flatMap (fun x=>x.flatMap (W.refs d))=[]:=by
 simp only[qaj,boOs,qH];rintro _ ⟨o,_,rfl⟩ y hy;simp only[qz,qU,or_false]at hy;subst hy;cases d<;>rfl
@[simp] theorem tyOs_ren (ρ:Nat->Option Nat) (d:Nat) (l:List (Option Ty)):(tyOs l).map (fun x=>x.map (W.ren ρ d))=tyOs l:=by
 unfold tyOs;rw[qam];refine qJ fun o _=>?_;cases o with
 |none=>cases d<;>rfl
 |some t=>simp[tyO]
@[simp] theorem boOs_ren (ρ:Nat->Option Nat) (d:Nat) (l:List Bool):(boOs l).map (fun x=>x.map (W.ren ρ d))=boOs l:=by
 unfold boOs;rw[qam];refine qJ fun o _=>?_;cases d<;>rfl
end Go.Vs
namespace Go.Vs.Tryz
open Go Go.Vs
variable {A:Zab}
def InsI (n:Nat)(l:List (Option Ty))(ks:List Bool):Prop:=l.length=n/\ks.length=n/\(∀t,some t∈l->t.size<=1073741824)/\∀i:Nat,ks[i]?=some true->∃t,l[i]?=some (some t)
def InsR (n:Nat)(r:V×List Obj):Prop:=∃(b:Bool) (l:List (Option Ty)) (ks:List Bool),InsI n l ks/\r=(Zae b,[.arr 5 (tyOs l) 0,.arr 1 (boOs ks) 0])
theorem ZvH (o:Option Ty)(t:Ty):splice (tyO o) 0 (wc t.row)=some (wc t.row):=by
 have h1:=Zz9 o;unfold splice;simp[h1]
theorem Znc {q:Nat}(n:Nat)(hn:n<=1073741824)(p:Ty):∀(t:Ty) (l:List (Option Ty)) (ks:List Bool),tyB 0 q p->t.size<=1073741824->InsI n l ks->
 ∃r,InsR n r/\(K A).call 185 [tyV p,tyV t,.sc (.arr 0 n),.sc (.arr 1 n)] [.arr 5 (tyOs l) 0,.arr 1 (boOs ks) 0]=some r:=by
 induction p using Ty.ind with
 |h p ih=>
 intro t l ks hp ht hI;obtain⟨hl,hk,hs,hkn⟩:=hI;have htl:=t.args_lt;refine fnE v185 ?_;unfold v185;by_cases h2:p.kind=2/\p.id<n
 .obtain ⟨h2,h3⟩:=h2
  have h0:=hp.one.2.1 h2;obtain⟨i,hi⟩:∃i:Nat,p.id=i:=⟨p.id.toNat,by omega⟩;have hin:i<n:=by omega
  have hin2:(i:Int)<n:=by omega
  obtain⟨b,hb⟩:=Zaa (l:=ks) (i:=i) (by omega);obtain⟨o',ho⟩:=Zaa (l:=l) (i:=i) (by omega);cases b with
  |true=>
   obtain⟨u,hu⟩:=hkn i hb;rw[hu]at ho;cases ho;obtain⟨_,⟨e,rfl⟩,hc⟩:=Zt6 (A:=A) 1073741824 u t (hs u (qa hu)) (by omega);simp(disch:=first|exact zd|fail) [h2,hi,hin,hin2,hb,hu,hc,hl,hk,tyO,elOk,-getElem?_pos];exact⟨e,l,ks,⟨hl,hk,hs,hkn⟩,rfl⟩
  |false=>
   simp(disch:=first|exact zd|fail) [h2,hi,hin,hin2,hb,ho,hl,hk,elOk,ZvH,-getElem?_pos];simp only[Znp,Zm3,<-qam,tyOs_ren,boOs_ren];refine⟨true,l.set i (some t),ks.set i true,⟨by simp[hl],by simp[hk],?_,?_⟩,rfl⟩
   .intro u hu
    rcases List.mem_or_eq_of_mem_set hu with hu|hu
    .exact hs u hu
    .cases hu
     omega
   .intro j hj
    by_cases hji:j=i
    .subst hji
     exact⟨t,by simp[hl,hin]⟩
    .rw [qaC (fun h=>hji h.symm)] at hj
     obtain⟨u,hu⟩:=hkn j hj;exact⟨u,by rw[qaC (fun h=>hji h.symm)];exact hu⟩
 .have same:InsR n (Zae false,[.arr 5 (tyOs l) 0,.arr 1 (boOs ks) 0]):=⟨false,l,ks,⟨hl,hk,hs,hkn⟩,rfl⟩
  have fin:p.args.length=t.args.length->wp (K A) (.loop Zox) (Zb5 0 (Zdt (K A) (.seq (.region [] [o 8 (.mv kt)] [] [8]) .ret) (Zeo false 2 [.tmp 8] (InsR n))))
   ⟨[(2,.sc (.arr 0 n)),(3,.sc (.arr 1 n)),(4,.sc (.ptr 64 0)),(5,.sc (.ptr 128 0)),(9,intV 0)],
     [(0,some (.arr 5 (tyOs l) 0)),(1,some (.arr 1 (boOs ks) 0)),(64,some (.box (wc p.row))),(128,some (.box (wc t.row)))]⟩:=by
   intro hpt;refine Zad (fun i s=>∃l ks,InsI n l ks/\s=⟨[(2,.sc (.arr 0 n)),(3,.sc (.arr 1 n)),(4,.sc (.ptr 64 0)),(5,.sc (.ptr 128 0)),(9,intV i)],
    [(0,some (.arr 5 (tyOs l) 0)),(1,some (.arr 1 (boOs ks) 0)),(64,some (.box (wc p.row))),(128,some (.box (wc t.row)))]⟩) p.args.length ⟨l,ks,⟨hl,hk,hs,hkn⟩,by simp⟩ ?_ ?_
   .rintro i s hi ⟨l,ks,hI,rfl⟩
    obtain⟨x,hx⟩:=Zaa hi;obtain⟨y,hy⟩:=Zaa (l:=t.args) (i:=i) (by omega);have hys:=Ty.arg_lt (qa hy);obtain⟨_,⟨b,l2,ks2,hI2,rfl⟩,hc⟩:=ih x (qa hx) y l ks (hp.arg (qa hx)) (by omega) hI;have hn0:=hI.1;have hn1:=hI.2.1;have hi':i<t.args.length:=(by omega);have hn2:=hI2.1;have hn3:=hI2.2.1;unfold Zox;cases b with
    |true=>
     simp(disch:=first|exact zd|fail) [hi,hi',hx,hy,hc,hpt,hn0,hn1,hn2,hn3,-getElem?_pos];exact⟨l2,ks2,hI2,rfl,rfl⟩
    |false=>
     simp(disch:=first|exact zd|fail) [hi,hi',hx,hy,hc,hpt,hn0,hn1,hn2,hn3,-getElem?_pos];exact⟨false,l2,ks2,hI2,rfl⟩
   .rintro s ⟨l,ks,hI,rfl⟩
    unfold Zox;simp(disch:=first|exact zd|fail) [-getElem?_pos];exact⟨true,l,ks,hI,rfl⟩
  have h2':p.kind=2->¬p.id<n:=fun a b=>h2 ⟨a,b⟩;refine Zeh ⟨[(2,.sc (.arr 0 n)),(3,.sc (.arr 1 n)),(4,.sc (.ptr 64 0)),(5,.sc (.ptr 128 0))],[(0,some (.arr 5 (tyOs l) 0)),(1,some (.arr 1 (boOs ks) 0)),(64,some (.box (wc p.row))),(128,some (.box (wc t.row)))]⟩ (by simp) ?_
  refine Zeh ⟨[(2,.sc (.arr 0 n)),(3,.sc (.arr 1 n)),(4,.sc (.ptr 64 0)),(5,.sc (.ptr 128 0)),(19,Zae false)],[(0,some (.arr 5 (tyOs l) 0)),(1,some (.arr 1 (boOs ks) 0)),(64,some (.box (wc p.row))),(128,some (.box (wc t.row)))]⟩ ?_ ?_
  .by_cases hk2:p.kind=2
   .have hid:=h2' hk2
    simp(disch:=first|exact zd|fail) [hk2,hid,hl,-getElem?_pos]
   .simp(disch:=first|exact zd|fail) [hk2,-getElem?_pos]
  .by_cases a1:p.kind=t.kind
   .by_cases a2:p.name=t.name
    .by_cases a3:p.id=t.id
     .by_cases a4:p.home=t.home
      .by_cases a5:p.args.length=t.args.length
       .simp (disch:=first|exact zd|fail) [a1,a2,a3,a4,a5,-getElem?_pos]
        exact fin a5
       .have a5':¬(p.args.length:Int)=t.args.length:=by omega
        simp(disch:=first|exact zd|fail) [a1,a2,a3,a4,a5,a5',-getElem?_pos];exact same
      .simp (disch:=first|exact zd|fail) [a1,a2,a3,a4,-getElem?_pos]
       exact same
     .simp (disch:=first|exact zd|fail) [a1,a2,a3,-getElem?_pos]
      exact same
    .simp (disch:=first|exact zd|fail) [a1,a2,-getElem?_pos]
     exact same
   .simp (disch:=first|exact zd|fail) [a1,-getElem?_pos]
    exact same
def InstR (r:V×List Obj):Prop:=∃(w:List (List Cell)) (b:Bool),r=(.tu [.sc (.c (.sl w)),Zae b],[])
theorem ZnU {q:Nat}(n:Nat)(hn:n<=1073741)(c t:Ty)(hc:tyB 0 q c)(ht:t.size<=1073741824):∃r,InstR r/\(K A).call 136 [schV n c,tyV t] []=some r:=by
 refine fnE v136 ?_;obtain⟨_,⟨b,l,ks,⟨h1,h2,h3,h4⟩,rfl⟩,hcl⟩:=Znc (A:=A) n (by omega) c t (List.replicate n none) (List.replicate n false) hc ht ⟨by simp,by simp,by simp,fun i hi=>by
  rw[List.getElem?_replicate]at hi;split at hi<;>cases hi⟩
 have hr1:(List.replicate n (none:Option Ty)).length=n:=by simp
 have hr2:(List.replicate n false).length=n:=by simp
 generalize hL0:List.replicate n (none:Option Ty)=L0 at *
 generalize hK0:List.replicate n false=K0 at *
 have htc:=fun L d=>Zyb L d l;unfold v136;cases b with
 |true=>
  simp(disch:=first|exact zd|fail) [Zbu,ZpA,ZkJ,hL0,hK0,hr1,hr2,hcl,h1,h2,htc,-getElem?_pos];exact⟨_,true,rfl⟩
 |false=>
  simp(disch:=first|exact zd|fail) [Zbu,ZpA,ZkJ,hL0,hK0,hr1,hr2,hcl,h1,h2,htc,-getElem?_pos];exact⟨_,false,rfl⟩
variable {A:Zab}
def ZbK:List Str:=Zbl++[[119],[112],[113],[114],[115]]
theorem Zb0 {s:Str}(h:s∈Zbl):s∈ZbK:=ql.2 (.inl h)
def mkS (ds:List DataD)(e:Exp):Prop:=
 (e.kind=1/\e.name∈ZbK/\e.kids=[]/\e.arms=[])\/(e.kind=2/\cOk ds e.name/\e.kids=[]/\e.arms=[])\/((e.kind=3\/e.kind=10)/\e.name=[]/\e.kids=[]/\e.arms=[])\/
 (e.kind=4/\e.name∈ZbK/\(∃x,e.kids=[x])/\e.arms=[])\/(e.kind=5/\e.name=[]/\(∃x y,e.kids=[x,y])/\e.arms=[])\/((e.kind=6\/e.kind=7)/\e.name∈ZbK/\(∃x y,e.kids=[x,y])/\e.arms=[])\/
 ((e.kind=9\/e.kind=11)/\e.name=[]/\(∃x,e.kids=[x])/\e.arms=[])\/(e.kind=8/\e.name=[]/\(∃x,e.kids=[x])/\e.arms≠[])
def armM (ds:List DataD)(a:ArmH×Exp):Prop:=a.1.pos=0/\cOk ds a.1.con/\a.1.vars.length<=2/\a.1.vars.Nodup/\∀v∈a.1.vars,v∈ZbK
def wrT (t:Ty):Prop:=tyS 0 t/\Ty.all (fun u=>u.kind≠3) t
def annT (e:Exp):Prop:=(e.kind≠9->e.ty=tz)/\(e.kind=9->wrT e.ty)
def numB (e:Exp):Prop:=(e.kind≠3->e.num=0)/\0<=e.num/\e.num<=999
def mkE1 (ds:List DataD)(e:Exp):Prop:=e.pos=0/\(∀a∈e.arms,armM ds a)/\e.ty.size<=1073741824/\annT e/\numB e/\mkS ds e
def mkE (ds:List DataD)(e:Exp):Prop:=e.fold fun e l=>mkE1 ds e/\∀p∈l,p
theorem Zpe (ds:List DataD)(e:Exp):mkE ds e=(mkE1 ds e/\∀x∈e.children,mkE ds x):=by
 have:=Exp.fold_eq (fun e (l:List Prop)=>mkE1 ds e/\∀p∈l,p) e;unfold mkE;rw[this];simp only[qO]
theorem ZjE (ds:List DataD) (k p n m ks l t):mkE ds (Exp.mk k p n m ks l t)=(mkE1 ds (Exp.mk k p n m ks l t)/\(∀x∈ks,mkE ds x)/\∀a∈l,mkE ds a.2):=by
 grind[Zpe,Exp.kids,Exp.arms,Exp.children]
theorem mkE.one {ds:List DataD}{e:Exp}(h:mkE ds e):mkE1 ds e:=by grind[Zpe]
theorem mkE.child {ds:List DataD}{e x:Exp}(h:mkE ds e)(hx:x∈e.children):mkE ds x:=by grind[Zpe]
theorem mkE1.wf1 {ds:List DataD}{e:Exp}(h:mkE1 ds e):e.wf1:=by
 obtain⟨_,_,_,_,_,h⟩:=h;unfold Exp.wf1;rcases h with ⟨k,_,hk,ha⟩|⟨k,_,hk,ha⟩|⟨k,_,hk,ha⟩|⟨k,_,⟨x,hk⟩,ha⟩|⟨k,_,⟨x,y,hk⟩,ha⟩|⟨k,_,⟨x,y,hk⟩,ha⟩|⟨k,_,⟨x,hk⟩,ha⟩|⟨k,_,⟨x,hk⟩,ha⟩<;>grind
theorem mkE.wf {ds:List DataD}{e:Exp}:mkE ds e->e.wf:=by
 induction e using Exp.ind with
 |h e ih=>
  intro h;rw[Exp.wf_eq];exact⟨h.one.wf1,fun x hx=>ih x hx (h.child hx)⟩
theorem mkE.tyBd {ds:List DataD}{e:Exp}:mkE ds e->tyBd e:=by
 induction e using Exp.ind with
 |h e ih=>
  intro h;rw[Zel];exact⟨h.one.2.2.1,fun x hx=>ih x hx (h.child hx)⟩
def ctxOk (n m:Nat)(l:List EntD):Prop:=l.length<=n/\∀x∈l,x.name∈ZbK/\(∃c:Nat,x.count=c/\c<=900)/\tyB 0 x.count.toNat x.ty/\x.ty.size<=m
theorem Zdg (l:List EntD):∀(i:Nat),∀x∈Zcs l i,x∈l
 |0,x,hx=>by simp[Zcs]at hx
 |i+1,x,hx=>by
  unfold Zcs at hx;split at hx
  .exact Zdg l i x hx
  .rename_i e he
   split at hx
   .exact Zdg l i x hx
   .rcases ql.1 hx with hx|hx
    .exact Zdg l i x hx
    grind
def MkR (L:List Int)(ds:List DataD)(B:Nat)(r:V×List Obj):Prop:=∃e J,mkE ds e/\e.weight<=B/\J<=L.length/\r=(expV e,[ZaK L J])
theorem ZgH {ds:List DataD}{k num:Int}{s:Str}(h:mkE1 ds (.mk k 0 s num [] [] tz)):mkE ds (.mk k 0 s num [] [] tz):=by
 grind[ZjE]
theorem Zp1 (k num:Int)(s:Str):(Exp.mk k 0 s num [] [] tz).row=[.int .i64 k,.int .i64 0,.str s,.int .i64 num,.sl [],.sl [],.int .i64 0,.str [],.int .i64 0,.int .i64 0,.sl []]:=by
 rfl
theorem Zdj (k num:Int)(s:Str):(Exp.mk k 0 s num [] [] tz).weight<=1:=by
 rw[Zbh];simp
theorem ZpE (L:List Int)(ds:List DataD)(hL:L.length<=1073741824){n m:Nat}(hn:n<=1000000)(ctx:List EntD)(hctx:ctxOk n m ctx)(goal:Ty)(hg:goal.size<=1073741824)(I:Nat)(hI:I<=L.length):
 ∃r,MkR L ds 1 r/\(K A).call 83 [.sc (.ptr 0 0),Zar ds,Zc5 ctx,tyV goal] [ZaK L I]=some r:=by
 obtain⟨hc1,hc2⟩:=hctx;have hs:=Zvc (A:=A) ctx (by omega);have hsl:=Zd5 ctx ctx.length;have hsub:=Zdg ctx ctx.length;generalize Zcs ctx ctx.length=l at *
 have hi:=ZmV (A:=A);obtain⟨_,⟨eb,rfl⟩,heq⟩:=Zt6 (A:=A) 1073741824 goal (.mk 4 [73,110,116] 0 0 []) hg (by omega);have hole:∀J,J<=L.length->MkR L ds 1 (expV (.mk 10 0 [] 0 [] [] tz),[ZaK L J]):=fun J hJ=>
  ⟨_,J,ZgH (by simp[mkE1,mkS,annT,numB,Exp.kind,Exp.pos,Exp.name,Exp.num,Exp.kids,Exp.arms,Exp.ty,tz,Ty.size_leaf]),Zdj _ _ _,hJ,rfl⟩
 refine ZaD _ (vf:=v83) (by rfl) rfl (by simp) ?_;unfold v83;simp(disch:=first|exact zd|fail) [hs];refine Zad (fun i st=>∃fs:List Str,fs.length<=i/\(∀s∈fs,s∈ZbK)/\st=⟨[(0,.sc (.ptr 0 0)),(7,.sc (.ptr 64 0)),(8,.sc (.ptr 128 0)),(9,.sc (.arr 193 fs.length)),(10,Zc5 l),(11,intV i)],
  [(0,some (ZaK L I)),(64,some (.box (wc goal.row))),(128,some (.box [zi,zi,zs,zi,.nil,.nil,zi,zs,zi,zi,.nil])),(193,some (.arr 1 (wr (Zai fs)) 0))]⟩) l.length ⟨[],by simp,by simp,by simp⟩ ?_ ?_
 .rintro i st hi2 ⟨fs,hf1,hf2,rfl⟩
  obtain⟨x,hx⟩:=Zaa hi2;obtain⟨x1,⟨c,hc,hcl⟩,x3,x4⟩:=hc2 x (hsub x (qa hx));obtain⟨_,⟨w,b,rfl⟩,hin⟩:=ZnU (A:=A) c (by omega) x.ty goal x3 hg;rw[<-hc]at hin;unfold Zy8;cases b with
  |true=>
   simp(disch:=first|exact zd|fail) [hi2,hx,hin,-getElem?_pos];refine⟨fs++[x.name],by grind,?_,by simp⟩;grind
  |false=>
   simp(disch:=first|exact zd|fail) [hi2,hx,hin,-getElem?_pos];grind
 .rintro st ⟨fs,hf1,hf2,rfl⟩
  unfold Zy8;by_cases hf:fs=[]
  .subst hf
   cases eb with
   |false=>
    simp(disch:=first|exact zd|fail) [hi,heq,-getElem?_pos];exact hole I hI
   |true=>
    obtain⟨k2,J1,hk2,hJ1,hc2⟩:=ZbH (A:=A) L I 4 hI hL (by omega) (by omega);by_cases hk20:0<k2
    .obtain ⟨q,J2,hq,hJ2,hcq⟩:=ZbH (A:=A) L J1 3 hJ1 hL (by omega) (by omega)
     simp(disch:=first|exact zd|fail) [hi,heq,hc2,hk20,hcq,-getElem?_pos];exact⟨.mk 3 0 [] q [] [] tz,J2,ZgH (by grind[mkE1,mkS,annT,numB,Exp.kind,Exp.pos,Exp.name,Exp.num,Exp.kids,Exp.arms,Exp.ty,tz,Ty.size_leaf]),Zdj _ _ _,hJ2,by rfl⟩
    .simp (disch:=first|exact zd|fail) [hi,heq,hc2,hk20,-getElem?_pos]
     exact hole J1 hJ1
  .have hpos:0<fs.length:=qae.2 hf
   obtain⟨k,J,hk,hJ,hc⟩:=ZbH (A:=A) L I 6 hI hL (by omega) (by omega);by_cases hk0:0<k
   .obtain ⟨q,J2,hq,hJ2,hcq⟩:=ZbH (A:=A) L J fs.length hJ hL (by omega) (by omega)
    obtain⟨s,hsq⟩:=Zaa (l:=fs) (i:=q) (by omega);have hsn:=hf2 s (qa hsq);simp(disch:=first|exact zd|fail) [hpos,hc,hk0,hcq,hsq,-getElem?_pos];exact⟨.mk 1 0 s 0 [] [] tz,J2,ZgH (by grind[mkE1,mkS,annT,numB,Exp.kind,Exp.pos,Exp.name,Exp.num,Exp.kids,Exp.arms,Exp.ty,tz,Ty.size_leaf]),Zdj _ _ _,hJ2,by rfl⟩
   .have hk1:k=0:=by omega
    cases eb with
    |false=>
     simp(disch:=first|exact zd|fail) [hpos,hc,hk0,hi,heq,-getElem?_pos];exact hole J hJ
    |true=>
     obtain⟨k2,J1,hk2,hJ1,hc2⟩:=ZbH (A:=A) L J 4 hJ hL (by omega) (by omega);by_cases hk20:0<k2
     .obtain ⟨q,J2,hq,hJ2,hcq⟩:=ZbH (A:=A) L J1 3 hJ1 hL (by omega) (by omega)
      simp(disch:=first|exact zd|fail) [hpos,hc,hk0,hi,heq,hc2,hk20,hcq,-getElem?_pos];exact⟨.mk 3 0 [] q [] [] tz,J2,ZgH (by grind[mkE1,mkS,annT,numB,Exp.kind,Exp.pos,Exp.name,Exp.num,Exp.kids,Exp.arms,Exp.ty,tz,Ty.size_leaf]),Zdj _ _ _,hJ2,by rfl⟩
     .simp (disch:=first|exact zd|fail) [hpos,hc,hk0,hi,heq,hc2,hk20,-getElem?_pos]
      exact hole J1 hJ1
theorem Ztu {k:Nat}(h:k<10000000000):nameOk 97 122 (Zbj k):=by
 refine⟨?_,⟨118,rfl,by decide,by decide⟩,?_,?_⟩
 .have:=Zfi k 10 (by omega) (by omega)
  grind[Zbj]
 .intro c hc
  have hd:∀c:UInt8,48<=c.toNat/\c.toNat<=57->ZmI c=true:=by
   grind[ZmI]
  rcases qz.1 hc with rfl|hc
  rfl;grind[Zkk]
 .intro hk
  have key:∀w∈keyWords,∀c∈w,¬(48<=c.toNat/\c.toNat<=57):=by decide
  grind[numS,Zkk,List.mem_cons_self,Zbj]
theorem ZgZ {n:Nat}{taken:List Str}(h:n+taken.length<9000000000):nameOk 97 122 (Zat n taken):=
 Ztu (by grind[ZfU])
def lowK (k:Int):Prop:=k=1\/k=4\/k=6\/k=7
def lowE1 (e:Exp):Prop:=(lowK e.kind->nameOk 97 122 e.name)/\(e.kind=2->nameOk 65 90 e.name)/\(¬lowK e.kind->e.kind≠2->e.name=[])/\∀a∈e.arms,∀v∈a.1.vars,nameOk 97 122 v
def lowE (e:Exp):Prop:=e.fold fun e l=>lowE1 e/\∀p∈l,p
theorem ZdP (e:Exp):lowE e=(lowE1 e/\∀x∈e.children,lowE x):=by
 have:=Exp.fold_eq (fun e (l:List Prop)=>lowE1 e/\∀p∈l,p) e;unfold lowE;rw[this];simp only[qO]
theorem lowE.one {e:Exp}(h:lowE e):lowE1 e:=by grind[ZdP]
theorem lowE.child {e x:Exp}(h:lowE e)(hx:x∈e.children):lowE x:=by grind[ZdP]
theorem lowE1.with {e:Exp}{cs:List Exp}(hl:cs.length=e.kids.length+e.arms.length)(h:lowE1 e):lowE1 (Za6 e cs):=by
 obtain⟨_,_,_,h4⟩:=ZaQ hl;refine⟨h.1,h.2.1,h.2.2.1,fun a ha=>?_⟩;obtain⟨i,hi⟩:=qk.1 ha;have:=h4 i;rw[hi]at this;cases hq:e.arms[i]? with
 |none=>grind
 |some q=>
  rw[hq]at this;simp only[qp,qb]at this;rw[this];exact h.2.2.2 q (qa hq)
theorem ZkN {e:Exp}{cs:List Exp}(hl:cs.length=e.kids.length+e.arms.length)(he:lowE e)(hc:∀c∈cs,lowE c):lowE (Za6 e cs):=by
 rw[ZdP,(ZaQ hl).2.2.1];exact⟨he.one.with hl,hc⟩
theorem isVar.low {s:Str}{c:Exp}(h:isVar s c)(hs:nameOk 97 122 s):lowE c:=by
 obtain⟨k,nm,_,_,ks,am⟩:=h;rw[ZdP];refine⟨⟨fun _=>nm▸hs,fun q=>by omega,fun q=>absurd (.inl k) q,by grind⟩,fun z hz=>?_⟩;grind[Exp.children]
theorem Zxm {s:Str}(hs:nameOk 97 122 s):lowE (varX s):=(show isVar s (varX s)from⟨rfl,rfl,rfl,rfl,rfl,rfl⟩).low hs
theorem Zo6 {frm to:Str}(ht:nameOk 97 122 to)(e:Exp):lowE e->lowE (repl frm to e):=by
 induction e using Exp.ind with
 |h e ih=>
  intro h;by_cases hk:e.kind=1
  .rw [Zde hk]
   split
   .rw [ZdP]
    exact⟨⟨fun _=>ht,fun q=>absurd (show e.kind=2 from q) (by omega),fun q=>absurd (show lowK e.kind from .inl hk) q,h.one.2.2.2⟩,fun x hx=>h.child hx⟩
   omega
  .rw [Zef hk]
   refine ZkN (replC_len frm to e) h fun c hc=>?_;obtain⟨i,hi⟩:=qk.1 hc;obtain⟨x,hx⟩:=Zaa (l:=e.children) (i:=i) (by have:=(qd.1 hi).1;simp_all);rw[Zca hx]at hi;cases hi;have hm:=qa hx;split
   .exact h.child hm
   .exact ih x hm (h.child hm)
theorem Zlo {x:Str}{free vars:List Str}{b:Exp}(hn:inj vars)(hx:x∉vars)(hs:shp b)(hp:properP b)(hl:b.weight+vars.length+free.length<=134217728)(hb:lowE b)(hv:∀s∈vars,nameOk 97 122 s):
 ∀k,k<=vars.length->lowE (Zdv x free vars b k).2/\∀s∈(Zdv x free vars b k).1,nameOk 97 122 s
 |0,_=>⟨hb,hv⟩
 |k+1,hk=>by
  obtain⟨h1,h2⟩:=Zlo (free:=free) hn hx hs hp hl hb hv k (by omega);have ho:=Ze7 (free:=free) hn hx hs hp k (by omega);rw[Zdi];generalize Zdv x free vars b k=p at *
  obtain⟨vs,bk⟩:=p;simp only at *
  unfold ZdJ;simp only;cases hv2:vs[k]? with
  |none=>grind
  |some v=>
   simp only;split;grind
   .have hal:=Zee bk ho.shape.wf
    have hf:nameOk 97 122 (Zat 0 (allP bk++vs++free++[x])):=ZgZ (by have:=ho.weight;have:=ho.len;grind);grind[Zo6]
theorem ZxA {x:Str}{free:List Str}{e:Exp}(hs:shp e)(hp:properP e)(h:lowE e)(hl:e.weight+free.length<=67108864):lowE (Zcn x free e):=by
 have hal:=Zee e hs.wf;unfold Zcn;by_cases hk:e.kind=4\/e.kind=6\/e.kind=7
 .rw [if_pos hk]
  obtain⟨ha,hc⟩:=Za2 (by omega) hs.one;unfold Zcq;split;omega
  .have hf:nameOk 97 122 (Zat 0 (allP e++free++[x])):=ZgZ (by grind)
   generalize Zat 0 (allP e++free++[x])=to at hf |-;rw[ZdP];refine⟨⟨fun _=>hf,fun q=>absurd (show e.kind=2 from q) (by omega),fun q=>absurd (show lowK e.kind from .inr hk) q,h.one.2.2.2⟩,fun y hy=>?_⟩;have hc':∀ks,(Exp.mk e.kind e.pos to e.num ks e.arms e.ty).children=ks:=fun ks=>by grind[ZaC]
   rw[hc']at hy;obtain⟨⟨z,i⟩,hz,rfl⟩:=qH.1 hy;have hzk:=qa (qaT.1 hz);simp only;split
   .exact h.child (Zal hzk)
   .exact Zo6 hf _ (h.child (Zal hzk))
 .rw [if_neg hk]
  by_cases h8:e.kind=8
  .rw [if_pos h8]
   have harm:∀p∈e.arms,lowE (armP x free p).2/\∀s∈(armP x free p).1.vars,nameOk 97 122 s:=by
    intro p hm;have hnp:lowE p.2:=h.child (Zbt hm);have hv:=h.one.2.2.2 p hm;have hvl:=Exp.vars_le hm;have hwl:=Exp.child_lt (Zbt hm);unfold armP;split;grind
    .rename_i hx
     exact Zlo (hp.one p hm) hx (hs.child (Zbt hm)) (hp.child (Zbt hm)) (by omega) hnp hv p.1.vars.length (qe _)
   rw[ZdP];refine⟨⟨h.one.1,h.one.2.1,h.one.2.2.1,fun a ha=>?_⟩,fun y hy=>?_⟩
   .obtain ⟨p,hp',rfl⟩:=qH.1 (show a∈e.arms.map (armP x free) from ha)
    grind
   .rw [ZaC] at hy
    rcases ql.1 hy with hy|hy
    .exact h.child (Zal hy)
    grind
  grind
theorem Zop {x:Str}{b:Exp}(hb:lowE b)(hbl:b.weight<=16777216):∀(n:Nat) (e:Exp),e.weight<=n->e.weight<=16777216->shp e->properP e->lowE e->lowE (subN n e x b)
 |0,e,_,_,_,_,hn=>hn
 |n+1,e,h,hl,hs,hp,hn=>by
  rw[Zdn];by_cases hk:e.kind=1;grind
  .rw [if_neg hk]
   have hP:=Zfz (x:=x) (b:=b) hs hp;have hfl:=Zb8 b;have hN:=ZxA (x:=x) (free:=Zaf b) hs hp hn (by omega);generalize Zcn x (Zaf b) e=e' at hP hN |-;refine ZkN (subC_len n e' x b) hN fun y hy=>?_;obtain⟨i,hi⟩:=qk.1 hy;obtain⟨x1,hx1⟩:=Zaa (l:=e'.children) (i:=i) (by have:=(qd.1 hi).1;simp_all);obtain⟨x0,hx0⟩:=Zaa (l:=e.children) (i:=i) (by grind[Zcr]);have hK:=hP.kids i x0 x1 hx0 hx1
   have hlt:=Exp.child_lt (qa hx0);have hw:=hK.weight;rw[ZdC hx1]at hi;cases hi;split
   .exact hN.child (qa hx1)
   .exact Zop hb hbl n x1 (by omega) (by omega) hK.shape hK.proper (hN.child (qa hx1))
theorem Zlk {e:Exp}:lowE e->nmL e:=by
 induction e using Exp.ind with
 |h e ih=>
  intro h s hs;have l12:∀{lo hi:Nat} {s:Str},nameOk lo hi s->s.length<=1000:=fun q=>qu q.1 (by decide);have hnm:e.name.length<=1000:=by
   by_cases hk:lowK e.kind
   .exact l12 (h.one.1 hk)
   .by_cases h2:e.kind=2
    .exact l12 (h.one.2.1 h2)
    .rw [h.one.2.2.1 hk h2]
     decide
  rcases ZaH.1 hs with h1|⟨i,x,hx,h1|h1⟩
  grind
  .rw [ZaM] at h1
   split at h1;grind
   .split at h1
    .cases ha:e.arms[i-1]? with
     |none=>grind
     |some a=>
      rw[ha]at h1;exact l12 (h.one.2.2.2 a (qa ha) s h1)
    grind
  .have hm:=qa hx
   exact ih x hm (h.child hm) s h1
def Zrd (e:Exp):Prop:=1<=e.kind/\e.kind<=11/\((e.kind≠3->e.num=0)/\0<=e.num/\e.num<=999999999)/\e.ty.size<=1073741824/\annT e/\(e.kind=8->e.arms≠[])/\∀a∈e.arms,nameOk 65 90 a.1.con/\a.1.vars.length<=2
def fixE (e:Exp):Prop:=e.fold fun e l=>Zrd e/\∀p∈l,p
theorem Ze0 (e:Exp):fixE e=(Zrd e/\∀x∈e.children,fixE x):=by
 have:=Exp.fold_eq (fun e (l:List Prop)=>Zrd e/\∀p∈l,p) e;unfold fixE;rw[this];simp only[qO]
theorem fixE.one {e:Exp}(h:fixE e):Zrd e:=by grind[Ze0]
theorem fixE.child {e x:Exp}(h:fixE e)(hx:x∈e.children):fixE x:=by grind[Ze0]
theorem ZtM {a c:Exp}(h1:a.kind=c.kind)(h2:a.num=c.num)(h3:a.ty=c.ty)(h4:a.arms.length=c.arms.length)(h5:∀(i:Nat) p q,a.arms[i]?=some p->c.arms[i]?=some q->p.1.con=q.1.con/\p.1.vars.length=q.1.vars.length)(h:Zrd a):Zrd c:=by
 obtain⟨g1,g2,g3,g4,g5,g6,g7⟩:=h;refine⟨h1▸g1,h1▸g2,?_,h3▸g4,⟨fun q=>h3▸g5.1 (h1▸q),fun q=>h3▸g5.2 (h1▸q)⟩,fun q=>?_,fun q hq=>?_⟩;omega;grind
 .obtain ⟨i,hi⟩:=qk.1 hq
  obtain⟨p,hp⟩:=Zaa (l:=a.arms) (i:=i) (by grind);grind
theorem isVar.fix {s:Str}{c:Exp}(h:isVar s c):fixE c:=by
 obtain⟨k,_,nu,ty,ks,am⟩:=h;rw[Ze0];refine⟨⟨by omega,by omega,⟨fun _=>nu,by omega,by omega⟩,by rw[ty];decide,⟨fun _=>ty,fun q=>by omega⟩,fun q=>by omega,by grind⟩,fun z hz=>?_⟩;grind[Exp.children]
theorem instR.fix (a:Exp):∀(c:Exp) (V:Rep),instR a c V->fixE a->(∀s d,V s d->fixE d)->fixE c:=by
 induction a using Exp.ind with
 |h a ih=>
  intro c V h ht hv;by_cases hk:a.kind=1
  .exact hv _ _ (h.var hk)
  .obtain ⟨h1,h2,h3,h4⟩:=h.node hk
   rw[Ze0];refine⟨ZtM h1.1 h1.2.1 h1.2.2.1 h1.2.2.2.2 h3 ht.one,fun y hy=>?_⟩;obtain⟨i,hi⟩:=qk.1 hy;obtain⟨x,hx⟩:=Zaa (l:=a.children) (i:=i) (by rw[h1.children];grind);refine ih x (qa hx) y _ (h4 i x y hx hi) (ht.child (qa hx)) fun s d hd=>?_;rcases hd with ⟨_,t,_,_,hvv⟩|⟨_,q,_⟩
   .exact hvv.fix
   grind
theorem Zxc {e:Exp}{cs:List Exp}(hl:cs.length=e.kids.length+e.arms.length)(he:fixE e)(hc:∀c∈cs,fixE c):fixE (Za6 e cs):=by
 obtain⟨_,h2,h3,h4⟩:=ZaQ hl;rw[Ze0,h3];refine⟨ZtM (a:=e) rfl rfl rfl h2.symm (fun i p q hp hq=>?_) he.one,hc⟩;grind
theorem ZxF (s:Str):fixE (varX s):=(show isVar s (varX s)from⟨rfl,rfl,rfl,rfl,rfl,rfl⟩).fix
def lfE (e:Exp):Prop:=lowE e/\fixE e
theorem lfE.child {e x:Exp}(h:lfE e)(hx:x∈e.children):lfE x:=⟨h.1.child hx,h.2.child hx⟩
theorem Ziq {x:Str}{e b:Exp}(he:okE e)(hb:okE b)(hel:e.weight<=16777216)(hbl:b.weight<=16777216)(h:lfE e)(hr:lfE b):lfE (subP e x b):=by
 refine⟨Zop hr.1 hbl _ e (qe _) hel he.1 he.2.1 h.1,instR.fix e _ _ (ZhE x b hb.1 e.weight e (qe _) he.1 he.2.1) h.2 fun s d hd=>?_⟩;unfold subV at hd;split at hd
 .exact hd▸hr.2
 .exact hd.fix
theorem ZxB (a:Exp):∀b,sameP a b->lfE a->lfE b:=by
 induction a using Exp.ind with
 |h a ih=>
  intro b h ha;obtain⟨⟨h1,h2,h3,h4,h5,h6,h7⟩,h8⟩:=ZaG.1 h;have hk:∀y∈b.children,lfE y:=fun y hy=>by
   obtain⟨i,hi⟩:=qk.1 hy;obtain⟨x,hx⟩:=Zaa (l:=a.children) (i:=i) (by rw[h.kids_len];grind);have hm:=qa hx;exact ih x hm y (h8 i x y hx hi) (ha.child hm)
  refine⟨?_,?_⟩
  .rw [ZdP]
   obtain⟨g1,g2,g3,g4⟩:=ha.1.one;refine⟨⟨by grind,by grind,by grind,fun q hq=>?_⟩,fun y hy=>(hk y hy).1⟩;obtain⟨i,hi⟩:=qk.1 hq;obtain⟨p,hp⟩:=Zaa (l:=a.arms) (i:=i) (by grind);grind
  .rw [Ze0]
   exact⟨ZtM h1 h3 h4 h6 (fun i p q hp hq=>by grind) ha.2.one,fun y hy=>(hk y hy).2⟩
theorem ZuJ {e:Exp}(h:lfE e):lfE (Zan e):=ZxB e _ (ZgD e) h
end Go.Vs.Tryz
