/- Substitution as the reference does it (plain): up to positions it is the program's. -/
import Derived.Test.YtccmnfpbcmccpaaGreatDoorR9w
set_option linter.all false
set_option maxHeartbeats 64000000
set_option maxRecDepth 20000
namespace Go.Vs.Tryz
open Go Go.Vs
theorem ZE {t t':List Str}(h:∀k,AK k∈t↔AK k∈t')(n:Nat):AS n t=AS n t':=by
 have h1:1<=AS n t':=EO t' _ 1 n;have hm:B2 t' 1 (AS n t')=n:=H2 t' _ _ _ (by grind[HW]);refine Pn h1 (fun hk=>Ds n t' ((h _).1 hk)) ?_;grind[B2]
theorem Ma {t t':List Str}(h:∀k,AK k∈t↔AK k∈t')(n:Nat):Au n t=Au n t':=by grind[Au,ZE]
theorem IF (k:Nat):AK k≠[]:=by unfold AK;simp
def Zch (e:Exp)(l:List (List Str)):List Str:=(if e.name=[] then [] else [e.name])++(e.arms.map fun a=>a.1.vars).flatten++l.flatten
def An (e:Exp):List Str:=e.fold Zch
theorem Pm (e:Exp):An e=(if e.name=[] then [] else [e.name])++(e.arms.map fun a=>a.1.vars).flatten++(e.children.map An).flatten:=Exp.fold_eq _ e
theorem UM {e:Exp}{s:Str}:s∈An e↔(s≠[]/\s=e.name)\/(∃a∈e.arms,s∈a.1.vars)\/∃x∈e.children,s∈An x:=by
 grind[Pm]
theorem La (e:Exp){s:Str}(hs:s≠[]):e.wf->(s∈An e↔s∈allP e):=by
 induction e using Exp.ind with
 |h e ih=>
  intro hw;rw[UM,A1];constructor
  .rintro (⟨_,h⟩|⟨a,ha,h⟩|⟨x,hx,h⟩)
   grind
   .obtain ⟨j,hj⟩:=qn.1 ha
    have h8:e.kind=8:=qO fun q=>by
     have:=hw.one.2.1 q;grind
    have hk1:=hw.one.1 h8;refine .inr ⟨e.kids.length+j,a.2,Ei hj,.inl ?_⟩;grind[Bx]
   .obtain ⟨i,hi⟩:=qn.1 hx
    exact .inr ⟨i,x,hi,.inr ((ih x hx (hw.child hx)).1 h)⟩
  .rintro (h|⟨i,x,hi,h|h⟩)
   grind;grind[Bx]
   .exact .inr (.inr ⟨x,qc hi,(ih x (qc hi) (hw.child (qc hi))).2 h⟩)
def Nc (a b:Exp):Prop:=a.kind=b.kind/\a.name=b.name/\a.num=b.num/\a.ty=b.ty/\a.kids.length=b.kids.length/\a.arms.length=b.arms.length/\
 ∀(i:Nat) p q,a.arms[i]?=some p->b.arms[i]?=some q->p.1.con=q.1.con/\p.1.vars=q.1.vars
theorem BA {a b:Exp}:sameP a b↔Nc a b/\∀(i:Nat) x y,a.children[i]?=some x->b.children[i]?=some y->sameP x y:=by
 rw[DO];unfold Nc;simp only[and_assoc]
theorem sameP.kids_len {a b:Exp}(h:sameP a b):a.children.length=b.children.length:=by
 obtain⟨⟨_,_,_,_,h1,h2,_⟩,_⟩:=BA.1 h;simp_all
theorem sameP.kid {a b:Exp}(h:sameP a b){i:Nat}{x:Exp}(hx:a.children[i]?=some x):∃y,b.children[i]?=some y/\sameP x y:=by
 obtain⟨y,hy⟩:=Ab (l:=b.children) (i:=i) (by rw[<-h.kids_len];grind);grind[BA]
theorem sameP.weight (a:Exp):∀b,sameP a b->a.weight=b.weight:=by
 induction a using Exp.ind with
 |h a ih=>
  intro b h;obtain⟨⟨_,_,_,_,_,h6,h7⟩,h8⟩:=BA.1 h;have hl:=h.kids_len;rw[a.weight_eq,b.weight_eq];congr 1
  .congr 2
   refine qH fun i=>?_;grind
  .congr 1
   refine qH fun i=>?_;grind
theorem sameP.shp (a:Exp):∀b,sameP a b->shp a->shp b:=by
 induction a using Exp.ind with
 |h a ih=>
  intro b h hs;obtain⟨⟨h1,h2,h3,h4,h5,h6,h7⟩,h8⟩:=BA.1 h;rw[DV];refine⟨?_,fun y hy=>?_⟩
  .obtain ⟨⟨w1,w2,w3⟩,w4,w5⟩:=hs.one
   have hz:∀{α:Type} {l m:List α},l.length=m.length->l=[]->m=[]:=fun hl he=>qS.1 (by grind);refine⟨⟨fun k=>by omega,fun k=>qS.1 (by grind),fun k=>qS.1 (by grind)⟩,fun k=>?_,by grind⟩;grind
  .obtain ⟨i,hi⟩:=qn.1 hy
   obtain⟨x,hx⟩:=Ab (l:=a.children) (i:=i) (by rw[h.kids_len];grind);exact ih x (qc hx) y (h8 i x y hx hi) (hs.child (qc hx))
theorem Rf (a:Exp):∀b,sameP a b->∀u,u∈Ad a->u∈Ad b:=by
 induction a using Exp.ind with
 |h a ih=>
  intro b h u hu;obtain⟨⟨h1,h2,_⟩,h8⟩:=BA.1 h;by_cases hk:a.kind=1;grind[CI]
  .obtain ⟨i,x,hx,hf,hb⟩:=(B8 hk).1 hu
   obtain⟨y,hy,hs⟩:=h.kid hx;grind[B8,GE]
theorem Ii {a b:Exp}(h:sameP a b)(u:Str):u∈Ad a↔u∈Ad b:=⟨Rf a b h u,Rf b a (SV a b h) u⟩
theorem TB (a:Exp):∀b,sameP a b->∀u,u∈allP a->u∈allP b:=by
 induction a using Exp.ind with
 |h a ih=>
  intro b h u hu;obtain⟨⟨h1,h2,_⟩,h8⟩:=BA.1 h;rcases A1.1 hu with hu|⟨i,x,hx,hu⟩
  grind[A1]
  .obtain ⟨y,hy,hs⟩:=h.kid hx
   grind[A1,GE]
theorem Mx {a b:Exp}(h:sameP a b)(u:Str):u∈allP a↔u∈allP b:=⟨TB a b h u,TB b a (SV a b h) u⟩
theorem Lw {e e':Exp}{cs ds:List Exp}(hc:cs.length=e.kids.length+e.arms.length)(hd:ds.length=e'.kids.length+e'.arms.length)(h:Nc e e')
 (hk:∀(i:Nat) x y,cs[i]?=some x->ds[i]?=some y->sameP x y):sameP (AD e cs) (AD e' ds):=by
 obtain⟨c1,c2,c3,c4⟩:=B7 hc;obtain⟨d1,d2,d3,d4⟩:=B7 hd;obtain⟨h1,h2,h3,h4,h5,h6,h7⟩:=h;refine BA.2 ⟨⟨h1,h2,h3,h4,by rw[c1,d1,h5],by rw[c2,d2,h6],fun i p q hp hq=>?_⟩,fun i x y hx hy=>?_⟩<;>grind
def varX (s:Str):Exp:=.mk 1 0 s 0 [] [] tz
theorem T7 (s:Str):Ad (varX s)=[s]:=by rfl
def newR (x:Str)(b e:Exp):Str:=Au 0 (Ad b++An e++[x])
def newA (x con:Str)(b:Exp)(p:List Str×Exp):Str:=Au 0 (Ad b++An p.2++[x,con]++p.1)
def EK (S:Exp->Str->Exp->Exp)(x:Str)(b:Exp)(con:Str)(p:List Str×Exp)(i:Nat):List Str×Exp:=match p.1[i]? with
 |none=>p
 |some v=>if v∈Ad b/\x∈Ad p.2 then (p.1.set i (newA x con b p),S p.2 v (varX (newA x con b p))) else p
def BU (S:Exp->Str->Exp->Exp)(x:Str)(b:Exp)(con:Str)(vs:List Str)(e:Exp)(k:Nat):List Str×Exp:=(List.range k).foldl (EK S x b con) (vs,e)
theorem Hz (S:Exp->Str->Exp->Exp)(x:Str)(b:Exp)(con:Str)(vs:List Str)(e:Exp)(k:Nat):BU S x b con vs e (k+1)=EK S x b con (BU S x b con vs e k) k:=by
 unfold BU;rw[List.range_succ,qaR];rfl
def BB (S:Exp->Str->Exp->Exp)(x:Str)(b:Exp)(a:ArmH×Exp):ArmH×Exp:=
 if x∈a.1.vars then a else (⟨a.1.pos,a.1.con,(BU S x b a.1.con a.1.vars a.2 a.1.vars.length).1⟩,(BU S x b a.1.con a.1.vars a.2 a.1.vars.length).2)
def Cc (S:Exp->Str->Exp->Exp)(x:Str)(b:Exp)(e:Exp):Exp:=
 if e.name=x\/e.kids.length<=AC e\/¬hitP x (Ad b) e.name (e.kids.drop (AC e)) then e else
  .mk e.kind e.pos (newR x b e) e.num (e.kids.zipIdx.map fun p=>if p.2<AC e then p.1 else S p.1 e.name (varX (newR x b e))) e.arms e.ty
def BT (S:Exp->Str->Exp->Exp)(x:Str)(b:Exp)(e:Exp):Exp:=
 if e.kind=4\/e.kind=6\/e.kind=7 then Cc S x b e else if e.kind=8 then .mk e.kind e.pos e.name e.num e.kids (e.arms.map (BB S x b)) e.ty else e
def refS:Nat->Exp->Str->Exp->Exp
 |0,e,_,_=>e
 |n+1,e,x,b=>if e.kind=1 then (if e.name=x then b else e) else
  AD (BT (refS n) x b e) ((BT (refS n) x b e).children.zipIdx.map fun p=>if x∈(BT (refS n) x b e).bound p.2 then p.1 else refS n p.1 x b)
def refC (n:Nat)(e:Exp)(x:Str)(b:Exp):List Exp:=e.children.zipIdx.map fun p=>if x∈e.bound p.2 then p.1 else refS n p.1 x b
@[simp] theorem refC_len (n:Nat) (e:Exp) (x:Str) (b:Exp):(refC n e x b).length=e.kids.length+e.arms.length:=by simp[refC]
theorem GZ {n:Nat}{e y:Exp}{x:Str}{b:Exp}{i:Nat}(h:e.children[i]?=some y):(refC n e x b)[i]?=some (if x∈e.bound i then y else refS n y x b):=by
 simp[refC,h]
theorem EV (n:Nat)(e:Exp)(x:Str)(b:Exp):refS (n+1) e x b=if e.kind=1 then (if e.name=x then b else e) else AD (BT (refS n) x b e) (refC n (BT (refS n) x b e) x b):=rfl
theorem R5 {S:Exp->Str->Exp->Exp}{x to con:Str}{vs:List Str}{e:Exp}(h:to∉vs):∀k,BU S x (varX to) con vs e k=(vs,e)
 |0=>rfl
 |k+1=>by
  rw[Hz,R5 h k];grind[EK,T7]
theorem ZcP {S:Exp->Str->Exp->Exp}{x to:Str}{e:Exp}(hw:e.wf)(h:to∉allP e):BT S x (varX to) e=e:=by
 unfold BT;by_cases h4:e.kind=4\/e.kind=6\/e.kind=7
 .rw [if_pos h4]
  unfold Cc;rw[if_pos];refine .inr (.inr fun q=>h ?_);have:=q.1;grind[T7,A1]
 .rw [if_neg h4]
  by_cases h8:e.kind=8
  .rw [if_pos h8]
   have hm:e.arms.map (BB S x (varX to))=e.arms:=by
    refine qH fun i=>?_;rw[qk];cases ha:e.arms[i]? with
    |none=>rfl
    |some a=>
     have hk1:=hw.one.1 h8;have hv:to∉a.1.vars:=fun q=>h (A1.2 (.inr ⟨e.kids.length+i,a.2,Ei ha,.inl (by
      grind[Bx])⟩))
     simp only[qv];unfold BB;rw[R5 hv];simp
   rw[hm];cases e;rfl
  grind
theorem JZ (f to:Str):∀(n:Nat) (e e':Exp),sameP e e'->e.weight<=n->shp e->to∉allP e->sameP (repl f to e) (refS n e' f (varX to))
 |0,e,_,_,h,_,_=>by have:=e.weight_pos;omega
 |n+1,e,e',h,hn,hs,ht=>by
  obtain⟨hh,hc⟩:=BA.1 h;obtain⟨h1,h2,h3,h4,h5,h6,h7⟩:=hh;have hs':=sameP.shp e e' h hs;rw[EV];by_cases hk:e.kind=1
  .rw [E3 hk,if_pos (h1.symm.trans hk),<-h2]
   by_cases hx:e.name=f
   .rw [if_pos hx,if_pos hx]
    obtain⟨a1,a2,a3⟩:=IP hs.one.1 hk;obtain⟨m,t⟩:=hs.one.2.1 hk;rw[hk,m,t,a1,a2];refine BA.2 ⟨⟨rfl,rfl,rfl,rfl,rfl,rfl,fun i p q hp=>by simp[Exp.arms]at hp⟩,fun i x y hx=>?_⟩;grind[Exp.children,Exp.kids,Exp.arms]
   grind
  .rw [EI hk,if_neg (fun q=>hk (h1.trans q)),ZcP hs'.wf (fun q=>ht ((Mx h to).2 q))]
   refine Lw (replC_len _ _ _) (refC_len _ _ _ _) ⟨h1,h2,h3,h4,h5,h6,h7⟩ fun i x y hx hy=>?_;obtain⟨x0,hx0⟩:=Ab (l:=e.children) (i:=i) (by rw[e.children_len,<-replC_len f to e];grind);obtain⟨y0,hy0,hxy⟩:=h.kid hx0;rw[Eh hx0]at hx;rw[GZ hy0,<-GE h]at hy;cases hx;cases hy;have hm:=qc hx0;by_cases hb:f∈e.bound i;grind
   .rw [if_neg hb,if_neg hb]
    exact JZ f to n x0 y0 hxy (by have:=Exp.child_lt hm;omega) (hs.child hm) fun q=>ht (A1.2 (.inr ⟨i,x0,hx0,.inr q⟩))
def conV (e:Exp):Prop:=e.fold fun e l=>(∀a∈e.arms,∀k,a.1.con≠AK k)/\∀p∈l,p
theorem DU (e:Exp):conV e=((∀a∈e.arms,∀k,a.1.con≠AK k)/\∀x∈e.children,conV x):=by
 have:=Exp.fold_eq (fun e (l:List Prop)=>(∀a∈e.arms,∀k,a.1.con≠AK k)/\∀p∈l,p) e;unfold conV;rw[this];simp only[qU]
theorem conV.one {e:Exp}(h:conV e):∀a∈e.arms,∀k,a.1.con≠AK k:=by grind[DU]
theorem conV.child {e x:Exp}(h:conV e)(hx:x∈e.children):conV x:=by grind[DU]
theorem Vo (frm to:Str)(e:Exp):conV e->conV (repl frm to e):=by
 induction e using Exp.ind with
 |h e ih=>
  intro h;by_cases hk:e.kind=1
  .rw [E3 hk]
   split
   .rw [DU]
    exact⟨h.one,fun x hx=>h.child hx⟩
   omega
  .rw [EI hk,DU]
   obtain⟨_,_,h3,h4⟩:=B7 (replC_len frm to e);refine⟨fun a ha k=>?_,fun c hc=>?_⟩
   .obtain ⟨i,hi⟩:=qn.1 ha
    have:=h4 i;rw[hi]at this;cases hq:e.arms[i]? with
    |none=>grind
    |some q=>
     rw[hq]at this;simp only[qv,qd]at this;rw[this];exact h.one q (qc hq) k
   .rw [h3] at hc
    obtain⟨i,hi⟩:=qn.1 hc;obtain⟨x,hx⟩:=Ab (l:=e.children) (i:=i) (by have:=(qf.1 hi).1;simp_all);rw[Eh hx]at hi;cases hi;have hm:=qc hx;split
    .exact h.child hm
    .exact ih x hm (h.child hm)
theorem SA {x:Str}{free vs:List Str}{b:Exp}(h:conV b):∀k,conV (BN x free vs b k).2
 |0=>h
 |k+1=>by
  rw[Hi];have:=SA (x:=x) (free:=free) (vs:=vs) h k;grind[Ef,Vo]
theorem Tl {x:Str}{free:List Str}{e:Exp}(hs:shp e)(h:conV e):∀y∈(Bf x free e).children,conV y:=by
 unfold Bf;by_cases h4:e.kind=4\/e.kind=6\/e.kind=7
 .rw [if_pos h4]
  obtain⟨ha,hc⟩:=Ew oz hs.one;unfold CX;split
  .exact fun y hy=>h.child hy
  .intro y hy
   rw[BD,ha]at hy;simp only[qX,qK,qJ]at hy;obtain⟨⟨z,i⟩,hz,rfl⟩:=hy;have hm:z∈e.children:=(by grind);simp only;split
   .exact h.child hm
   .exact Vo _ _ _ (h.child hm)
 .rw [if_neg h4]
  by_cases h8:e.kind=8
  .rw [if_pos h8]
   intro y hy;rw[BD]at hy;rcases qp.1 hy with hy|hy
   .exact h.child (AE hy)
   .obtain ⟨a,ha,rfl⟩:=qJ.1 hy
    obtain⟨p,hp,rfl⟩:=qJ.1 ha;unfold armP;split
    .exact h.child (Bp hp)
    .exact SA (h.child (Bp hp)) _
  .rw [if_neg h8]
   exact fun y hy=>h.child hy
theorem RS {n:Nat}{x con:Str}{b:Exp}{vs:List Str}{e e':Exp}(hcon:∀k,con≠AK k)(hi:inj vs)(hx:x∉vs)(hs:shp e)(hp:properP e)(hw:e.weight<=n)(h:sameP e e'):
 ∀k,k<=vs.length->(BN x (Ad b) vs e k).1=(BU (refS n) x b con vs e' k).1/\sameP (BN x (Ad b) vs e k).2 (BU (refS n) x b con vs e' k).2
 |0,_=>⟨rfl,h⟩
 |k+1,hk=>by
  obtain⟨g1,g2⟩:=RS (b:=b) hcon hi hx hs hp hw h k oz;have ho:=GV (free:=Ad b) hi hx hs hp k oz;rw[Hi,Hz];generalize BN x (Ad b) vs e k=p at *
  generalize BU (refS n) x b con vs e' k=q at *
  obtain⟨v1,e1⟩:=p;obtain⟨v2,e2⟩:=q;simp only at g1 g2 ho;subst g1;obtain⟨v,hv⟩:=Ab (l:=v1) (i:=k) (by rw[ho.len];exact hk);have hdrop:v∉v1.drop (k+1):=by
   intro hm;obtain⟨j,hj⟩:=qn.1 hm;rw[qah]at hj;have:=ho.inj k _ v hv hj;omega
  unfold Ef EK;simp only[hv];by_cases hh:v∈Ad b/\x∈Ad e1
  .have hto:Au 0 (allP e1++v1++Ad b++[x])=newA x con b (v1,e2):=by
    refine Ma (fun j=>?_) 0;have ha:AK j∈allP e1↔AK j∈An e2:=by
     rw[La e2 (IF j) (sameP.shp e1 e2 g2 ho.shape).wf];exact Mx g2 _
    grind
   rw[if_neg (show ¬(v∈v1.drop (k+1)\/¬hitP x (Ad b) v [e1])from fun q=>q.elim hdrop fun q=>q ⟨hh.1,e1,by simp,hh.2⟩),if_pos ⟨hh.1,(Ii g2 x).1 hh.2⟩];have hf:=Ds 0 (allP e1++v1++Ad b++[x]);rw[hto]at hf |-;simp only[qp,not_or]at hf;exact⟨rfl,JZ v _ n e1 e2 g2 (by rw[ho.weight];exact hw) ho.shape hf.1.1.1⟩
  grind[hitP,Ii]
theorem ZdD {n:Nat}{x:Str}{b e e':Exp}(h:sameP e e')(hs:shp e)(hp:properP e)(hc:conV e)(hn:e.weight<=n+1):sameP (Bf x (Ad b) e) (BT (refS n) x b e'):=by
 have hs':=sameP.shp e e' h hs;obtain⟨⟨h1,h2,h3,h4,h5,h6,h7⟩,h8⟩:=BA.1 h;unfold Bf BT;by_cases hb:e.kind=4\/e.kind=6\/e.kind=7
 .rw [if_pos hb,if_pos (h1▸hb)]
  obtain⟨ha,hch⟩:=Ew oz hs.one;obtain⟨ha',hch'⟩:=Ew (e:=e') oz hs'.one;have hsc:AC e'=AC e:=by unfold AC;rw[h1]
  have hkid:∀(i:Nat) k,e.kids[i]?=some k->∃k',e'.kids[i]?=some k'/\sameP k k':=fun i k hk=>by
   grind
  have hhit:hitP x (Ad b) e'.name (e'.kids.drop (AC e))↔hitP x (Ad b) e.name (e.kids.drop (AC e)):=by
   unfold hitP;rw[h2];refine and_congr_right fun _=>⟨?_,?_⟩
   .rintro ⟨k',hk',hf⟩
    obtain⟨j,hj⟩:=qn.1 hk';rw[qah]at hj;obtain⟨k,hk⟩:=Ab (l:=e.kids) (i:=AC e+j) (by grind);obtain⟨k2,hk2,hsm⟩:=hkid _ k hk;rw[hj]at hk2;cases hk2;exact⟨k,qc (i:=j) (by grind),(Ii hsm x).2 hf⟩
   .rintro ⟨k,hk,hf⟩
    obtain⟨j,hj⟩:=qn.1 hk;rw[qah]at hj;obtain⟨k2,hk2,hsm⟩:=hkid _ k hj;exact⟨k2,qc (i:=j) (by grind),(Ii hsm x).1 hf⟩
  unfold CX Cc;have hcond:(e'.name=x\/e'.kids.length<=AC e'\/¬hitP x (Ad b) e'.name (e'.kids.drop (AC e')))↔(e.name=x\/e.kids.length<=AC e\/¬hitP x (Ad b) e.name (e.kids.drop (AC e))):=by grind
  by_cases hcn:e.name=x\/e.kids.length<=AC e\/¬hitP x (Ad b) e.name (e.kids.drop (AC e));grind
  .rw [if_neg hcn,if_neg (fun q=>hcn (hcond.1 q)),hsc,<-h2]
   have hto:Au 0 (allP e++Ad b++[x])=newR x b e':=by
    refine Ma (fun j=>?_) 0;have ha:AK j∈allP e↔AK j∈An e':=by
     rw[La e' (IF j) hs'.wf];exact Mx h _
    grind
   have hf:=Ds 0 (allP e++Ad b++[x]);rw[hto]at hf |-;simp only[qp,not_or]at hf;generalize newR x b e'=to at hf |-;refine BA.2 ⟨⟨h1,rfl,h3,h4,by grind[FE,List.length_zipIdx],h6,h7⟩,fun i y z hy hz=>?_⟩;rw[BD,ha,qX,qK,qk,qan]at hy;rw[BD,ha',qX,qK,qk,qan]at hz;cases hk:e.kids[i]? with
   |none=>grind
   |some k=>
    obtain⟨k',hk',hsm⟩:=hkid i k hk;rw[hk]at hy;rw[hk']at hz;simp only[qv,qaI,qd]at hy hz;subst hy;subst hz;have hm:k∈e.children:=(by grind);by_cases hi:i<AC e;grind
    .rw [if_neg hi,if_neg hi]
     exact JZ _ _ n k k' hsm (by have:=Exp.child_lt hm;omega) (hs.child hm) fun q=>hf.1.1 (A1.2 (.inr ⟨i,k,by grind,.inr q⟩))
 .rw [if_neg hb,if_neg (show ¬(e'.kind=4\/e'.kind=6\/e'.kind=7) by omega)]
  by_cases k8:e.kind=8
  .rw [if_pos k8,if_pos (h1.symm.trans k8)]
   have harm:∀(i:Nat) p q,e.arms[i]?=some p->e'.arms[i]?=some q->(armP x (Ad b) p).1.con=(BB (refS n) x b q).1.con/\(armP x (Ad b) p).1.vars=(BB (refS n) x b q).1.vars/\sameP (armP x (Ad b) p).2 (BB (refS n) x b q).2:=by
    intro i p q hp' hq;obtain⟨g1,g2⟩:=h7 i p q hp' hq;have hm:=Bp (qc hp');have hbs:sameP p.2 q.2:=h8 (e.kids.length+i) p.2 q.2 (Ei hp') (by grind[Ei]);have ha:=RS (n:=n) (x:=x) (con:=p.1.con) (b:=b) (e:=p.2) (e':=q.2) (hc.one p (qc hp')) (hp.one p (qc hp'));unfold armP BB;rw[<-g2];by_cases hx:x∈p.1.vars;grind
    .rw [if_neg hx,if_neg hx]
     have:=ha hx (hs.child hm) (hp.child hm) (by have:=Exp.child_lt hm;omega) hbs p.1.vars.length (qg _);grind
   refine BA.2 ⟨⟨h1,h2,h3,h4,h5,by grind[Dq],fun i p q hp' hq=>?_⟩,fun i y z hy hz=>?_⟩;grind[Dq]
   .rw [BD] at hy hz
    by_cases hi:i<e.kids.length
    .rw [qF hi] at hy
     rw[qF oz]at hz;refine h8 i y z ?_ ?_<;>grind[Exp.children]
    grind
  grind
theorem V9 (x:Str)(b:Exp):∀(n:Nat) (e e':Exp),sameP e e'->e.weight<=n->shp e->properP e->conV e->sameP (subN n e x b) (refS n e' x b)
 |0,e,_,_,h,_,_,_=>by have:=e.weight_pos;omega
 |n+1,e,e',h,hn,hs,hp,hc=>by
  obtain⟨⟨h1,h2,_⟩,_⟩:=BA.1 h;rw[FW,EV];by_cases hk:e.kind=1;grind[B0]
  .rw [if_neg hk,if_neg (fun q=>hk (h1.trans q))]
   have hP:=Fy (x:=x) (b:=b) hs hp;have hC:=Tl (x:=x) (free:=Ad b) hs hc;have hS:=ZdD (n:=n) (x:=x) (b:=b) h hs hp hc hn;generalize Bf x (Ad b) e=d at *
   generalize BT (refS n) x b e'=d' at *
   refine Lw (subC_len _ _ _ _) (refC_len _ _ _ _) (BA.1 hS).1 fun i y z hy hz=>?_;obtain⟨x1,hx1⟩:=Ab (l:=d.children) (i:=i) (by rw[d.children_len,<-subC_len n d x b];grind);obtain⟨y1,hy1,hsm⟩:=hS.kid hx1;obtain⟨x0,hx0⟩:=Ab (l:=e.children) (i:=i) (by grind[Ed]);have hK:=hP.kids i x0 x1 hx0 hx1;rw[EG hx1]at hy;rw[GZ hy1,<-GE hS]at hz;cases hy;cases hz;by_cases hb:x∈d.bound i;grind
   .rw [if_neg hb,if_neg hb]
    exact V9 x b n x1 y1 hsm (by have:=Exp.child_lt (qc hx0);have:=hK.weight;omega) hK.shape hK.proper (hC x1 (qc hx1))
theorem ZaE (a:Exp):∀b,sameP a b->Aj a=Aj b:=by
 induction a using Exp.ind with
 |h a ih=>
  intro b h;obtain⟨⟨h1,h2,h3,h4,h5,h6,h7⟩,_⟩:=BA.1 h;have hc:a.children.map Aj=b.children.map Aj:=by
   refine qH fun i=>?_;rw[qk,qk];cases hx:a.children[i]? with
   |none=>
    have:b.children[i]?=none:=by
     have:=h.kids_len;rw[qaX]at hx |-;omega
    rw[this]
   |some x=>
    obtain⟨y,hy,hs⟩:=h.kid hx;rw[hy];simp only[qv,ih x (qc hx) y hs]
  rw[Eb,Eb,hc];unfold DF;rw[h1,h2,h3,h4,h5];congr 1;refine qH fun i=>?_;rw[qaq,qaq];cases hp:a.arms[i]? with
  |none=>
   have:b.arms[i]?=none:=(by rw[qaX]at hp |-;omega);rw[this]
  |some p=>
   obtain⟨q,hq⟩:=Ab (l:=b.arms) (i:=i) (by have:=(qf.1 hp).1;omega);rw[hq];obtain⟨g1,g2⟩:=h7 i p q hp hq;cases ((b.children.map Aj).drop b.kids.length)[i]? with
   |none=>rfl
   |some c=>simp only[g1,g2]
theorem ZaA {x:Str}{free:List Str}{e:Exp}(hs:shp e)(h:conV e):∀a∈(Bf x free e).arms,∀k,a.1.con≠AK k:=by
 unfold Bf;by_cases h4:e.kind=4\/e.kind=6\/e.kind=7
 .rw [if_pos h4]
  unfold CX;split
  .exact h.one
  .exact h.one
 .rw [if_neg h4]
  by_cases h8:e.kind=8
  .rw [if_pos h8]
   intro a ha k;rw[Dq]at ha;obtain⟨p,hp,rfl⟩:=qJ.1 ha;have:=h.one p hp k;unfold armP;split
   .exact this
   .exact this
  .rw [if_neg h8]
   exact h.one
theorem Wh (x:Str)(b:Exp)(hb:conV b):∀(n:Nat) (e:Exp),e.weight<=n->shp e->properP e->conV e->conV (subN n e x b)
 |0,e,h,_,_,_=>by have:=e.weight_pos;omega
 |n+1,e,h,hs,hp,hc=>by
  rw[FW];by_cases hk:e.kind=1
  .rw [if_pos hk]
   split
   .exact hb
   .exact hc
  .rw [if_neg hk]
   have hP:=Fy (x:=x) (b:=b) hs hp;have hC:=Tl (x:=x) (free:=Ad b) hs hc;have hA:=ZaA (x:=x) (free:=Ad b) hs hc;generalize Bf x (Ad b) e=e' at *
   obtain⟨g1,g2,g3,g4⟩:=B7 (subC_len n e' x b);rw[DU];refine⟨fun a ha k=>?_,fun y hy=>?_⟩
   .obtain ⟨i,hi⟩:=qn.1 ha
    have:=g4 i;rw[hi]at this;cases hq:e'.arms[i]? with
    |none=>rw[hq]at this;simp at this
    |some q=>
     rw[hq]at this;simp only[qv,qd]at this;rw[this];exact hA q (qc hq) k
   .rw [g3] at hy
    obtain⟨i,hi⟩:=qn.1 hy;obtain⟨x1,h1⟩:=Ab (l:=e'.children) (i:=i) (by rw[e'.children_len,<-subC_len n e' x b];exact(qf.1 hi).1);obtain⟨x0,h0⟩:=Ab (l:=e.children) (i:=i) (by rw[<-Ed hP];exact(qf.1 h1).1);have hK:=hP.kids i x0 x1 h0 h1;rw[EG h1]at hi;cases hi;have hm:=qc h1;split
    .exact hC x1 hm
    .exact Wh x b hb n x1 (by have:=Exp.child_lt (qc h0);have:=hK.weight;omega) hK.shape hK.proper (hC x1 hm)
def Dy:Nat->Exp->List Exp->Exp×List Exp
 |0,e,l=>(e,l)
 |n+1,e,l=>if e.kind=5 then match e.kids with
  |[f,a]=>Dy n f (a::l)
  |_=>(e,l)
  else (e,l)
theorem Fu {α β:Type}{f:α×Nat->Nat}{g:β×Nat->Nat}:∀(l:List α) (m:List β) (k:Nat),l.length=m.length->
 (∀(i:Nat) x y,l[i]?=some x->m[i]?=some y->f (x,k+i)<=g (y,k+i))->((l.zipIdx k).map f).sum<=((m.zipIdx k).map g).sum
 |[],[],_,_,_=>qg _
 |[],_::_,_,h,_=>by simp
 |_::_,[],_,h,_=>by grind
 |a::l,b::m,k,h,hf=>by
  simp only[qaY,qt,qQ];have h1:=hf 0 a b rfl rfl;have h2:=Fu (f:=f) (g:=g) l m (k+1) (by grind) fun i x y hx hy=>by
   have:=hf (i+1) x y (by grind) (by grind);grind
  grind
theorem Vn {α:Type}{f g:α×Nat->Nat}{M:Nat}:∀(l:List α) (k:Nat),(∀(i:Nat) x,l[i]?=some x->f (x,k+i)<=g (x,k+i)*M)->((l.zipIdx k).map f).sum<=((l.zipIdx k).map g).sum*M
 |[],_,_=>by simp
 |a::l,k,hf=>by
  simp only[qaY,qt,qQ];have h1:=hf 0 a rfl;have h2:=Vn (f:=f) (g:=g) (M:=M) l (k+1) fun i x hx=>by
   have:=hf (i+1) x (by grind);grind
  grind
def asg (ρ:Str->Nat)(bs:List Str):Str->Nat:=fun s=>if s∈bs then 1 else ρ s
def wF (e:Exp)(l:List ((Str->Nat)->Nat))(ρ:Str->Nat):Nat:=if e.kind=1 then ρ e.name else 1+(e.arms.map fun a=>a.1.vars.length).sum+(l.zipIdx.map fun p=>p.1 (asg ρ (e.bound p.2))).sum
def wV (e:Exp):(Str->Nat)->Nat:=e.fold wF
theorem Fm {e:Exp}(h:e.kind=1)(ρ:Str->Nat):wV e ρ=ρ e.name:=by
 unfold wV;rw[Exp.fold_eq,wF,if_pos h]
theorem Ok {α β γ:Type}{f:α->β}{g:β×Nat->γ}:∀(l:List α) (k:Nat),((l.map f).zipIdx k).map g=(l.zipIdx k).map fun p=>g (f p.1,p.2)
 |[],_=>rfl
 |a::l,k=>by simp only[qt,qaY,Ok l (k+1)]
theorem Gs {e:Exp}(h:e.kind≠1)(ρ:Str->Nat):wV e ρ=1+(e.arms.map fun a=>a.1.vars.length).sum+(e.children.zipIdx.map fun p=>wV p.1 (asg ρ (e.bound p.2))).sum:=by
 unfold wV;rw[Exp.fold_eq,wF,if_neg h,Ok]
theorem Qe (e:Exp):∀(ρ σ:Str->Nat),(∀s∈Ad e,ρ s<=σ s)->wV e ρ<=wV e σ:=by
 induction e using Exp.ind with
 |h e ih=>
  intro ρ σ h;by_cases hk:e.kind=1;grind[Fm,CI]
  .rw [Gs hk,Gs hk]
   refine Nat.add_le_add_left (Fu _ _ 0 rfl fun i x y hx hy=>?_) _;rw[hx]at hy;cases hy;refine ih x (qc hx) _ _ fun s hs=>?_;grind[asg,B8]
theorem Oi (e:Exp):(e.children.map Exp.weight).sum=(e.children.zipIdx.map fun p=>p.1.weight).sum:=by
 congr 1;refine qH fun i=>?_;grind
theorem OA {M:Nat}(hM:1<=M)(e:Exp):∀(ρ:Str->Nat),(∀s∈Ad e,ρ s<=M)->wV e ρ<=e.weight*M:=by
 induction e using Exp.ind with
 |h e ih=>
  intro ρ h;have hw:=e.weight_pos;by_cases hk:e.kind=1;grind[Fm,qr,CI,qbh]
  .rw [Gs hk,e.weight_eq,Oi]
   have h1:=Vn (f:=fun p=>wV p.1 (asg ρ (e.bound p.2))) (g:=fun p:Exp×Nat=>p.1.weight) (M:=M) e.children 0 fun i x hx=>by
    grind[asg,B8]
   have h2:1+(e.arms.map fun a=>a.1.vars.length).sum<=(1+(e.arms.map fun a=>a.1.vars.length).sum)*M:=Nat.le_mul_of_pos_right _ hM;grind
theorem Oz (e:Exp):∀(ρ:Str->Nat),shp e->(∀s,1<=ρ s)->e.weight<=wV e ρ:=by
 induction e using Exp.ind with
 |h e ih=>
  intro ρ hs h;by_cases hk:e.kind=1
  .obtain ⟨a1,a2,_⟩:=IP hs.one.1 hk
   have:e.weight=1:=(by rw[e.weight_eq,Exp.children,a1,a2];rfl);grind[Fm]
  .rw [Gs hk,e.weight_eq,Oi]
   refine Nat.add_le_add_left (Fu _ _ 0 rfl fun i x y hx hy=>?_) _;rw[hx]at hy;cases hy;refine ih x (qc hx) _ (hs.child (qc hx)) fun s=>?_;grind[asg]
theorem Zcz (a:Exp):∀(c:Exp) (V:Rep) (ρ σ:Str->Nat),instR a c V->(∀s∈Ad a,∀d,V s d->wV d σ<=ρ s)->wV c σ<=wV a ρ:=by
 induction a using Exp.ind with
 |h a ih=>
  intro c V ρ σ h hv;by_cases hk:a.kind=1
  .rw [Fm hk]
   exact hv _ ((CI hk).2 rfl) _ (h.var hk)
  .obtain ⟨h1,h2,h3,h4⟩:=h.node hk
   have hl:c.children.length=a.children.length:=h1.children.symm;have hsum:=RC (e:=a) (e':=c) h1.2.2.2.2.symm fun i p q hp hq=>(h3 i p q hp hq).2;rw[Gs (show c.kind≠1 from fun q=>hk (h1.1.trans q)),Gs hk,hsum];refine Nat.add_le_add_left (Fu _ _ 0 hl fun i y x hy hx=>?_) _;refine ih x (qc hx) y _ _ _ (h4 i x y hx hy) fun s hs d hd=>?_;simp only[qaI];rcases hd with ⟨hb,t,ht,_,hvt⟩|⟨hb,hvd,hf⟩
   .rw [Fm hvt.1,hvt.2.1]
    grind[asg]
   .refine qr (Qe d _ σ fun u hu=>?_) (qr (hv s ((B8 hk).2 ⟨i,x,hx,hs,hb⟩) d hvd) ?_)<;>grind[asg]
theorem OO {x:Str}{b e:Exp}{n:Nat}(hb:shp b)(hn:e.weight<=n)(hs:shp e)(hp:properP e)(σ:Str->Nat):wV (subN n e x b) σ<=wV e (fun s=>if s=x then wV b σ else σ s):=by
 refine Zcz e _ _ _ σ (G1 x b hb n e hn hs hp) fun s _ d hd=>?_;unfold subV at hd;split at hd;grind
 .rename_i h
  rw[if_neg h,Fm hd.1,hd.2.1];simp
def okE (e:Exp):Prop:=shp e/\properP e/\conV e
def refP (e:Exp)(x:Str)(b:Exp):Exp:=refS e.weight e x b
def AJ (l:List (Str×Exp))(b:Exp):Exp:=l.foldl (fun e p=>subP e p.1 p.2) b
def Cr (l:List (Str×Exp))(b:Exp):Exp:=l.foldl (fun e p=>refP e p.1 p.2) b
theorem Ey (p:Str×Exp)(l:List (Str×Exp))(b:Exp):AJ (p::l) b=AJ l (subP b p.1 p.2):=rfl
theorem Zdn (p:Str×Exp)(l:List (Str×Exp))(b:Exp):Cr (p::l) b=Cr l (refP b p.1 p.2):=rfl
theorem Dw {x:Str}{e b:Exp}(he:okE e)(hb:okE b):okE (subP e x b):=
 ⟨QZ x b hb.1 e.weight e (qg _) he.1 he.2.1,RX x b hb.2.1 e.weight e (qg _) he.1 he.2.1,Wh x b hb.2.2 e.weight e (qg _) he.1 he.2.1 he.2.2⟩
theorem Lr {x:Str}{e e' b:Exp}(h:sameP e e')(he:okE e):sameP (subP e x b) (refP e' x b):=by
 unfold subP refP;rw[<-sameP.weight e e' h];exact V9 x b e.weight e e' h (qg _) he.1 he.2.1 he.2.2
theorem FS:∀(l:List (Str×Exp))(e e':Exp),sameP e e'->okE e->(∀p∈l,okE p.2)->sameP (AJ l e) (Cr l e')/\okE (AJ l e)
 |[],_,_,h,he,_=>⟨h,he⟩
 |p::l,e,e',h,he,hl=>by
  rw[Ey,Zdn];exact FS l _ _ (Lr h he) (Dw he (hl p sy)) fun q hq=>hl q (by grind)
def asgL (M:Nat)(l:List (Str×Exp)):Str->Nat:=fun s=>if ∃p∈l,p.1=s then M else 1
theorem RB {M:Nat}(hM:1<=M):∀(l:List (Str×Exp)) (e:Exp),okE e->(∀p∈l,okE p.2/\p.2.weight<=M/\∀q∈l,q.1∉Ad p.2)->wV (AJ l e) (fun _=>1)<=wV e (asgL M l)
 |[],e,_,_=>by
  refine Qe e _ _ fun s _=>?_;grind[asgL]
 |p::l,e,he,hl=>by
  obtain⟨h1,h2,h3⟩:=hl p sy;rw[Ey];refine qr (RB hM l _ (Dw he h1) fun q hq=>?_) ?_;grind
  .refine qr (OO h1.1 (qg _) he.1 he.2.1 _) (Qe e _ _ fun s _ => ?_)
   by_cases hs:s=p.1
   .rw [if_pos hs]
    have hr:asgL M (p::l) s=M:=(by unfold asgL;simp_all);rw[hr];have hw:=OA (qg 1) p.2 (asgL M l) fun u hu=>by
     grind[asgL]
    omega
   .rw [if_neg hs]
    unfold asgL;by_cases hq:∃q∈l,q.1=s;simp_all;grind
theorem DX (s:Str):okE (varX s):=by
 have hc:(varX s).children=[]:=rfl;have ha:(varX s).arms=[]:=rfl;refine⟨?_,?_,?_⟩
 .rw [DV,hc]
  exact⟨⟨⟨fun h=>absurd (show(1:Int)=8 from h) (by decide),fun _=>rfl,fun _=>rfl⟩,fun _=>⟨rfl,rfl⟩,rfl⟩,fun x hx=>by grind⟩
 grind[Em];grind[DU]
theorem Sl (s:Str):(varX s).weight=1:=by
 rfl
theorem Zdc {x t:Str}{e:Exp}(he:okE e):(subP e x (varX t)).weight<=e.weight:=by
 have h1:=Oz (subP e x (varX t)) (fun _=>1) (Dw he (DX t)).1 fun _=>qg _;have h2:=OO (x:=x) (b:=varX t) (e:=e) (n:=e.weight) (DX t).1 (qg _) he.1 he.2.1 fun _=>1;have h3:=OA (qg 1) e (fun s=>if s=x then wV (varX t) (fun _=>1) else 1) fun s _=>by
  rw[Fm (show(varX t).kind=1 from rfl)];simp
 grind[subP]
theorem Zed (a:Exp):∀b c,sameP a b->sameP b c->sameP a c:=by
 induction a using Exp.ind with
 |h a ih=>
  intro b c h1 h2;obtain⟨⟨a1,a2,a3,a4,a5,a6,a7⟩,a8⟩:=BA.1 h1;obtain⟨⟨b1,b2,b3,b4,b5,b6,b7⟩,b8⟩:=BA.1 h2;refine BA.2 ⟨⟨a1.trans b1,a2.trans b2,a3.trans b3,a4.trans b4,a5.trans b5,a6.trans b6,fun i p q hp hq=>?_⟩,fun i x z hx hz=>?_⟩
  .obtain ⟨r,hr⟩:=Ab (l:=b.arms) (i:=i) (by rw [<-a6];exact (qf.1 hp).1)
   exact⟨(a7 i p r hp hr).1.trans (b7 i r q hr hq).1,(a7 i p r hp hr).2.trans (b7 i r q hr hq).2⟩
  .obtain ⟨y,hy,hxy⟩:=h1.kid hx
   exact ih x (qc hx) y z hxy (b8 i y z hy hz)
theorem ZbH {S:Exp->Str->Exp->Exp}{x:Str}{b b':Exp}(hb:sameP b b')(e:Exp):BT S x b e=BT S x b' e:=by
 have hf:=fun u=>Ii hb u;have hn:∀y,newR x b y=newR x b' y:=fun y=>VD (fun s=>by simp only[qp,hf]) 0;have ha:∀con p,newA x con b p=newA x con b' p:=fun con p=>VD (fun s=>by simp only[qp,hf]) 0;have hh:∀nm l,hitP x (Ad b) nm l↔hitP x (Ad b') nm l:=fun nm l=>and_congr_left fun _=>hf nm;have hs:∀con p i,EK S x b con p i=EK S x b' con p i:=by
  intro con p i;unfold EK;cases p.1[i]? with
  |none=>rfl
  |some v=>
   simp only;by_cases q:v∈Ad b/\x∈Ad p.2
   .rw[if_pos q,if_pos ⟨(hf v).1 q.1,q.2⟩,ha]
   .rw[if_neg q,if_neg (fun r=>q ⟨(hf v).2 r.1,r.2⟩)]
 have ht:∀con vs y k,BU S x b con vs y k=BU S x b' con vs y k:=by
  intro con vs y k
  induction k with
  |zero=>rfl
  |succ k ih=>rw[Hz,Hz,ih,hs]
 unfold BT;by_cases h4:e.kind=4\/e.kind=6\/e.kind=7
 .rw [if_pos h4,if_pos h4]
  unfold Cc;by_cases q:e.name=x\/e.kids.length<=AC e\/¬hitP x (Ad b) e.name (e.kids.drop (AC e))
  .rw[if_pos q,if_pos (by rw[<-hh];exact q)]
  .rw[if_neg q,if_neg (by rw[<-hh];exact q),hn]
 .rw [if_neg h4,if_neg h4]
  by_cases h8:e.kind=8
  .rw [if_pos h8,if_pos h8]
   congr 1;refine qM fun a _=>?_;unfold BB;simp only[ht]
  .rw[if_neg h8,if_neg h8]
theorem TQ {b b':Exp}(hb:sameP b b'):∀(n:Nat) (e:Exp) (x:Str),sameP (refS n e x b) (refS n e x b')
 |0,e,_=>B0 e
 |n+1,e,x=>by
  rw[EV,EV];by_cases hk:e.kind=1
  .rw [if_pos hk,if_pos hk]
   split
   .exact hb
   .exact B0 e
  .rw [if_neg hk,if_neg hk,ZbH hb]
   generalize BT (refS n) x b' e=d;refine Lw (refC_len _ _ _ _) (refC_len _ _ _ _) ⟨rfl,rfl,rfl,rfl,rfl,rfl,fun i p q hp hq=>?_⟩ fun i y z hy hz=>?_
   .rw [hp] at hq
    cases hq;exact⟨rfl,rfl⟩
   .obtain ⟨c,hc⟩:=Ab (l:=d.children) (i:=i) (by rw [d.children_len,<-refC_len n d x b];exact (qf.1 hy).1)
    rw[GZ hc]at hy hz;cases hy;cases hz;split
    .exact B0 c
    .exact TQ hb n c x
theorem Zfb {x:Str}{e e' b b':Exp}(h:sameP e e')(hb:sameP b b')(he:okE e):sameP (subP e x b) (refP e' x b'):=
 Zed _ _ _ (Lr (x:=x) (b:=b) h he) (TQ hb _ _ _)
def Zw (e:Exp)(l:List (List Str)):List Str:=e.name::((e.arms.map fun a=>a.1.vars).flatten++l.flatten)
def Ai (e:Exp):List Str:=e.fold Zw
theorem Gq (e:Exp):Ai e=e.name::((e.arms.map fun a=>a.1.vars).flatten++(e.children.map Ai).flatten):=Exp.fold_eq _ e
theorem Zv (e:Exp){s:Str}(hs:s≠[]):s∈Ai e↔s∈An e:=by
 induction e using Exp.ind with
 |h e ih=>
  rw[Gq,UM,qG,qp];grind
theorem MO (e:Exp)(k:Nat):Au k (Ai e)=Au k (An e):=Ma (fun j=>Zv e (IF j)) k
def DW (T:List Str)(vars:List Str)(args:List Exp):List (Str×Exp):=
 (vars.zipIdx.map fun p=>(p.1,varX (Au p.2 T)))++args.zipIdx.map fun p=>(Au p.2 T,p.1)
theorem Zp {T T':List Str}(h:∀k,Au k T=Au k T')(vars:List Str)(args:List Exp):DW T vars args=DW T' vars args:=by
 grind[DW]
def JK (S:Exp->Str->Exp->Exp)(l:List (Str×Exp))(b:Exp):Exp:=l.foldl (fun e p=>S e p.1 p.2) b
def BY (S:Exp->Str->Exp->Exp)(T:Exp->List Str)(e:Exp)(con:Str)(args:List Exp):Option (Exp×Nat):=
 match e.arms.find? fun a=>a.1.con==con with
 |none=>none
 |some a=>if a.1.vars.length=args.length then some (JK S (DW (T e) a.1.vars args) a.2,4) else none
def Aq (S:Exp->Str->Exp->Exp)(T:Exp->List Str)(G:Exp->Exp->Exp):Nat->Exp->Option (Exp×Nat)
 |0,_=>none
 |n+1,e=>match e.kids with
  |[f,a]=>
   if e.kind=5 then
    if f.kind=4 then (match f.kids with | [k]=>some (S k f.name a,1) | _=>none)
    else (Aq S T G n f).map fun p=>(AD e (p.1::e.children.tail),p.2)
   else if e.kind=6 then some (S a e.name f,2)
   else if e.kind=7 then some (S a e.name (G e f),3) else none
  |[k]=>
   if e.kind=9 then some (k,5) else if e.kind=11 then some (k,6) else if e.kind=8 then
    if (Dy k.weight k []).1.kind=2 then BY S T e (Dy k.weight k []).1.name (Dy k.weight k []).2
    else (Aq S T G n k).map fun p=>(AD e (p.1::e.children.tail),p.2)
   else none
  |_=>none
def Iq (a b:Option (Exp×Nat)):Prop:=match a,b with
 |none,none=>True
 |some p,some q=>sameP p.1 q.1/\p.2=q.2
 |_,_=>False
theorem okE.child {e x:Exp}(h:okE e)(hx:x∈e.children):okE x:=⟨h.1.child hx,h.2.1.child hx,h.2.2.child hx⟩
theorem KK:∀(n:Nat)(e:Exp)(l:List Exp),okE e->(∀a∈l,okE a)->okE (Dy n e l).1/\∀a∈(Dy n e l).2,okE a
 |0,e,l,he,hl=>⟨he,hl⟩
 |n+1,e,l,he,hl=>by
  unfold Dy;split
  .split
   .rename_i f a hk
    have hf:f∈e.children:=AE (by grind);have ha:a∈e.children:=AE (by grind);refine KK n f (a::l) (he.child hf) fun b hb=>?_;rcases qG.1 hb with rfl|hb
    .exact he.child ha
    grind
   grind
  grind
theorem Wa {e:Exp}{a b:Option (Exp×Nat)}(hc:e.children≠[])(h:Iq a b):
 Iq (a.map fun p=>(AD e (p.1::e.children.tail),p.2)) (b.map fun p=>(AD e (p.1::e.children.tail),p.2)):=by
 cases a with
 |none=>
  cases b with
  |none=>trivial
  |some q=>exact h
 |some p=>
  cases b with
  |none=>exact h
  |some q=>
   obtain⟨h1,h2⟩:=h;have hl:∀y:Exp,(y::e.children.tail).length=e.kids.length+e.arms.length:=fun y=>by
    have:=e.children_len;cases hcc:e.children<;>grind
   refine⟨Lw (hl _) (hl _) ⟨rfl,rfl,rfl,rfl,rfl,rfl,fun i r s hr hs=>?_⟩ fun i y z hy hz=>?_,h2⟩<;>grind[B0]
theorem ZgN {e:Exp}{con:Str}{args:List Exp}(he:okE e)(ha:∀a∈args,okE a):Iq (BY subP Ai e con args) (BY refP An e con args):=by
 unfold BY;cases hf:e.arms.find? fun a=>a.1.con==con with
 |none=>trivial
 |some a=>
  simp only;by_cases hl:a.1.vars.length=args.length
  .rw [if_pos hl,if_pos hl,Zp (MO e)]
   have hm:=Bp (qaG hf);refine⟨(FS _ _ _ (B0 a.2) (he.child hm) fun p hp=>?_).1,rfl⟩;grind[DW,DX]
  .rw [if_neg hl,if_neg hl]
   trivial
theorem Mk {G G':Exp->Exp->Exp}{Q:Exp->Prop}(hQ:∀e x,Q e->x∈e.children->Q x)(hG:∀e f,Q e->e.kind=7->sameP (G e f) (G' e f)):∀(n:Nat) (e:Exp),okE e->Q e->Iq (Aq subP Ai G n e) (Aq refP An G' n e)
 |0,_,_,_=>trivial
 |n+1,e,he,hq=>by
  unfold Aq;split
  .rename_i f a hk
   have hf:f∈e.children:=AE (by grind);have ha:a∈e.children:=AE (by grind);have hne:e.children≠[]:=fun q=>by grind
   by_cases h5:e.kind=5
   .rw [if_pos h5,if_pos h5]
    by_cases h4:f.kind=4
    .rw [if_pos h4,if_pos h4]
     split
     .rename_i k hfk
      exact⟨Lr (B0 k) ((he.child hf).child (AE (by grind))),rfl⟩
     .trivial
    .rw [if_neg h4,if_neg h4]
     exact Wa hne (Mk hQ hG n f (he.child hf) (hQ e f hq hf))
   .rw [if_neg h5,if_neg h5]
    by_cases h6:e.kind=6
    .rw [if_pos h6,if_pos h6]
     exact⟨Lr (B0 a) (he.child ha),rfl⟩
    .rw [if_neg h6,if_neg h6]
     by_cases h7:e.kind=7
     .rw [if_pos h7,if_pos h7]
      exact⟨Zfb (B0 a) (hG e f hq h7) (he.child ha),rfl⟩
     .rw [if_neg h7,if_neg h7]
      trivial
  .rename_i k hk
   have hm:k∈e.children:=AE (by grind);have hne:e.children≠[]:=fun q=>by grind
   by_cases h9:e.kind=9
   .rw [if_pos h9,if_pos h9]
    exact⟨B0 k,rfl⟩
   .rw [if_neg h9,if_neg h9]
    by_cases h11:e.kind=11
    .rw [if_pos h11,if_pos h11]
     exact⟨B0 k,rfl⟩
    .rw [if_neg h11,if_neg h11]
     by_cases h8:e.kind=8
     .rw [if_pos h8,if_pos h8]
      by_cases h2:(Dy k.weight k []).1.kind=2
      .rw [if_pos h2,if_pos h2]
       exact ZgN he (KK _ k [] (he.child hm) sy).2
      .rw [if_neg h2,if_neg h2]
       exact Wa hne (Mk hQ hG n k (he.child hm) (hQ e k hq hm))
     .rw [if_neg h8,if_neg h8]
      trivial
  .trivial
theorem Ud {a b:Exp}(h:sameP a b){q:ArmH×Exp}(hq:q∈b.arms):∃p∈a.arms,p.1.con=q.1.con/\p.1.vars=q.1.vars:=by
 obtain⟨⟨_,_,_,_,_,h6,h7⟩,_⟩:=BA.1 h;obtain⟨i,hi⟩:=qn.1 hq;obtain⟨p,hp⟩:=Ab (l:=a.arms) (i:=i) (by rw[h6];exact(qf.1 hi).1);exact⟨p,qc hp,h7 i p q hp hi⟩
theorem RP (a:Exp):∀b,sameP a b->okE a->okE b:=by
 have key:∀b,sameP a b->properP a/\conV a->properP b/\conV b:=by
  induction a using Exp.ind with
  |h a ih=>
   intro b h ⟨hp,hc⟩;have hk:∀y∈b.children,properP y/\conV y:=by
    intro y hy;obtain⟨i,hi⟩:=qn.1 hy;obtain⟨x,hx⟩:=Ab (l:=a.children) (i:=i) (by rw[h.kids_len];exact(qf.1 hi).1);have hm:=qc hx;exact ih x hm y ((BA.1 h).2 i x y hx hi) ⟨hp.child hm,hc.child hm⟩
   rw[Em,DU];refine⟨⟨fun q hq=>?_,fun y hy=>(hk y hy).1⟩,fun q hq k=>?_,fun y hy=>(hk y hy).2⟩
   .obtain ⟨p,hp',g1,g2⟩:=Ud h hq
    rw[<-g2];exact hp.one p hp'
   .obtain ⟨p,hp',g1,g2⟩:=Ud h hq
    rw[<-g1];exact hc.one p hp' k
 exact fun b h he=>⟨sameP.shp a b h he.1,key b h he.2⟩
theorem KE (a:Exp):sameP a (Aj a):=by
 induction a using Exp.ind with
 |h a ih=>
  obtain⟨h1,h2,h3,h4,h5,h6,h7,h8⟩:=E4 a;refine BA.2 ⟨⟨h1.symm,h2.symm,h3.symm,h4.symm,h5.symm,h6.symm,fun i p q hp hq=>?_⟩,fun i x y hx hy=>?_⟩
  .rw [h8,hp] at hq
   cases hq;exact⟨rfl,rfl⟩
  .rw [h7,qk,hx] at hy
   cases hy;exact ih x (qc hx)
theorem Zer {e:Exp}(h:okE e):okE (Aj e):=RP e _ (KE e) h
theorem Ze2 {e:Exp}{cs:List Exp}(hl:cs.length=e.kids.length+e.arms.length)(hk:e.kind≠1)(he:okE e)(hc:∀c∈cs,okE c):okE (AD e cs):=by
 obtain⟨_,_,h3,h4⟩:=B7 hl;refine⟨OV hl hk he.1.one fun c h=>(hc c h).1,?_,?_⟩
 .rw [Em,h3]
  exact⟨P5 h4 he.2.1.one,fun c h=>(hc c h).2.1⟩
 .rw [DU,h3]
  refine⟨fun a ha k=>?_,fun c h=>(hc c h).2.2⟩;obtain⟨i,hi⟩:=qn.1 ha;have:=h4 i;rw[hi]at this;cases hq:e.arms[i]? with
  |none=>rw[hq]at this;simp at this
  |some q=>
   rw[hq]at this;simp only[qv,qd]at this;rw[this];exact he.2.2.one q (qc hq) k
theorem Wb {e:Exp}{o:Option (Exp×Nat)}{p:Exp×Nat}(hk:e.kind≠1)(he:okE e)(hc:e.children≠[])(ho:∀q,o=some q->okE q.1)(h:o.map (fun p=>(AD e (p.1::e.children.tail),p.2))=some p):okE p.1:=by
 obtain⟨q,hq,rfl⟩:=qu.1 h;refine Ze2 ?_ hk he fun c hcm=>?_
 .have:=e.children_len
  cases hcc:e.children with
  |nil=>exact absurd hcc hc
  |cons c l=>rw[hcc]at this;simpa using this
 .rcases qG.1 hcm with rfl|hcm
  .exact ho q hq
  .exact he.child (List.mem_of_mem_tail hcm)
theorem Zj {e:Exp}{con:Str}{args:List Exp}{p:Exp×Nat}(he:okE e)(ha:∀a∈args,okE a)(h:BY subP Ai e con args=some p):okE p.1:=by
 unfold BY at h;cases hf:e.arms.find? fun a=>a.1.con==con with
 |none=>rw[hf]at h;cases h
 |some a=>
  rw[hf]at h;simp only at h;split at h
  .cases h
   have hm:=Bp (qaG hf);refine(FS _ a.2 a.2 (B0 a.2) (he.child hm) fun q hq=>?_).2;unfold DW at hq;rcases qp.1 hq with hq|hq
   .obtain ⟨r,_,rfl⟩:=qJ.1 hq
    exact DX _
   .obtain ⟨⟨y,i⟩,hr,rfl⟩:=qJ.1 hq
    exact ha y (qc (qal.1 hr))
  .cases h
theorem IQ {G:Exp->Exp->Exp}(hG:∀e f,okE e->e.kind=7->f∈e.children->okE (G e f)):∀(n:Nat) (e:Exp) (p:Exp×Nat),okE e->Aq subP Ai G n e=some p->okE p.1
 |0,_,_,_,h=>by cases h
 |n+1,e,p,he,h=>by
  unfold Aq at h;split at h
  .rename_i f a hk
   have hf:f∈e.children:=AE (by rw[hk];simp);have ha:a∈e.children:=AE (by rw[hk];simp);have hne:e.children≠[]:=fun q=>by rw[q]at hf;simp at hf
   split at h
   .rename_i h5
    split at h
    .split at h
     .rename_i k hfk
      cases h;exact Dw ((he.child hf).child (AE (by rw[hfk];simp))) (he.child ha)
     .cases h
    .exact Wb oz he hne (fun q hq=>IQ hG n f q (he.child hf) hq) h
   .split at h
    .cases h
     exact Dw (he.child ha) (he.child hf)
    .split at h
     .rename_i h7
      cases h;exact Dw (he.child ha) (hG e f he h7 hf)
     .cases h
  .rename_i k hk
   have hm:k∈e.children:=AE (by rw[hk];simp);have hne:e.children≠[]:=fun q=>by rw[q]at hm;simp at hm
   split at h
   .cases h
    exact he.child hm
   .split at h
    .cases h
     exact he.child hm
    .split at h
     .rename_i h8
      split at h
      .exact Zj he (KK _ k [] (he.child hm) sy).2 h
      .exact Wb oz he hne (fun q hq=>IQ hG n k q (he.child hm) hq) h
     .cases h
  .cases h
def recZ (e:Exp):Prop:=e.fold fun e l=>(e.kind=7->e.num=0/\e.ty=tz)/\∀p∈l,p
theorem EB (e:Exp):recZ e=((e.kind=7->e.num=0/\e.ty=tz)/\∀x∈e.children,recZ x):=by
 have:=Exp.fold_eq (fun e (l:List Prop)=>(e.kind=7->e.num=0/\e.ty=tz)/\∀p∈l,p) e;unfold recZ;rw[this];simp only[qU]
theorem recZ.one {e:Exp}(h:recZ e):e.kind=7->e.num=0/\e.ty=tz:=by grind[EB]
theorem recZ.child {e x:Exp}(h:recZ e)(hx:x∈e.children):recZ x:=by grind[EB]
theorem isVar.recZ {s:Str}{c:Exp}(h:isVar s c):recZ c:=by
 obtain⟨k,_,_,ty,ks,am⟩:=h;grind[EB,Exp.children]
theorem instR.recZ (a:Exp):∀(c:Exp) (V:Rep),instR a c V->recZ a->(∀s d,V s d->recZ d)->recZ c:=by
 induction a using Exp.ind with
 |h a ih=>
  intro c V h ht hv;by_cases hk:a.kind=1
  .exact hv _ _ (h.var hk)
  .obtain ⟨h1,h2,h3,h4⟩:=h.node hk
   rw[EB];refine⟨fun q=>?_,fun y hy=>?_⟩
   .rw [<-h1.2.1,<-h1.2.2.1]
    exact ht.one (h1.1.trans q)
   .obtain ⟨i,hi⟩:=qn.1 hy
    obtain⟨x,hx⟩:=Ab (l:=a.children) (i:=i) (by rw[h1.children];grind);refine ih x (qc hx) y _ (h4 i x y hx hi) (ht.child (qc hx)) fun s d hd=>?_;rcases hd with ⟨_,t,_,_,hvv⟩|⟨_,q,_⟩
    .exact hvv.recZ
    grind
theorem KH {x:Str}{e b:Exp}(he:okE e)(hb:okE b)(h:recZ e)(hr:recZ b):recZ (subP e x b):=by
 refine instR.recZ e _ _ (G1 x b hb.1 e.weight e (qg _) he.1 he.2.1) h fun s d hd=>?_;unfold subV at hd;split at hd;grind
 .exact hd.recZ
theorem Zh6 (s:Str):recZ (varX s):=(show isVar s (varX s)from⟨rfl,rfl,rfl,rfl,rfl,rfl⟩).recZ
theorem ZaN (a:Exp):∀b,sameP a b->recZ a->recZ b:=by
 induction a using Exp.ind with
 |h a ih=>
  intro b h ha;obtain⟨⟨h1,h2,h3,h4,_⟩,h8⟩:=BA.1 h;rw[EB];refine⟨fun q=>?_,fun y hy=>?_⟩
  .rw [<-h3,<-h4]
   exact ha.one (h1.trans q)
  .obtain ⟨i,hi⟩:=qn.1 hy
   obtain⟨x,hx⟩:=Ab (l:=a.children) (i:=i) (by rw[h.kids_len];grind);have hm:=qc hx;exact ih x hm y (h8 i x y hx hi) (ha.child hm)
theorem ZfI {e:Exp}(h:recZ e):recZ (Aj e):=ZaN e _ (KE e) h
def AG (e f:Exp):Exp:=.mk e.kind e.pos e.name e.num [f,f] e.arms e.ty
def BS (e f:Exp):Exp:=.mk 7 0 e.name 0 [f,f] [] tz
theorem SZ {e f:Exp}(he:shp e)(h:recZ e)(hk:e.kind=7):sameP (AG e f) (BS e f):=by
 obtain⟨h1,h2⟩:=h.one hk;have ha:=he.one.1.2.1 (show ¬e.kind=8 by omega);unfold AG BS;rw[hk,h1,h2,ha];refine BA.2 ⟨⟨rfl,rfl,rfl,rfl,rfl,rfl,fun i p q hp=>by simp[Exp.arms]at hp⟩,fun i x y hx hy=>?_⟩;have hc:∀p nm nu ty,(Exp.mk 7 p nm nu [f,f] [] ty).children=[f,f]:=fun _ _ _ _=>rfl;grind[B0]
theorem Gc {e f:Exp}(he:okE e)(hk:e.kind=7)(hf:f∈e.children):okE (AG e f):=by
 have ha:=he.1.one.1.2.1 (show ¬e.kind=8 by omega);have hc:(AG e f).children=[f,f]:=by grind[AG,BD]
 have hm:∀y∈(AG e f).children,y=f:=fun y hy=>by grind
 have hfo:=he.child hf;have hr:(AG e f).arms=[]:=ha;refine⟨?_,?_,?_⟩
 .rw [DV]
  refine⟨⟨⟨fun q=>?_,fun _=>ha,fun q=>?_⟩,fun q=>?_,?_⟩,fun y hy=>(hm y hy)▸hfo.1⟩
  .exact absurd (show e.kind=8 from q) oz
  .exact absurd (show e.kind=1 from q) oz
  .exact absurd (show e.kind=1 from q) oz
  .have:=he.1.one.2.2
   show 2=DN e.kind;rw[hk];rfl
 .rw [Em,hr]
  exact⟨fun a h=>by grind,fun y hy=>(hm y hy)▸hfo.2.1⟩
 .rw [DU,hr]
  exact⟨fun a h=>by grind,fun y hy=>(hm y hy)▸hfo.2.2⟩
theorem Nq (n:Nat)(e:Exp)(he:okE e)(h:recZ e):Iq (Aq subP Ai AG n e) (Aq refP An BS n e):=
 Mk (Q:=fun e=>okE e/\recZ e) (fun _ _ q hx=>⟨q.1.child hx,q.2.child hx⟩) (fun _ _ q hk=>SZ q.1.1 q.2 hk) n e he ⟨he,h⟩
theorem Z1 {e:Exp}{cs:List Exp}(hl:cs.length=e.kids.length+e.arms.length)(he:recZ e)(hc:∀c∈cs,recZ c):recZ (AD e cs):=by
 rw[EB,(B7 hl).2.2.1];exact⟨he.one,hc⟩
theorem Zhp {e f:Exp}(he:okE e)(h:recZ e)(hk:e.kind=7)(hf:f∈e.children):recZ (AG e f):=by
 have ha:=he.1.one.1.2.1 (show ¬e.kind=8 by omega);have hc:(AG e f).children=[f,f]:=by grind[AG,BD]
 rw[EB,hc];exact⟨fun _=>h.one hk,fun y hy=>by
  have:y=f:=by grind
  exact this▸h.child hf⟩
theorem SS:∀(l:List (Str×Exp))(e:Exp),okE e->recZ e->(∀p∈l,okE p.2/\recZ p.2)->recZ (AJ l e)
 |[],_,_,h,_=>h
 |p::l,e,he,h,hl=>by
  obtain⟨h1,h2⟩:=hl p sy;rw[Ey];exact SS l _ (Dw he h1) (KH he h1 h h2) fun q hq=>hl q (by grind)
theorem Wi:∀(n:Nat)(e:Exp)(l:List Exp),recZ e->(∀a∈l,recZ a)->∀a∈(Dy n e l).2,recZ a
 |0,_,_,_,hl=>hl
 |n+1,e,l,he,hl=>by
  unfold Dy;split
  .split
   .rename_i f a hk
    have hf:f∈e.children:=AE (by grind);have ha:a∈e.children:=AE (by grind);refine Wi n f (a::l) (he.child hf) fun b hb=>?_;rcases qG.1 hb with rfl|hb
    .exact he.child ha
    grind
   omega
  omega
theorem Zff {e:Exp}{con:Str}{args:List Exp}{p:Exp×Nat}(he:okE e)(hr:recZ e)(ha:∀a∈args,okE a/\recZ a)(h:BY subP Ai e con args=some p):recZ p.1:=by
 unfold BY at h;cases hf:e.arms.find? fun a=>a.1.con==con with
 |none=>grind
 |some a=>
  rw[hf]at h;simp only at h;split at h
  .cases h
   have hm:=Bp (qaG hf);refine SS _ a.2 (he.child hm) (hr.child hm) fun q hq=>?_;grind[DW,DX,Zh6]
  grind
theorem UZ {e:Exp}{o:Option (Exp×Nat)}{p:Exp×Nat}(he:recZ e)(hc:e.children≠[])(ho:∀q,o=some q->recZ q.1)(h:o.map (fun p=>(AD e (p.1::e.children.tail),p.2))=some p):recZ p.1:=by
 obtain⟨q,hq,rfl⟩:=qu.1 h;refine Z1 ?_ he fun c hcm=>?_
 .have:=e.children_len
  cases hcc:e.children<;>grind
 .rcases qG.1 hcm with rfl|hcm
  grind
  .exact he.child (List.mem_of_mem_tail hcm)
theorem ND:∀(n:Nat)(e:Exp)(p:Exp×Nat),okE e->recZ e->Aq subP Ai AG n e=some p->recZ p.1
 |0,_,_,_,_,h=>by cases h
 |n+1,e,p,he,hr,h=>by
  unfold Aq at h;split at h
  .rename_i f a hk
   have hf:f∈e.children:=AE (by grind);have ha:a∈e.children:=AE (by grind);have hne:e.children≠[]:=fun q=>by grind
   split at h
   .split at h
    .split at h
     .rename_i k hfk
      cases h;have hkf:=AE (e:=f) (x:=k) (by grind);exact KH ((he.child hf).child hkf) (he.child ha) ((hr.child hf).child hkf) (hr.child ha)
     grind
    .exact UZ hr hne (fun q hq=>ND n f q (he.child hf) (hr.child hf) hq) h
   .split at h
    .cases h
     exact KH (he.child ha) (he.child hf) (hr.child ha) (hr.child hf)
    .split at h
     .rename_i h7
      cases h;exact KH (he.child ha) (Gc he h7 hf) (hr.child ha) (Zhp he hr h7 hf)
     grind
  .rename_i k hk
   have hm:k∈e.children:=AE (by grind);have hne:e.children≠[]:=fun q=>by grind
   split at h
   .cases h
    exact hr.child hm
   .split at h
    .cases h
     exact hr.child hm
    .split at h
     .split at h
      .have hs:=(KK k.weight k [] (he.child hm) sy).2
       have hs2:=Wi k.weight k [] (hr.child hm) sy;grind[Zff]
      .exact UZ hr hne (fun q hq=>ND n k q (he.child hm) (hr.child hm) hq) h
     grind
  grind
theorem Zbx (n:Nat)(e:Exp)(p:Exp×Nat)(he:okE e)(hr:recZ e)(h:Aq subP Ai AG n e=some p):okE (Aj p.1)/\recZ (Aj p.1):=
 ⟨Zer (IQ (fun _ _ q k hf=>Gc q k hf) n e p he h),ZfI (ND n e p he hr h)⟩
variable {A:Ag}
def Cz (e:Exp):Nat->List Str
 |0=>[e.name]
 |i+1=>Cz e i++(match e.children[i]? with | some x=>e.bound i++allP x | none=>[])
theorem L3 {e x:Exp}{i:Nat}(h:e.children[i]?=some x):Cz e (i+1)=Cz e i++e.bound i++allP x:=by
 simp only[Cz,h,qaj]
theorem Mv (e:Exp):Cz e e.children.length=allP e:=by
 have key:∀i,i<=e.children.length->Cz e i=e.name::(((e.children.map allP).zipIdx.take i).map fun p=>e.bound p.2++p.1).flatten:=by
  intro i
  induction i with
  |zero=>intro _;rfl
  |succ i ih=>
   intro hi;obtain⟨x,hx⟩:=Ab (l:=e.children) (i:=i) oz;have hz:((e.children.map allP).zipIdx)[i]?=some (allP x,i):=(by simp[hx]);rw[L3 hx,ih oz,AP hz];simp
 rw[key _ (qg _),qh sy,SD]
def EY (e:Exp):Nat->Nat
 |0=>0
 |i+1=>EY e i+(e.bound i).length
theorem Q2 (e:Exp)(hw:e.wf1)(hk:e.kind=8):∀i,i<=e.arms.length->EY e (i+1)<=((e.arms.take i).map fun a=>a.1.vars.length).sum
 |0,_=>by
  simp only[EY];rw[Bx,if_neg oz,if_neg oz];simp
 |i+1,hi=>by
  obtain⟨a,ha⟩:=Ab (l:=e.arms) (i:=i) oz;have h:=Q2 e hw hk i oz;have hb:(e.bound (i+1)).length=a.1.vars.length:=by
   rw[Bx,if_neg oz,if_pos ⟨hk,oz⟩,qbg,ha];rfl
  rw[EY,hb,AP ha];simp only[qai,qaF,qt,qX,qQ,qaJ];omega
theorem RZ (e:Exp)(hk:e.kind≠8):∀i,EY e i<=i
 |0=>qg _
 |i+1=>by
  have h:=RZ e hk i;simp only[EY];rcases Y7 hk i with hb|hb<;>rw[hb]<;>simp<;>omega
theorem FC (e:Exp):e.wf->(allP e).length+1<=2*e.weight:=by
 induction e using Exp.ind with
 |h e ih=>
  intro hw;have key:∀i,i<=e.children.length->(Cz e i).length+i<=1+EY e i+2*((e.children.take i).map Exp.weight).sum:=by
   intro i
   induction i with
   |zero=>intro _;simp[Cz,EY]
   |succ i ihi=>
    intro hi;obtain⟨x,hx⟩:=Ab (l:=e.children) (i:=i) oz;have h1:=ihi oz;have h2:=ih x (qc hx) (hw.child (qc hx));rw[L3 hx,AP hx];simp only[qz,qai,qaF,qt,qX,qQ,qaJ,EY];omega
  have h:=key _ (qg _);rw[Mv,qh (qg _)]at h;rw[e.weight_eq];by_cases hk:e.kind=8
  .have h1:=hw.one.1 hk
   have h2:=Q2 e hw.one hk e.arms.length (qg _);rw[qh (qg _)]at h2;rw[e.children_len,h1,qbe 1]at h;omega
  .have h2:=RZ e hk e.children.length
   omega
theorem XO {e:Exp}(hw:e.wf):∀i,i<=e.children.length->(Cz e i).length<=(allP e).length:=by
 intro i hi;rw[<-Mv];have:∀k,(Cz e i).length<=(Cz e (i+k)).length:=by
  intro k
  induction k with
  |zero=>exact qg _
  |succ k ih=>
   refine qr ih ?_;show _<=(Cz e (i+k)++_).length;rw[qz];omega
 have h:=this (e.children.length-i);rwa[show i+(e.children.length-i)=e.children.length by omega]at h
def nmL (e:Exp):Prop:=∀s∈allP e,s.length<=1000
theorem nmL.child {e x:Exp}{i:Nat}(h:nmL e)(hx:e.children[i]?=some x):nmL x:=fun s hs=>h s (A1.2 (.inr ⟨i,x,hx,.inr hs⟩))
theorem nmL.bound {e x:Exp}{i:Nat}(h:nmL e)(hx:e.children[i]?=some x):∀s∈e.bound i,s.length<=1000:=fun s hs=>h s (A1.2 (.inr ⟨i,x,hx,.inl hs⟩))
theorem Zac (frm to:Str)(e:Exp):∀s∈allP (repl frm to e),s∈allP e\/s=to:=by
 induction e using Exp.ind with
 |h e ih=>
  intro s hs;by_cases hk:e.kind=1
  .rw [E3 hk] at hs
   by_cases hf:e.name=frm
   .rw [if_pos hf] at hs
    rcases A1.1 hs with h|⟨i,x,hx,h⟩
    .exact .inr h
    .refine .inl (A1.2 (.inr ⟨i,x,hx,h.imp (fun h => ?_) id⟩))
     rw[EZ,if_neg oz]at h;rw[Bx,if_neg oz];exact h
   .rw [if_neg hf] at hs
    exact .inl hs
  .rw [EI hk] at hs
   rcases A1.1 hs with h|⟨i,y,hy,h⟩
   .exact .inl (A1.2 (.inl h))
   .rw [(B7 (replC_len frm to e)).2.2.1] at hy
    rw[Ir (replC_len frm to e)]at h;obtain⟨x,hx⟩:=Ab (l:=e.children) (i:=i) (by have:=(qf.1 hy).1;rw[replC_len,<-e.children_len]at this;exact this);rw[Eh hx]at hy;cases hy;rcases h with h|h
    .exact .inl (A1.2 (.inr ⟨i,x,hx,.inl h⟩))
    .split at h
     .exact .inl (A1.2 (.inr ⟨i,x,hx,.inr h⟩))
     .exact(ih x (qc hx) s h).imp (fun h=>A1.2 (.inr ⟨i,x,hx,.inr h⟩)) id
theorem PT {frm to:Str}{e:Exp}(h:nmL e)(ht:to.length<=1000):nmL (repl frm to e):=fun s hs=>(Zac frm to e s hs).elim (h s) fun q=>q▸ht
theorem GO (n:Nat)(taken:List Str)(h:n+taken.length<=687194767360):(Au n taken).length<=1000:=by
 have h1:=JB n taken;have h2:=GY (AS n taken) 13 oz oz;unfold Au AK;rw[qI];omega
theorem Ub (taken:List Str)(ht:taken.length<=618475290624)(hs:∀s∈taken,s.length<=1000):(K A).call 241 [AA taken] []=some (strV (Au 0 taken),[]):=by
 refine fnO v241 ?_;have h:=Qj (A:=A) 0 0 oz oz taken oz ht (fun s h=>by have:=hs s h;omega);unfold v241;simp(maxSteps:=9^7) (disch:=try exact zd) [h,-getElem?_pos]
theorem Ro (e:Exp):e.wf->e.weight<=584115552256->(K A).call 242 [expV e] []=some (.sc (.arr 0 (allP e).length),[.arr 1 (wr (Ak (allP e))) 0]):=by
 induction e using Exp.ind with
 |h e ih=>
 intro hwf hl;refine fnO v242 ?_;have hle:=e.children_le;rw[e.children_len]at hle;have hpl:=FC e hwf;have hend:=Mv e;by_cases hkids:e.kids=[]
 .have harms:e.arms=[]:=qO fun h=>by
   have h8:e.kind=8:=qO fun h8=>h (hwf.one.2.1 h8);have:=hwf.one.1 h8;rw[hkids]at this;simp at this
  have hc:=D8 (A:=A) e hkids harms;have hch:e.children=[]:=by simp[Exp.children,hkids,harms]
  rw[hch]at hend;simp only[qZ,Cz]at hend;rw[<-hend];have hr:wr (Ak [e.name])=[[W.c (.str e.name)]]:=rfl;unfold v242;simp(maxSteps:=9^7) (disch:=try exact zd) [hc,hr,-getElem?_pos];refine Am (fun i=>⟨[(1,.sc (.ptr 64 0)),(3,.sc (.arr 320 1)),(10,.sc (.full [])),(11,intV 0),(12,intV i)],[(64,some (.box (wc e.row))),(320,some (.arr 1 [[W.c (.str e.name)]] 0))]⟩) 0 ?_ (fun i hi=>by omega) ?_
  .simp
  .unfold Kp
   simp(maxSteps:=9^7) (disch:=try exact zd) [hr,-getElem?_pos]
 .have hc:=Ch (A:=A) e hkids oz
  rw[e.children_len]at hc hend;have h0:Cz e 0=[e.name]:=rfl;have hr:wr (Ak [e.name])=[[W.c (.str e.name)]]:=rfl;unfold v242;simp(maxSteps:=9^7) (disch:=try exact zd) [hc,-getElem?_pos];refine Am (fun i=>⟨[(1,.sc (.ptr 64 0)),(3,.sc (.arr 320 (Cz e i).length)),(10,.sc (.arr 544 (e.kids.length+e.arms.length))),(11,intV ((e.kids.length:Int)+e.arms.length)),(12,intV i)],
   [(64,some (.box (wc e.row))),(320,some (.arr 1 (wr (Ak (Cz e i))) 0)),(544,some (.arr 11 (wr (Exp.rows e.children)) 0))]⟩) (e.kids.length+e.arms.length) ?_ ?_ ?_
  .simp[h0,hr]
  .intro i hi
   have hi1:i<e.children.length:=(by rw[e.children_len];exact hi);obtain⟨x,hx⟩:=Ab hi1;have hm:=qc hx;have hrec:=ih x hm (hwf.child hm) (by have:=Exp.child_lt hm;omega);have hb:=ID (A:=A) e i hwf.one hi1 oz;have hs:=L3 hx;have hlen:=XO hwf (i+1) hi1;rw[hs]at hlen;rw[hs];simp only[qz]at hlen;have hi2:(i:Int)<(e.kids.length:Int)+e.arms.length:=oz;generalize Cz e i=ai at *
   generalize e.bound i=bi at *
   generalize allP x=ax at *
   unfold Kp;simp(maxSteps:=9^7) (disch:=try exact zd) [hi,hi2,hx,hb,hrec,qaE,-getElem?_pos]
  .rw [hend]
   unfold Kp;simp(maxSteps:=9^7) (disch:=try exact zd) [-getElem?_pos]
theorem Sn (frm to:Str)(e:Exp):e.wf->e.weight<=687194767360->(K A).call 243 [expV e,strV frm,strV to] []=some (expV (repl frm to e),[]):=by
 induction e using Exp.ind with
 |h e ih=>
 intro hwf hl;refine fnO v243 ?_;have hle:=e.children_le;rw[e.children_len]at hle;by_cases hk:e.kind=1
 .have hrow:wc (Exp.mk e.kind e.pos to e.num e.kids e.arms e.ty).row=[.c (.int .i64 e.kind),.c (.int .i64 e.pos),.c (.str to),.c (.int .i64 e.num),.c (.sl (Exp.rows e.kids)),.c (.sl (Exp.armRows e.arms)),.c (.int .i64 e.ty.kind),.c (.str e.ty.name),.c (.int .i64 e.ty.id),.c (.int .i64 e.ty.home),.c (.sl (Ty.rows e.ty.args))]:=by rw [Exp.row_eq];rfl
  have hrow0:wc e.row=[.c (.int .i64 e.kind),.c (.int .i64 e.pos),.c (.str e.name),.c (.int .i64 e.num),.c (.sl (Exp.rows e.kids)),.c (.sl (Exp.armRows e.arms)),.c (.int .i64 e.ty.kind),.c (.str e.ty.name),.c (.int .i64 e.ty.id),.c (.int .i64 e.ty.home),.c (.sl (Ty.rows e.ty.args))]:=by rw[Exp.row_eq];rfl
  rw[E3 hk];unfold v243;by_cases hf:e.name=frm
  .rw [if_pos hf]
   rw[hk]at hrow hrow0 |-;simp(maxSteps:=9^7) (disch:=try exact zd) [hk,hf,hrow,hrow0,-getElem?_pos]
  .rw [if_neg hf]
   simp(maxSteps:=9^7) (disch:=try exact zd) [hk,hf,-getElem?_pos]
 .rw [EI hk]
  have hCl:=replC_len frm to e;have hcg:=fun {i:Nat} {x:Exp} (h:e.children[i]?=some x)=>Eh (frm:=frm) (to:=to) h;have hw:=Gn (A:=A) e (C3 frm to e) hCl oz;by_cases hkids:e.kids=[]
  .have harms:e.arms=[]:=qO fun h=>by
    have h8:e.kind=8:=qO fun h8=>h (hwf.one.2.1 h8);have:=hwf.one.1 h8;rw[hkids]at this;simp at this
   have hc:=D8 (A:=A) e hkids harms;have hC0:C3 frm to e=[]:=qS.1 (by rw[hCl,hkids,harms];rfl);rw[hC0]at hw |-;have hr1:Exp.rows []=[]:=(by rw[Exp.rows]);have hr2:Exp.armRows []=[]:=(by rw[Exp.armRows]);have hz:Av [] []=[]:=rfl
   have hrow:wc (AD e []).row=[.c (.int .i64 e.kind),.c (.int .i64 e.pos),.c (.str e.name),.c (.int .i64 e.num),.c (.sl []),.c (.sl []),.c (.int .i64 e.ty.kind),.c (.str e.ty.name),.c (.int .i64 e.ty.id),.c (.int .i64 e.ty.home),.c (.sl (Ty.rows e.ty.args))]:=by
    rw[Exp.row_eq];simp[AD,harms,Av,hr1,hr2,Exp.kind,Exp.pos,Exp.name,Exp.num,Exp.kids,Exp.arms,Exp.ty,wc]
   simp only[exsV,hr1,hkids,harms,qZ,List.take_nil,List.drop_nil,hz,hr2]at hw;unfold v243;simp(maxSteps:=9^7) (disch:=try exact zd) [hk,hc,-getElem?_pos];refine Am (fun i=>⟨[(1,strV frm),(2,strV to),(3,.sc (.ptr 64 0)),(6,.sc (.ptr 128 0)),(7,.sc (.full [])),(22,.sc (.full [])),(23,intV 0),(24,intV i)],[(64,some (.box (wc e.row))),(128,some B4)]⟩) 0 ?_ (fun i hi=>by omega) ?_
   .simp
   .unfold KL
    simp(maxSteps:=9^7) (disch:=try exact zd) [hw,hrow,-getElem?_pos]
  .have hc:=Ch (A:=A) e hkids oz
   rw[e.children_len]at hc;have hC2:(C3 frm to e).length=e.children.length:=(by rw[hCl,e.children_len]);have hkl:((C3 frm to e).take e.kids.length).length=e.kids.length:=(by rw[qR,hCl];omega);have hal:(Av e.arms ((C3 frm to e).drop e.kids.length)).length=e.arms.length:=(by rw[armsW_len,qab,hCl];omega)
   have hrow:wc (AD e (C3 frm to e)).row=[.c (.int .i64 e.kind),.c (.int .i64 e.pos),.c (.str e.name),.c (.int .i64 e.num),.c (.sl (Exp.rows ((C3 frm to e).take e.kids.length))),.c (.sl (Exp.armRows (Av e.arms ((C3 frm to e).drop e.kids.length)))),.c (.int .i64 e.ty.kind),.c (.str e.ty.name),.c (.int .i64 e.ty.id),.c (.int .i64 e.ty.home),.c (.sl (Ty.rows e.ty.args))]:=(by rw[Exp.row_eq];rfl)
   generalize AD e (C3 frm to e)=we at *
   generalize C3 frm to e=cc at *
   unfold v243;simp(maxSteps:=9^7) (disch:=try exact zd) [hk,hc,-getElem?_pos];refine Am (fun i=>⟨[(1,strV frm),(2,strV to),(3,.sc (.ptr 64 0)),(6,.sc (.ptr 128 0)),(7,.sc (.arr 1056 (e.kids.length+e.arms.length))),(22,.sc (.arr 1056 (e.kids.length+e.arms.length))),(23,intV ((e.kids.length:Int)+e.arms.length)),(24,intV i)],
    [(64,some (.box (wc e.row))),(128,some B4),(1056,some (.arr 11 (wr (Exp.rows (cc.take i++e.children.drop i))) 0))]⟩) (e.kids.length+e.arms.length) ?_ ?_ ?_
   .simp
   .intro i hi
    have hi1:i<e.children.length:=(by rw[e.children_len];exact hi);obtain⟨x,hx⟩:=Ab hi1;have hm:=qc hx;have hrec:=ih x hm (hwf.child hm) (by have:=Exp.child_lt hm;omega);have hb:=ID (A:=A) e i hwf.one hi1 oz;have hbl:=qr (e.bound_le i) hl;have hco:=E5 (A:=A) (e.bound i) frm oz;have hcx:=hcg hx;have hg:=CR (i:=i) hC2 hi1;rw[hx]at hg;have hst:=CN hC2 hcx;have hln:=CV (i:=i) hC2
    rw[e.children_len]at hln;have hi2:(i:Int)<(e.kids.length:Int)+e.arms.length:=oz;have hset:=fun y=>DH (cc.take i++e.children.drop i) i y;rw[<-hst];generalize cc.take i++e.children.drop i=zr at *
    unfold KL;by_cases hf:frm∈e.bound i
    .have hsame:zr.set i x=zr:=by
      refine qH fun m=>?_;rw[qaS];split
      .rename_i h
       subst h;rw[hg];split
       .rfl
       .omega
      .rfl
     rw[if_pos hf,hsame];simp(maxSteps:=9^7) (disch:=try exact zd) [hi,hi2,hg,hln,hb,hco,hf,Bz,-getElem?_pos]
    .rw [if_neg hf]
     simp(maxSteps:=9^7) (disch:=try exact zd) [hi,hi2,hg,hln,hb,hco,hf,hrec,hset,Bz,-getElem?_pos]
   .have htk:cc.take (e.kids.length+e.arms.length)++e.children.drop (e.kids.length+e.arms.length)=cc:=by
     rw[qae (by rw[e.children_len];omega),qK,qh oz]
    rw[htk];unfold KL;simp(maxSteps:=9^7) (disch:=try exact zd) [hw,hrow,hkl,hal,hCl,-getElem?_pos]
end Go.Vs.Tryz
namespace Go.Vs
open Go
section
variable {L:LO1}
@[simp] theorem toC_vw {d k N lo n:Nat}:W.toC L (d+1) (.vw k N lo n)=arrK (L k) fun _ rows _=>bif rows.length==N&&Nat.ble (lo+n) N then (Ae (Ae (W.toC L d)) ((rows.drop lo).take n)).map .sl else none:=by
 simp only[W.toC,arrK];cases L k with
 |none=>rfl
 |some o=>cases o<;>rfl
@[simp] theorem ids_vw {d k N lo n:Nat}:W.ids L (d+1) (.vw k N lo n)=k::(match L k with | some (.arr _ rows _)=>rows.flatMap (·.flatMap (W.ids L d)) | _=>[]):=rfl
end
theorem RA (rows:CC1)(i n:Nat)(h:n=rows.length):((wr rows).drop i).take (n-i)=wr (rows.drop i):=by
 subst h;unfold wr;rw[<-List.map_drop,qh sy]
end Go.Vs
namespace Go.Vs.Tryz
open Go Go.Vs
variable {A:Ag}
abbrev Bq (x:Str)(b:Exp)(free:List Str):List W:=[.c (.str x),.c (.int .i64 b.kind),.c (.int .i64 b.pos),.c (.str b.name),.c (.int .i64 b.num),.c (.sl (Exp.rows b.kids)),.c (.sl (Exp.armRows b.arms)),.c (.int .i64 b.ty.kind),.c (.str b.ty.name),.c (.int .i64 b.ty.id),.c (.int .i64 b.ty.home),.c (.sl (Ty.rows b.ty.args)),.c (.sl (Ak free))]
theorem Z7 (x:Str)(b:Exp)(free:List Str)(e:Exp)(hw:e.wf)(hl:e.weight<=687194767360):(K A).call 258 [expV e,.sc (.ptr 0 0)] [.box (Bq x b free)]=some (Ac (decide (x∈Ad e)),[.box (Bq x b free)]):=by
 refine fnO v258 ?_;have h1:=Vh (A:=A) e hw hl;have h2:=E5 (A:=A) (Ad e) x (by have:=D4 e;omega);unfold v258;simp(disch:=try exact zd) [h1,h2]
theorem Zan (x:Str)(b:Exp)(free:List Str)(l:List Exp)(hn:l.length<=687194767360)(hw:∀e∈l,e.wf/\e.weight<=687194767360):
 ∃r,(∃z:Int,(0<=z↔∃e∈l,x∈Ad e)/\r=(intV z,[Obj.box (Bq x b free)]))/\(K A).call 148 [exsV l,.sc (.clo 258 [true] [[.ptr 0 0]])] [.box (Bq x b free)]=some r:=by
 refine fnE v148 ?_;unfold v148;simp(disch:=try exact zd);refine Al (fun i s=>(∀(j:Nat) e,j<i->l[j]?=some e->x∉Ad e)/\s=⟨[(0,exsV l),(1,.sc (.clo 258 [true] [[.ptr 0 0]])),(7,intV l.length),(8,intV i)],[(0,some (.box (Bq x b free)))]⟩) l.length ⟨oz,by simp⟩ ?_ ?_
 .rintro i s hi ⟨hs,rfl⟩
  obtain⟨e,he⟩:=Ab hi;have hm:=qc he;have hc:=Z7 (A:=A) x b free e (hw e hm).1 (hw e hm).2;unfold H0;by_cases hx:x∈Ad e
  .simp (maxSteps:=9^7) (disch:=try exact zd) [hi,he,hc,hx,-getElem?_pos]
   exact⟨e,hm,hx⟩
  .simp (maxSteps:=9^7) (disch:=try exact zd) [hi,he,hc,hx,-getElem?_pos]
   intro j e' hj he';by_cases hji:j=i
   .subst hji
    rw[he]at he';cases he';exact hx
   .exact hs j e' oz he'
 .rintro s ⟨hs,rfl⟩
  unfold H0;simp(maxSteps:=9^7) (disch:=try exact zd);intro e he;obtain⟨j,hj⟩:=qn.1 he;exact hs j e (qf.1 hj).1 hj
theorem ZgS (x:Str)(b:Exp)(free:List Str)(l:List Exp)(hn:l.length<=687194767360)(hw:∀e∈l,e.wf/\e.weight<=687194767360):
 (K A).call 98 [exsV l,.sc (.clo 258 [true] [[.ptr 0 0]])] [.box (Bq x b free)]=some (Ac (decide (∃e∈l,x∈Ad e)),[.box (Bq x b free)]):=by
 refine fnO v98 ?_;obtain⟨_,⟨z,hz,rfl⟩,hc⟩:=Zan (A:=A) x b free l hn hw;have hd:decide (∃e∈l,x∈Ad e)=decide (0<=z):=by rw[decide_eq_decide];exact hz.symm
 rw[hd];unfold v98;simp(disch:=try exact zd) [hc]
theorem QH (x:Str)(b:Exp)(free:List Str)(n:Str)(l:List Exp)(hf:free.length<=1649267441664)(hn:l.length<=687194767360)(hw:∀e∈l,e.wf/\e.weight<=687194767360):
 (K A).call 240 [.ag (Bq x b free),strV n,exsV l] []=some (Ac (decide (hitP x free n l)),[]):=by
 refine fnO v240 ?_;have h1:=E5 (A:=A) free n hf;have h2:=ZgS (A:=A) x b free l hn hw;unfold v240;by_cases hm:n∈free
 .have hd:decide (hitP x free n l)=decide (∃e∈l,x∈Ad e):=by
   rw[decide_eq_decide];exact⟨fun h=>h.2,fun h=>⟨hm,h⟩⟩
  rw[hd];generalize decide (∃e∈l,x∈Ad e)=v at *
  simp(disch:=try exact zd) [h1,h2,hm]
 .have hd:decide (hitP x free n l)=false:=by
   rw[decide_eq_false_iff_not];exact fun h=>hm h.1
  rw[hd];simp(disch:=try exact zd) [h1,hm]
def Fk (x:Str)(free:List Str)(e:Exp):List Exp:=e.kids.zipIdx.map fun p=>if p.2<AC e then p.1 else repl e.name (Au 0 (allP e++free++[x])) p.1
theorem Zef (x:Str)(b:Exp)(free:List Str)(e:Exp)(hs:shp e)(hk:e.kind=4\/e.kind=6\/e.kind=7)(hl:e.weight<=100000000000)(hfl:free.length<=100000000000)(hn:nmL e)(hnf:∀s∈free,s.length<=1000)(hx:x.length<=1000):
 (K A).call 222 [.ag (Bq x b free),expV e] []=some (expV (CX x free e),[]):=by
 refine fnO v222 ?_;obtain⟨ha,hch⟩:=Ew oz hs.one;have hkl:AC e<e.kids.length/\e.kids.length<=2:=by
  have h:=hs.one.2.2;unfold DN at h;unfold AC;rcases hk with k|k|k
  .rw [if_neg oz,if_pos oz] at h
   rw[if_neg oz,h];decide
  .rw [if_pos oz] at h
   rw[if_pos oz,h];decide
  .rw [if_pos oz] at h
   rw[if_neg oz,h];decide
 obtain⟨hk1,hk2⟩:=hkl;have hkw:∀y∈e.kids,y.wf/\y.weight<=100000000000:=fun y hy=>⟨(hs.child (AE hy)).wf,by have:=Exp.child_lt (AE hy);omega⟩;have hkne:e.kids≠[]:=fun h=>by rw[h]at hk1;simp at hk1
 have hc:=V6 (A:=A) e.kids hkne oz;have hhit:=QH (A:=A) x b free e.name (e.kids.drop (AC e)) oz (by rw[qab];omega) (fun y hy=>by have:=hkw y (List.mem_of_mem_drop hy);exact⟨this.1,oz⟩);have hall:=Ro (A:=A) e hs.wf oz;have hal:=FC e hs.wf;have hfr:=Ub (A:=A) (allP e++free++[x]) (by simp;omega) (fun s h=>by
  simp only[qp,qo]at h;rcases h with (h|h)|h
  .exact hn s h
  .exact hnf s h
  .exact h▸hx)
 have hrow0:wc e.row=[.c (.int .i64 e.kind),.c (.int .i64 e.pos),.c (.str e.name),.c (.int .i64 e.num),.c (.sl (Exp.rows e.kids)),.c (.sl (Exp.armRows e.arms)),.c (.int .i64 e.ty.kind),.c (.str e.ty.name),.c (.int .i64 e.ty.id),.c (.int .i64 e.ty.home),.c (.sl (Ty.rows e.ty.args))]:=by rw[Exp.row_eq];rfl
 have hvw:∀i,((wr (Exp.rows e.kids)).drop i).take (e.kids.length-i)=wr (Exp.rows (e.kids.drop i)):=fun i=>by
  rw[RA _ _ _ sy,Exp.rows_map,Exp.rows_map,List.map_drop]
 have hbin:CX x free e=if e.name=x\/¬hitP x free e.name (e.kids.drop (AC e)) then e else .mk e.kind e.pos (Au 0 (allP e++free++[x])) e.num (Fk x free e) e.arms e.ty:=by
  unfold CX;by_cases h1:e.name=x
  .rw[if_pos (.inl h1),if_pos (.inl h1)]
  .by_cases h2:hitP x free e.name (e.kids.drop (AC e))
   .rw [if_neg (fun q=>q.elim h1 fun q=>q.elim (fun q=>by omega) fun q=>q h2),if_neg (fun q=>q.elim h1 fun q=>q h2)]
    rfl
   .rw[if_pos (.inr (.inr h2)),if_pos (.inr h2)]
 have hsc:(AC e:Int)=if e.kind=6 then 1 else 0:=by unfold AC;split<;>rfl
 have hge:¬(e.kids.length:Int)<=AC e:=oz
 have hKl:(Fk x free e).length=e.kids.length:=by simp[Fk]
 have hKg:∀(i:Nat) y,e.kids[i]?=some y->(Fk x free e)[i]?=some (if i<AC e then y else repl e.name (Au 0 (allP e++free++[x])) y):=fun i y h=>by simp[Fk,h]
 have hK0:(Fk x free e).take (AC e)++e.kids.drop (AC e)=e.kids:=by
  refine qH fun i=>?_;by_cases hi:i<AC e
  .obtain ⟨y,hy⟩:=Ab (l:=e.kids) (i:=i) oz
   rw[qF (by rw[qR];omega),qac,if_pos hi,hKg i y hy,if_pos hi,hy]
  .rw[qN (by rw[qR];omega),qR,qah,show AC e+(i-min (AC e) (Fk x free e).length)=i by omega]
 have hrowR:∀to ks,wc (Exp.mk e.kind e.pos to e.num ks e.arms e.ty).row=[.c (.int .i64 e.kind),.c (.int .i64 e.pos),.c (.str to),.c (.int .i64 e.num),.c (.sl (Exp.rows ks)),.c (.sl (Exp.armRows e.arms)),.c (.int .i64 e.ty.kind),.c (.str e.ty.name),.c (.int .i64 e.ty.id),.c (.int .i64 e.ty.home),.c (.sl (Ty.rows e.ty.args))]:=fun to ks=>by rw[Exp.row_eq];rfl
 rw[hbin];clear hbin;have hv0:=hvw 0;have hv1:=hvw 1;simp only[Nat.sub_zero,qbm]at hv0;generalize hS:AC e=sc at *
 unfold v222;refine D3 ⟨[(2,.sc (.ptr 64 0)),(3,.sc (.ptr 128 0)),(4,.sc (.ptr 192 0))],[(64,some (.box (Bq x b free))),(128,some (.box (wc e.row))),(192,some B4)]⟩ sy ?_
 refine D3 ⟨[(2,.sc (.ptr 64 0)),(3,.sc (.ptr 128 0)),(4,.sc (.ptr 192 0)),(5,.sc (.arr 416 e.kids.length))],[(64,some (.box (Bq x b free))),(128,some (.box (wc e.row))),(192,some B4),(416,some (.arr 11 (wr (Exp.rows e.kids)) 0))]⟩ (by simp(disch:=try exact zd) [hc]) ?_
 refine D3 ⟨[(2,.sc (.ptr 64 0)),(3,.sc (.ptr 128 0)),(4,.sc (.ptr 192 0)),(5,.sc (.arr 416 e.kids.length)),(6,intV 0)],[(64,some (.box (Bq x b free))),(128,some (.box (wc e.row))),(192,some B4),(416,some (.arr 11 (wr (Exp.rows e.kids)) 0))]⟩ sy ?_;by_cases h1:e.name=x
 .rw [if_pos (.inl h1)]
  subst h1;by_cases h6:e.kind=6
  .simp(disch:=try exact zd) [h6,hrow0]
  .simp(disch:=try exact zd) [h6,hrow0]
 .by_cases h2:hitP x free e.name (e.kids.drop sc)
  .rw [if_neg (fun q=>q.elim h1 fun q=>q h2)]
   refine To ⟨[(2,.sc (.ptr 64 0)),(3,.sc (.ptr 128 0)),(4,.sc (.ptr 192 0)),(5,.sc (.arr 416 e.kids.length)),(6,intV (sc:Int)),(35,Ac false)],[(64,some (.box (Bq x b free))),(128,some (.box (wc e.row))),(192,some B4),(416,some (.arr 11 (wr (Exp.rows e.kids)) 0))]⟩ (by
    by_cases h6:e.kind=6
    .rw [if_pos h6] at hsc
     have hsc1:sc=1:=oz;subst hsc1;have hg1:¬(e.kids.length:Int)<=1:=oz;have hsl:∀L:LO1,Bm L 11 (.sc (.arr 416 e.kids.length)) (some (.sc (.c (.int .i64 1)))) none none=arrK (L 416) fun s' rows _=>bif rows.length==e.kids.length&&s'==11 then some (.sc (.vw 416 e.kids.length 1 (e.kids.length-1)),[]) else none:=fun L=>slice_arr_from (i:=1) oz
     have hle1:1+(e.kids.length-1)=e.kids.length:=oz;simp(disch:=try exact zd) [h1,h2,h6,hg1,hsl,hle1,hkne,hhit,hv1,-List.drop_one]
    .rw [if_neg h6] at hsc
     have hsc0:sc=0:=oz;subst hsc0;rw[qbm]at hhit h2;have hsl:∀L:LO1,Bm L 11 (.sc (.arr 416 e.kids.length)) (some (.sc (.c (.int .i64 0)))) none none=arrK (L 416) fun s' rows _=>bif rows.length==e.kids.length&&s'==11 then some (.sc (.vw 416 e.kids.length 0 (e.kids.length-0)),[]) else none:=fun L=>slice_arr_from (i:=0) oz
     simp(maxSteps:=9^7) (disch:=try exact zd) [h1,h2,h6,hsl,hkne,hhit,hv0,-getElem?_pos]) ?_
   generalize allP e=ap at *
   generalize Au 0 (ap++free++[x])=to at *
   generalize Fk x free e=kr at *
   rw[qaj]at hfr;simp(maxSteps:=9^7) (disch:=try exact zd) [hall,hfr,qaE,-getElem?_pos]
   refine Am (fun j=>⟨[(3,.sc (.ptr 128 0)),(4,.sc (.ptr 192 0)),(5,.sc (.arr 416 e.kids.length)),(7,strV to),(8,intV ((sc+j:Nat):Int))],[(128,some (.box (wc e.row))),(192,some B4),(416,some (.arr 11 (wr (Exp.rows (kr.take (sc+j)++e.kids.drop (sc+j)))) 0)),(2400,some (.arr 1 (wr (Ak (ap++(free++[x])))) 0))]⟩) (e.kids.length-sc) ?_ ?_ ?_
   .simp[hK0]
   .intro j hj
    obtain⟨y,hy⟩:=Ab (l:=e.kids) (i:=sc+j) oz;have hyw:=hkw y (qc hy);have hz:=hKg (sc+j) y hy;rw[if_neg oz]at hz;have hg:=CR (i:=sc+j) hKl oz;rw[hy]at hg;have hst:=CN hKl hz;have hln:=CV (i:=sc+j) hKl;have hrep:=Sn (A:=A) e.name to y hyw.1 oz;rw[show sc+(j+1)=sc+j+1 from rfl,<-hst];generalize kr.take (sc+j)++e.kids.drop (sc+j)=zr at *
    have hset:=DH zr (sc+j) (repl e.name to y);have hlt:((sc+j:Nat):Int)<e.kids.length:=oz;have hltn:sc+j<e.kids.length:=oz;have hcast:((sc+j+1:Nat):Int)=((sc+j:Nat):Int)+1:=oz;rw[hcast];generalize sc+j=q at *
    unfold P2;simp(maxSteps:=9^7) (disch:=try exact zd) [hlt,hltn,hg,hln,hrep,hset,Bz,-getElem?_pos]
   .have htk:kr.take (sc+(e.kids.length-sc))++e.kids.drop (sc+(e.kids.length-sc))=kr:=by
     rw[show sc+(e.kids.length-sc)=e.kids.length by omega,qae oz,qK,qh oz]
    have hlt:¬((sc+(e.kids.length-sc):Nat):Int)<e.kids.length:=oz;rw[htk];generalize sc+(e.kids.length-sc)=q at *
    unfold P2;simp(disch:=try exact zd) [hlt,hrow0,hrowR,hKl,Bz]
  .rw [if_pos (.inr h2)]
   by_cases h6:e.kind=6
   .rw [if_pos h6] at hsc
    have hsc1:sc=1:=oz;subst hsc1;have hg1:¬(e.kids.length:Int)<=1:=oz;have hsl:∀L:LO1,Bm L 11 (.sc (.arr 416 e.kids.length)) (some (.sc (.c (.int .i64 1)))) none none=arrK (L 416) fun s' rows _=>bif rows.length==e.kids.length&&s'==11 then some (.sc (.vw 416 e.kids.length 1 (e.kids.length-1)),[]) else none:=fun L=>slice_arr_from (i:=1) oz
    have hle1:1+(e.kids.length-1)=e.kids.length:=oz;simp(disch:=try exact zd) [h1,h2,h6,hg1,hsl,hle1,hkne,hhit,hv1,-List.drop_one,hrow0]
   .rw [if_neg h6] at hsc
    have hsc0:sc=0:=oz;subst hsc0;rw[qbm]at hhit h2;have hsl:∀L:LO1,Bm L 11 (.sc (.arr 416 e.kids.length)) (some (.sc (.c (.int .i64 0)))) none none=arrK (L 416) fun s' rows _=>bif rows.length==e.kids.length&&s'==11 then some (.sc (.vw 416 e.kids.length 0 (e.kids.length-0)),[]) else none:=fun L=>slice_arr_from (i:=0) oz
    simp(disch:=try exact zd) [h1,h2,h6,hsl,hkne,hhit,hv0,hrow0]
variable {A:Ag}
theorem Jj {x:Str}{free vars:List Str}{b:Exp}(hn:inj vars)(hx:x∉vars)(hs:shp b)(hp:properP b)(hl:b.weight+vars.length+free.length<=300000000000)(hb:nmL b)(hv:∀s∈vars,s.length<=1000):
 ∀k,k<=vars.length->nmL (BN x free vars b k).2/\∀s∈(BN x free vars b k).1,s.length<=1000
 |0,_=>⟨hb,hv⟩
 |k+1,hk=>by
  obtain⟨h1,h2⟩:=Jj (free:=free) hn hx hs hp hl hb hv k oz;have ho:=GV (free:=free) hn hx hs hp k oz;rw[Hi];generalize BN x free vars b k=p at *
  obtain⟨vs,bk⟩:=p;simp only at *
  unfold Ef;simp only;cases hv2:vs[k]? with
  |none=>exact⟨h1,h2⟩
  |some v=>
   simp only;split
   .exact⟨h1,h2⟩
   .have hal:=FC bk ho.shape.wf
    have hf:=GO 0 (allP bk++vs++free++[x]) (by have:=ho.weight;have:=ho.len;simp;omega);refine⟨PT h1 hf,fun s hs=>?_⟩;rcases KV hs with hs|hs
    .exact h2 s hs
    .exact hs▸hf
theorem ZbS (x:Str)(b:Exp)(free:List Str)(a:ArmH×Exp)(hi:inj a.1.vars)(hs:shp a.2)(hp:properP a.2)(hl:a.2.weight+a.1.vars.length+free.length<=300000000000)(hn:nmL a.2)(hv:∀s∈a.1.vars,s.length<=1000)(hnf:∀s∈free,s.length<=1000)(hxl:x.length<=1000):
 (K A).call 224 [.ag (Bq x b free),armV a] []=some (armV (armP x free a),[]):=by
 refine fnO v224 ?_;have hc0:=E5 (A:=A) a.1.vars x oz;unfold armP;unfold v224;by_cases hx:x∈a.1.vars
 .rw [if_pos hx]
  have hrow:wc (Ax a)=[.c (.int .i64 a.1.pos),.c (.str a.1.con),.c (.sl (Ak a.1.vars)),.c (.int .i64 a.2.kind),.c (.int .i64 a.2.pos),.c (.str a.2.name),.c (.int .i64 a.2.num),.c (.sl (Exp.rows a.2.kids)),.c (.sl (Exp.armRows a.2.arms)),.c (.int .i64 a.2.ty.kind),.c (.str a.2.ty.name),.c (.int .i64 a.2.ty.id),.c (.int .i64 a.2.ty.home),.c (.sl (Ty.rows a.2.ty.args))]:=by rw[Ax,Exp.row_eq];rfl
  simp(maxSteps:=9^7) (disch:=try exact zd) [hc0,hx,hrow,-getElem?_pos]
 .rw [if_neg hx]
  have hok:=GV (free:=free) hi hx hs hp;have hnm:=Jj (free:=free) hi hx hs hp hl hn hv;have hst:=Hi x free a.1.vars a.2;have h0:BN x free a.1.vars a.2 0=(a.1.vars,a.2):=rfl;have hcl:=ZR (A:=A) a.1.vars oz;obtain⟨⟨ap,ac,vars⟩,ab⟩:=a;simp only at *
  have hsp0:splice (wc (Ax ((⟨ap,ac,vars⟩:ArmH),ab))) 2 [W.arr 864 vars.length]=some (W.c (.int .i64 ap)::W.c (.str ac)::W.arr 864 vars.length::wc ab.row):=by
   rw[Ax,Exp.row_eq ab];rfl
  have hcu2:∀y:Exp,cut (W.c (.int .i64 ap)::W.c (.str ac)::W.arr 864 vars.length::wc y.row) 2 1=some [W.arr 864 vars.length]:=by
   intro y;rw[Exp.row_eq y];rfl
  have hcu3:∀y:Exp,cut (W.c (.int .i64 ap)::W.c (.str ac)::W.arr 864 vars.length::wc y.row) 3 11=some (wc y.row):=by
   intro y;rw[Exp.row_eq y];rfl
  have hsp3:∀y z:Exp,splice (W.c (.int .i64 ap)::W.c (.str ac)::W.arr 864 vars.length::wc y.row) 3 (wc z.row)=some (W.c (.int .i64 ap)::W.c (.str ac)::W.arr 864 vars.length::wc z.row):=by
   intro y z;rw[Exp.row_eq y,Exp.row_eq z];rfl
  simp(maxSteps:=9^7) (disch:=try exact zd) [hc0,hx,hcl,hsp0,hcu2,-getElem?_pos];refine Am (fun k=>⟨[(2,.sc (.ptr 64 0)),(3,.sc (.ptr 128 0)),(4,.sc (.ptr 192 0)),(19,.sc (.arr 864 vars.length)),(20,intV vars.length),(21,intV k)],
   [(64,some (.box (Bq x b free))),(128,some (.box (W.c (.int .i64 ap)::W.c (.str ac)::W.arr 864 vars.length::wc (BN x free vars ab k).2.row))),(192,some (.box [zi,zs,.nil,zi,zi,zs,zi,.nil,.nil,zi,zs,zi,zi,.nil])),(864,some (.arr 1 (wr (Ak (BN x free vars ab k).1)) 0))]⟩) vars.length ?_ ?_ ?_
  .simp[h0]
  .intro k hk
   have ho:=hok k oz;obtain⟨hn1,hn2⟩:=hnm k oz;rw[hst k];generalize BN x free vars ab k=p at *
   obtain⟨vs,bk⟩:=p;simp only at *
   have hvl:=ho.len;have hw:=ho.weight;obtain⟨v,hvk⟩:=Ab (l:=vs) (i:=k) oz;have hct:=E5 (A:=A) (vs.drop (k+1)) v (by rw[qab];omega);have hhit:=QH (A:=A) x b free v [bk] oz sy (fun y hy=>by rw[qo.1 hy];exact⟨ho.shape.wf,oz⟩);have hex:Exp.rows [bk]=[bk.row]:=(by rw[Exp.rows,Exp.rows]);simp only[exsV,hex]at hhit;have hall:=Ro (A:=A) bk ho.shape.wf oz
   have hal:=FC bk ho.shape.wf;have hfr:=Ub (A:=A) (allP bk++vs++free++[x]) (by simp;omega) (fun s h=>by
    simp only[qp,qo]at h;rcases h with ((h|h)|h)|h
    .exact hn1 s h
    .exact hn2 s h
    .exact hnf s h
    .exact h▸hxl)
   have hkI:(k:Int)<vars.length:=oz;have hsl:∀L:LO1,Bm L 1 (.sc (.arr 864 vars.length)) (some (.sc (.c (.int .i64 ((k:Int)+1))))) none none=arrK (L 864) fun s' rows _=>bif rows.length==vars.length&&s'==1 then some (.sc (.vw 864 vars.length (k+1) (vars.length-(k+1))),[]) else none:=fun L=>slice_arr_from (i:=k+1) oz
   have hvw:((wr (Ak vs)).drop (k+1)).take (vars.length-(k+1))=wr (Ak (vs.drop (k+1))):=by
    rw[RA _ _ _ (by simp;omega)];simp[Ak]
   have hkle:k+1+(vars.length-(k+1))=vars.length:=oz;unfold Ef;simp only[hvk];have wbk:∀L d,Ae (W.toC L d) (wc bk.row)=some bk.row:=fun L d=>by simp
   unfold Og;by_cases hd:v∈vs.drop (k+1)
   .rw [if_pos (.inl hd)]
    simp(maxSteps:=9^7) (disch:=try exact zd) [hkI,hvk,hvl,hcu2,hsl,hvw,hkle,hct,hd,-getElem?_pos]
   .by_cases hh:hitP x free v [bk]
    .rw [if_neg (fun q=>q.elim hd fun q=>q hh)]
     have hrep:=fun to=>Sn (A:=A) v to bk ho.shape.wf oz;generalize allP bk=al at *
     generalize Au 0 (al++vs++free++[x])=to at *
     simp only[qaj]at hfr;have hset:=TN vs k to;simp(maxSteps:=9^7) (disch:=try exact zd) [hk,hkI,hvk,hvl,hcu2,hcu3,hsp3,hsl,hvw,hkle,hct,hd,hhit,hh,hall,hfr,hrep,hset,qaE,-getElem?_pos]
    .rw [if_pos (.inr hh)]
     simp(maxSteps:=9^7) (disch:=try exact zd) [hkI,hvk,hvl,hcu2,hcu3,hsl,hvw,hkle,hct,hd,hhit,hh,-getElem?_pos]
  .have ho:=hok vars.length (qg _)
   generalize BN x free vars ab vars.length=p at *
   obtain⟨vs,bk⟩:=p;simp only at *
   have hvl:=ho.len
   have hrow:wc (Ax ((⟨ap,ac,vs⟩:ArmH),bk))=[.c (.int .i64 ap),.c (.str ac),.c (.sl (Ak vs)),.c (.int .i64 bk.kind),.c (.int .i64 bk.pos),.c (.str bk.name),.c (.int .i64 bk.num),.c (.sl (Exp.rows bk.kids)),.c (.sl (Exp.armRows bk.arms)),.c (.int .i64 bk.ty.kind),.c (.str bk.ty.name),.c (.int .i64 bk.ty.id),.c (.int .i64 bk.ty.home),.c (.sl (Ty.rows bk.ty.args))]:=(by rw[Ax,Exp.row_eq];rfl)
   have hrowb:wc bk.row=[.c (.int .i64 bk.kind),.c (.int .i64 bk.pos),.c (.str bk.name),.c (.int .i64 bk.num),.c (.sl (Exp.rows bk.kids)),.c (.sl (Exp.armRows bk.arms)),.c (.int .i64 bk.ty.kind),.c (.str bk.ty.name),.c (.int .i64 bk.ty.id),.c (.int .i64 bk.ty.home),.c (.sl (Ty.rows bk.ty.args))]:=(by rw[Exp.row_eq];rfl);unfold Og;simp(maxSteps:=9^7) (disch:=try exact zd) [hrow,hrowb,hvl,-getElem?_pos]
variable {A:Ag}
theorem ZI {x:Str}{b e e':Exp}(h:PrepOk x b e e'):e'.weight=e.weight:=by
 rw[e'.weight_eq,e.weight_eq,h.sum];congr 2;refine qH fun i=>?_;rw[qk,qk];by_cases hi:i<e.children.length
 .obtain ⟨x0,h0⟩:=Ab hi
  obtain⟨x1,h1⟩:=Ab (l:=e'.children) (i:=i) (by rw[Ed h];exact hi);rw[h0,h1];simp only[qv,(h.kids i x0 x1 h0 h1).weight]
 .have h1:e'.children[i]?=none:=qap (by rw [Ed h];omega)
  have h2:e.children[i]?=none:=qap oz;rw[h1,h2]
theorem Zf7 {x:Str}{b e:Exp}(hs:shp e)(hp:properP e)(hn:nmL e)(hl:e.weight<=100000000000/\(Ad b).length<=100000000000):∀y∈(Bf x (Ad b) e).children,nmL y:=by
 intro y hy;obtain⟨i,hi⟩:=qn.1 hy;have hal:=FC e hs.wf;unfold Bf at hi;by_cases h:e.kind=4\/e.kind=6\/e.kind=7
 .rw [if_pos h] at hi
  obtain⟨ha,hc⟩:=Ew oz hs.one;unfold CX at hi;split at hi
  .exact hn.child hi
  .have hc':∀ to ks,(Exp.mk e.kind e.pos to e.num ks e.arms e.ty).children=ks:=fun to ks=>by rw [BD,ha];simp
   rw[hc']at hi;have hlt:=(qf.1 hi).1;simp only[qat,List.length_zipIdx]at hlt;obtain⟨z,hz⟩:=Ab hlt;simp only[qk,qan,hz,qv,qaI,qd]at hi;subst hi;have hnz:nmL z:=hn.child (i:=i) (by rw[hc];exact hz);split
   .exact hnz
   .exact PT hnz (GO _ _ (by simp;omega))
 .rw [if_neg h] at hi
  by_cases h8:e.kind=8
  .rw [if_pos h8,BD] at hi
   rcases qbo i e.kids.length with hk|hk
   .rw [qF hk] at hi
    exact hn.child (i:=i) (Qn hi)
   .rw [qN hk,qk] at hi
    obtain⟨q,hq,rfl⟩:=qu.1 hi;rw[qk]at hq;obtain⟨p,hp',rfl⟩:=qu.1 hq;have hm:=qc hp';have hnp:nmL p.2:=hn.child (Ei hp');have hvl:=Exp.vars_le hm;have hwl:=Exp.child_lt (Bp hm);unfold armP;split
    .exact hnp
    .rename_i hx
     refine(Jj (free:=Ad b) (hp.one p hm) hx (hs.child (Bp hm)) (hp.child (Bp hm)) oz hnp (fun s hs'=>?_) p.1.vars.length (qg _)).1;refine hn s (A1.2 (.inr ⟨e.kids.length+(i-e.kids.length),p.2,Ei hp',.inl ?_⟩));have hk1:=hs.one.1.1 h8;rw[Bx,if_neg oz,if_pos ⟨h8,oz⟩,hk1,show 1+(i-1)-1=i-1 by omega,<-hk1,hp'];exact hs'
  .rw [if_neg h8] at hi
   exact hn.child hi
theorem ZbT {l:List (ArmH×Exp)}(h:l≠[]):∃c rows,Exp.armRows l=c::rows:=by
 cases l with
 |nil=>exact absurd rfl h
 |cons e r=>obtain⟨a,b⟩:=e;exact⟨_,Exp.armRows r,by rw[Exp.armRows]⟩
theorem ZgR (l:List (ArmH×Exp))(hl:l.length<=549755813888):(K A).call 223 [SY l] []=some (.sc (.arr 0 l.length),[.arr 14 (wr (Exp.armRows l)) 0]):=by
 by_cases h:l=[]
 .subst h
  have hr:Exp.armRows []=[]:=by rw[Exp.armRows]
  rw[hr];exact QW (by kernel_rfl) (by kernel_rfl) (by kernel_rfl) (by kernel_rfl)
 .obtain ⟨c,rows,hr⟩:=ZbT h
  have hlen:rows.length+1=l.length:=by
   have:=Exp.armRows_len l;rw[hr]at this;simpa using this
  have hok:AZ 14 (wr (c::rows))=true:=hr▸okRows_arm l;have hp:SY l=V.sc (.c (.sl (c::rows))):=by rw[<-hr]
  rw[hr,hp,PC (by kernel_rfl) (by kernel_rfl)];refine PA (vf:=v223) (by kernel_rfl) rfl (by decide) ?_;unfold v223;rw[wr_cons]at hok;simp(disch:=try exact zd) [hok];omega
theorem BQ (e:Exp):wc e.row=[.c (.int .i64 e.kind),.c (.int .i64 e.pos),.c (.str e.name),.c (.int .i64 e.num),.c (.sl (Exp.rows e.kids)),.c (.sl (Exp.armRows e.arms)),.c (.int .i64 e.ty.kind),.c (.str e.ty.name),.c (.int .i64 e.ty.id),.c (.int .i64 e.ty.home),.c (.sl (Ty.rows e.ty.args))]:=by rw[Exp.row_eq];rfl
theorem JL (x:Str)(b:Exp)(free:List Str)(n:Nat)(e:Exp)(hw:e.wf1)(hl:e.weight<=200000000000)(hrec:∀y∈e.children,(K A).call 202 [.ag (Bq x b free),expV y] []=some (expV (subN n y x b),[])):
 wp (K A) (.loop FL) (fun ex s=>ex=.exit 3/\s=⟨[(2,.sc (.ptr 64 0)),(3,.sc (.ptr 128 0)),(4,.sc (.ptr 192 0)),(7,.sc (.arr 3680 (e.kids.length+e.arms.length))),(53,.sc (.arr 3680 (e.kids.length+e.arms.length))),(54,intV ((e.kids.length:Int)+e.arms.length)),(55,intV ((e.kids.length:Int)+e.arms.length)),(56,Ac false)],
     [(64,some (.box (Bq x b free))),(128,some (.box [.c (.int .i64 e.kind),.c (.int .i64 e.pos),.c (.str e.name),.c (.int .i64 e.num),.c (.sl (Exp.rows e.kids)),.c (.sl (Exp.armRows e.arms)),.c (.int .i64 e.ty.kind),.c (.str e.ty.name),.c (.int .i64 e.ty.id),.c (.int .i64 e.ty.home),.c (.sl (Ty.rows e.ty.args))])),(192,some B4),(3680,some (.arr 11 (wr (Exp.rows (subC n e x b))) 0))]⟩)
  ⟨[(2,.sc (.ptr 64 0)),(3,.sc (.ptr 128 0)),(4,.sc (.ptr 192 0)),(7,.sc (.arr 3680 (e.kids.length+e.arms.length))),(53,.sc (.arr 3680 (e.kids.length+e.arms.length))),(54,intV ((e.kids.length:Int)+e.arms.length)),(55,intV 0)],
    [(64,some (.box (Bq x b free))),(128,some (.box [.c (.int .i64 e.kind),.c (.int .i64 e.pos),.c (.str e.name),.c (.int .i64 e.num),.c (.sl (Exp.rows e.kids)),.c (.sl (Exp.armRows e.arms)),.c (.int .i64 e.ty.kind),.c (.str e.ty.name),.c (.int .i64 e.ty.id),.c (.int .i64 e.ty.home),.c (.sl (Ty.rows e.ty.args))])),(192,some B4),(3680,some (.arr 11 (wr (Exp.rows e.children)) 0))]⟩:=by
 have hle:=e.children_le;rw[e.children_len]at hle;have hCl:=subC_len n e x b;have hC2:(subC n e x b).length=e.children.length:=by rw[hCl,e.children_len]
 have hcg:=fun {i:Nat} {y:Exp} (h:e.children[i]?=some y)=>EG (n:=n) (x:=x) (b:=b) h;generalize subC n e x b=cc at *
 refine Am (fun i=>⟨[(2,.sc (.ptr 64 0)),(3,.sc (.ptr 128 0)),(4,.sc (.ptr 192 0)),(7,.sc (.arr 3680 (e.kids.length+e.arms.length))),(53,.sc (.arr 3680 (e.kids.length+e.arms.length))),(54,intV ((e.kids.length:Int)+e.arms.length)),(55,intV i)],
  [(64,some (.box (Bq x b free))),(128,some (.box [.c (.int .i64 e.kind),.c (.int .i64 e.pos),.c (.str e.name),.c (.int .i64 e.num),.c (.sl (Exp.rows e.kids)),.c (.sl (Exp.armRows e.arms)),.c (.int .i64 e.ty.kind),.c (.str e.ty.name),.c (.int .i64 e.ty.id),.c (.int .i64 e.ty.home),.c (.sl (Ty.rows e.ty.args))])),(192,some B4),(3680,some (.arr 11 (wr (Exp.rows (cc.take i++e.children.drop i))) 0))]⟩) (e.kids.length+e.arms.length) ?_ ?_ ?_
 .simp
 .intro i hi
  have hi1:i<e.children.length:=by rw[e.children_len];exact hi
  obtain⟨y,hy⟩:=Ab hi1;have hm:=qc hy;have hr:=hrec y hm;have hb:=ID (A:=A) e i hw hi1 oz;simp only[expV,BQ e]at hb;have hbl:=qr (e.bound_le i) hl;have hco:=E5 (A:=A) (e.bound i) x oz;have hcx:=hcg hy;have hg:=CR (i:=i) hC2 hi1;rw[hy]at hg;have hst:=CN hC2 hcx;have hln:=CV (i:=i) hC2;rw[e.children_len]at hln;have hi2:(i:Int)<(e.kids.length:Int)+e.arms.length:=oz
  have hset:=fun z=>DH (cc.take i++e.children.drop i) i z;rw[<-hst];generalize cc.take i++e.children.drop i=zr at *
  unfold FL;by_cases hf:x∈e.bound i
  .have hsame:zr.set i y=zr:=by
    refine qH fun m=>?_;rw[qaS];split
    .rename_i h
     subst h;rw[hg];split
     .rfl
     .omega
    .rfl
   rw[if_pos hf,hsame];simp(maxSteps:=9^7) (disch:=try exact zd) [hi,hi2,hg,hln,hb,hco,hf,Bz,-getElem?_pos]
  .rw [if_neg hf]
   simp(maxSteps:=9^7) (disch:=try exact zd) [hi,hi2,hg,hln,hb,hco,hf,hr,hset,Bz,-getElem?_pos]
 .have htk:cc.take (e.kids.length+e.arms.length)++e.children.drop (e.kids.length+e.arms.length)=cc:=by
   rw[qae (by rw[e.children_len];omega),qK,qh oz]
  rw[htk];unfold FL;simp(maxSteps:=9^7) (disch:=try exact zd) [-getElem?_pos]
theorem Zab (x:Str)(b:Exp)(free:List Str)(n:Nat)(e:Exp)(hw:e.wf1)(hl:e.weight<=200000000000)(hrec:∀y∈e.children,(K A).call 202 [.ag (Bq x b free),expV y] []=some (expV (subN n y x b),[])):
 wp (K A) (.loop FL) (fun ex s=>ex=.exit 3/\s=⟨[(2,.sc (.ptr 64 0)),(3,.sc (.ptr 128 0)),(4,.sc (.ptr 192 0)),(7,.sc (.arr 3680 (e.kids.length+e.arms.length))),(53,.sc (.arr 3680 (e.kids.length+e.arms.length))),(54,intV ((e.kids.length:Int)+e.arms.length)),(55,intV ((e.kids.length:Int)+e.arms.length)),(56,Ac false)],
     [(64,some (.box (Bq x b free))),(128,some (.box [.c (.int .i64 e.kind),.c (.int .i64 e.pos),.c (.str e.name),.c (.int .i64 e.num),.c (.sl (Exp.rows e.kids)),.arr 2080 e.arms.length,.c (.int .i64 e.ty.kind),.c (.str e.ty.name),.c (.int .i64 e.ty.id),.c (.int .i64 e.ty.home),.c (.sl (Ty.rows e.ty.args))])),(192,some B4),(2080,some (.arr 14 (wr (Exp.armRows e.arms)) e.arms.length)),(3680,some (.arr 11 (wr (Exp.rows (subC n e x b))) 0))]⟩)
  ⟨[(2,.sc (.ptr 64 0)),(3,.sc (.ptr 128 0)),(4,.sc (.ptr 192 0)),(7,.sc (.arr 3680 (e.kids.length+e.arms.length))),(53,.sc (.arr 3680 (e.kids.length+e.arms.length))),(54,intV ((e.kids.length:Int)+e.arms.length)),(55,intV 0)],
    [(64,some (.box (Bq x b free))),(128,some (.box [.c (.int .i64 e.kind),.c (.int .i64 e.pos),.c (.str e.name),.c (.int .i64 e.num),.c (.sl (Exp.rows e.kids)),.arr 2080 e.arms.length,.c (.int .i64 e.ty.kind),.c (.str e.ty.name),.c (.int .i64 e.ty.id),.c (.int .i64 e.ty.home),.c (.sl (Ty.rows e.ty.args))])),(192,some B4),(2080,some (.arr 14 (wr (Exp.armRows e.arms)) e.arms.length)),(3680,some (.arr 11 (wr (Exp.rows e.children)) 0))]⟩:=by
 have hle:=e.children_le;rw[e.children_len]at hle;have hCl:=subC_len n e x b;have hC2:(subC n e x b).length=e.children.length:=by rw[hCl,e.children_len]
 have hcg:=fun {i:Nat} {y:Exp} (h:e.children[i]?=some y)=>EG (n:=n) (x:=x) (b:=b) h;generalize subC n e x b=cc at *
 refine Am (fun i=>⟨[(2,.sc (.ptr 64 0)),(3,.sc (.ptr 128 0)),(4,.sc (.ptr 192 0)),(7,.sc (.arr 3680 (e.kids.length+e.arms.length))),(53,.sc (.arr 3680 (e.kids.length+e.arms.length))),(54,intV ((e.kids.length:Int)+e.arms.length)),(55,intV i)],
  [(64,some (.box (Bq x b free))),(128,some (.box [.c (.int .i64 e.kind),.c (.int .i64 e.pos),.c (.str e.name),.c (.int .i64 e.num),.c (.sl (Exp.rows e.kids)),.arr 2080 e.arms.length,.c (.int .i64 e.ty.kind),.c (.str e.ty.name),.c (.int .i64 e.ty.id),.c (.int .i64 e.ty.home),.c (.sl (Ty.rows e.ty.args))])),(192,some B4),(2080,some (.arr 14 (wr (Exp.armRows e.arms)) e.arms.length)),(3680,some (.arr 11 (wr (Exp.rows (cc.take i++e.children.drop i))) 0))]⟩) (e.kids.length+e.arms.length) ?_ ?_ ?_
 .simp
 .intro i hi
  have hi1:i<e.children.length:=by rw[e.children_len];exact hi
  obtain⟨y,hy⟩:=Ab hi1;have hm:=qc hy;have hr:=hrec y hm;have hb:=ID (A:=A) e i hw hi1 oz;simp only[expV,BQ e]at hb;have hbl:=qr (e.bound_le i) hl;have hco:=E5 (A:=A) (e.bound i) x oz;have hcx:=hcg hy;have hg:=CR (i:=i) hC2 hi1;rw[hy]at hg;have hst:=CN hC2 hcx;have hln:=CV (i:=i) hC2;rw[e.children_len]at hln;have hi2:(i:Int)<(e.kids.length:Int)+e.arms.length:=oz
  have hset:=fun z=>DH (cc.take i++e.children.drop i) i z;rw[<-hst];generalize cc.take i++e.children.drop i=zr at *
  unfold FL;by_cases hf:x∈e.bound i
  .have hsame:zr.set i y=zr:=by
    refine qH fun m=>?_;rw[qaS];split
    .rename_i h
     subst h;rw[hg];split
     .rfl
     .omega
    .rfl
   rw[if_pos hf,hsame];simp(maxSteps:=9^7) (disch:=try exact zd) [hi,hi2,hg,hln,hb,hco,hf,Bz,-getElem?_pos]
  .rw [if_neg hf]
   simp(maxSteps:=9^7) (disch:=try exact zd) [hi,hi2,hg,hln,hb,hco,hf,hr,hset,Bz,-getElem?_pos]
 .have htk:cc.take (e.kids.length+e.arms.length)++e.children.drop (e.kids.length+e.arms.length)=cc:=by
   rw[qae (by rw[e.children_len];omega),qK,qh oz]
  rw[htk];unfold FL;simp(maxSteps:=9^7) (disch:=try exact zd) [-getElem?_pos]
variable {A:Ag}
theorem UC (x:Str)(b:Exp)(hb:shp b)(hbl:(Ad b).length<=100000000000)(hbf:∀s∈Ad b,s.length<=1000)(hxl:x.length<=1000):∀(n:Nat) (e:Exp),e.weight<=n->e.weight<=100000000000->shp e->properP e->nmL e->
 (K A).call 202 [.ag (Bq x b (Ad b)),expV e] []=some (expV (subN n e x b),[])
 |0,e,h,_,_,_,_=>by have:=e.weight_pos;omega
 |n+1,e,hn,hl,hs,hp,hnm=>by
  refine fnO v202 ?_;rw[FW];by_cases hk:e.kind=1
  .rw [if_pos hk]
   have hrb:=BQ b;unfold v202;by_cases hx:e.name=x
   .rw [if_pos hx]
    simp(maxSteps:=9^7) (disch:=try exact zd) [hk,hx,hrb,-getElem?_pos]
   .rw [if_neg hx]
    simp(maxSteps:=9^7) (disch:=try exact zd) [hk,hx,-getElem?_pos]
  rw[if_neg hk];have hP:=Fy (x:=x) (b:=b) hs hp;have hW:=ZI hP;have hN:=Zf7 (x:=x) (b:=b) hs hp hnm oz;have hrec:∀y∈(Bf x (Ad b) e).children,(K A).call 202 [.ag (Bq x b (Ad b)),expV y] []=some (expV (subN n y x b),[]):=by
   intro y hy;obtain⟨i,hi⟩:=qn.1 hy;obtain⟨x0,h0⟩:=Ab (l:=e.children) (i:=i) (by rw[<-Ed hP];exact(qf.1 hi).1);have hK:=hP.kids i x0 y h0 hi;have h1:=Exp.child_lt (qc h0);have h2:=hK.weight;exact UC x b hb hbl hbf hxl n y oz oz hK.shape hK.proper (hN y hy)
  have hs1:=hP.head.shp1 hk hs.one;have hkk:=hP.head.1;have hkl:=hP.head.2.2.2.1;by_cases h4:e.kind=4\/e.kind=6\/e.kind=7
  .have hbd:=Zef (A:=A) x b (Ad b) e hs h4 oz oz hnm hbf hxl
   have hpe:Bf x (Ad b) e=CX x (Ad b) e:=(by unfold Bf;rw[if_pos h4]);rw[hpe]at hP hW hN hrec hs1 hkk hkl |-;have hne:(CX x (Ad b) e).kids≠[]:=by
    intro h;have h5:=hs.one.2.2;rw[h]at hkl;unfold DN at h5;simp only[qZ]at hkl;split at h5
    .omega
    .rw[if_pos oz]at h5;omega
   generalize CX x (Ad b) e=e' at *
   have hc:=Ch (A:=A) e' hne oz;rw[e'.children_len]at hc;have hCl:=subC_len n e' x b;have hw:=Gn (A:=A) e' (subC n e' x b) hCl oz;have hrow':=BQ e'
   have hrowW:wc (AD e' (subC n e' x b)).row=[.c (.int .i64 e'.kind),.c (.int .i64 e'.pos),.c (.str e'.name),.c (.int .i64 e'.num),.c (.sl (Exp.rows ((subC n e' x b).take e'.kids.length))),.c (.sl (Exp.armRows (Av e'.arms ((subC n e' x b).drop e'.kids.length)))),.c (.int .i64 e'.ty.kind),.c (.str e'.ty.name),.c (.int .i64 e'.ty.id),.c (.int .i64 e'.ty.home),.c (.sl (Ty.rows e'.ty.args))]:=(by rw[Exp.row_eq];rfl)
   have hkW:((subC n e' x b).take e'.kids.length).length=e'.kids.length:=(by rw[qR,hCl];omega);have haW:(Av e'.arms ((subC n e' x b).drop e'.kids.length)).length=e'.arms.length:=(by rw[armsW_len,qab,hCl];omega);simp only[expV,hrow']at hc hw;unfold v202;rcases h4 with h4|h4|h4
   .rw [h4] at hkk
    simp only[expV,hrow']at hbd;simp(maxSteps:=9^7) (disch:=try exact zd) [hk,h4,hbd,hc,-getElem?_pos];refine wp_mono (JL (A:=A) x b (Ad b) n e' hs1.1 oz hrec) ?_;rintro _ _ ⟨rfl,rfl⟩;simp(maxSteps:=9^7) (disch:=try exact zd) [hw,hrowW,hCl,hkW,haW,-getElem?_pos]
   .rw [h4] at hkk
    simp only[expV,hrow']at hbd;simp(maxSteps:=9^7) (disch:=try exact zd) [hk,h4,hbd,hc,-getElem?_pos];refine wp_mono (JL (A:=A) x b (Ad b) n e' hs1.1 oz hrec) ?_;rintro _ _ ⟨rfl,rfl⟩;simp(maxSteps:=9^7) (disch:=try exact zd) [hw,hrowW,hCl,hkW,haW,-getElem?_pos]
   .rw [h4] at hkk
    simp only[expV,hrow']at hbd;simp(maxSteps:=9^7) (disch:=try exact zd) [hk,h4,hbd,hc,-getElem?_pos];refine wp_mono (JL (A:=A) x b (Ad b) n e' hs1.1 oz hrec) ?_;rintro _ _ ⟨rfl,rfl⟩;simp(maxSteps:=9^7) (disch:=try exact zd) [hw,hrowW,hCl,hkW,haW,-getElem?_pos]
  .have hpe4:∀ y z:Exp,(if e.kind=4\/e.kind=6\/e.kind=7 then y else z)=z:=fun y z=>if_neg h4
   have k4:¬e.kind=4:=fun h=>h4 (.inl h);have k6:¬e.kind=6:=fun h=>h4 (.inr (.inl h));have k7:¬e.kind=7:=fun h=>h4 (.inr (.inr h));by_cases h8:e.kind=8
   .have hk1:=hs.one.1.1 h8
    have hpe:Bf x (Ad b) e=.mk e.kind e.pos e.name e.num e.kids (e.arms.map (armP x (Ad b))) e.ty:=(by unfold Bf;rw[if_neg h4,if_pos h8]);rw[hpe]at hP hW hN hrec hs1 hkk hkl |-;have hne:e.kids≠[]:=fun h=>by rw[h]at hk1;simp at hk1
    have hml:=e.children_le;rw[e.children_len]at hml;have harm:∀p∈e.arms,(K A).call 224 [.ag (Bq x b (Ad b)),armV p] []=some (armV (armP x (Ad b) p),[]):=by
     intro p hm;have h1:=Exp.vars_le hm;have h2:=Exp.child_lt (Bp hm);obtain⟨j,hj⟩:=qn.1 hm;refine ZbS x b (Ad b) p (hp.one p hm) (hs.child (Bp hm)) (hp.child (Bp hm)) oz (hnm.child (Ei hj)) (fun s hs'=>?_) hbf hxl;refine hnm s (A1.2 (.inr ⟨e.kids.length+j,p.2,Ei hj,.inl ?_⟩));rw[Bx,if_neg oz,if_pos ⟨h8,oz⟩,hk1,show 1+j-1=j by omega,hj];exact hs'
    have hcl:=ZgR (A:=A) e.arms oz;have hag:∀(i:Nat) p,e.arms[i]?=some p->(e.arms.map (armP x (Ad b)))[i]?=some (armP x (Ad b) p):=fun i p h=>by rw[qk,h];rfl
    have ham:(e.arms.map (armP x (Ad b))).length=e.arms.length:=(by simp);generalize e.arms.map (armP x (Ad b))=am at *
    obtain⟨e',he'⟩:∃e',e'=Exp.mk e.kind e.pos e.name e.num e.kids am e.ty:=⟨_,rfl⟩;have q1:e'.kids=e.kids:=(by rw[he'];rfl);have q2:e'.arms=am:=(by rw[he'];rfl);have q3:e'.kind=e.kind:=(by rw[he'];rfl);have q4:e'.pos=e.pos:=(by rw[he'];rfl);have q5:e'.name=e.name:=(by rw[he'];rfl);have q6:e'.num=e.num:=(by rw[he'];rfl);have q7:e'.ty=e.ty:=(by rw[he'];rfl);rw[<-he']at hP hW hN hrec hs1 hkk hkl |-
    have hc:=Ch (A:=A) e' (by rw[q1];exact hne) oz;rw[e'.children_len]at hc;have hCl:=subC_len n e' x b;have hw:=Gn (A:=A) e' (subC n e' x b) hCl oz;have hrow':=BQ e';have hrow0:=BQ e
    have hrowW:wc (AD e' (subC n e' x b)).row=[.c (.int .i64 e'.kind),.c (.int .i64 e'.pos),.c (.str e'.name),.c (.int .i64 e'.num),.c (.sl (Exp.rows ((subC n e' x b).take e'.kids.length))),.c (.sl (Exp.armRows (Av e'.arms ((subC n e' x b).drop e'.kids.length)))),.c (.int .i64 e'.ty.kind),.c (.str e'.ty.name),.c (.int .i64 e'.ty.id),.c (.int .i64 e'.ty.home),.c (.sl (Ty.rows e'.ty.args))]:=(by rw[Exp.row_eq];rfl)
    have hkW:((subC n e' x b).take e'.kids.length).length=e'.kids.length:=(by rw[qR,hCl];omega);have haW:(Av e'.arms ((subC n e' x b).drop e'.kids.length)).length=e'.arms.length:=(by rw[armsW_len,qab,hCl];omega);have hloop:=Zab (A:=A) x b (Ad b) n e' hs1.1 oz hrec;simp only[expV,hrow']at hc hw;simp only[q1,q2,q3,q4,q5,q6,q7,ham]at hc hw hrowW hkW haW hloop hCl;unfold v202
    simp(maxSteps:=9^7) (disch:=try exact zd) [hk,k4,k6,k7,h8,hrow0,hcl,-getElem?_pos];refine Am (fun i=>⟨[(2,.sc (.ptr 64 0)),(3,.sc (.ptr 128 0)),(4,.sc (.ptr 192 0)),(36,.sc (.arr 2080 e.arms.length)),(37,intV e.arms.length),(38,intV i)],
     [(64,some (.box (Bq x b (Ad b)))),(128,some (.box [.c (.int .i64 8),.c (.int .i64 e.pos),.c (.str e.name),.c (.int .i64 e.num),.c (.sl (Exp.rows e.kids)),.arr 2080 e.arms.length,.c (.int .i64 e.ty.kind),.c (.str e.ty.name),.c (.int .i64 e.ty.id),.c (.int .i64 e.ty.home),.c (.sl (Ty.rows e.ty.args))])),(192,some B4),
       (2080,some (.arr 14 (wr (Exp.armRows (am.take i++e.arms.drop i))) 0))]⟩) e.arms.length ?_ ?_ ?_
    .simp
    .intro i hi
     obtain⟨p,hp'⟩:=Ab hi;have hca:=harm p (qc hp');have hg:=CR (i:=i) ham hi;rw[hp']at hg;have hst:=CN ham (hag i p hp');have hln:=CV (i:=i) ham;have hset:=fun z=>Ft (am.take i++e.arms.drop i) i z;rw[<-hst];generalize am.take i++e.arms.drop i=zr at *
     have hsp:∀p q:ArmH×Exp,splice (wc (Ax p)) 0 (wc (Ax q))=some (wc (Ax q)):=fun p q=>by rw[Ax,Ax,Exp.row_eq p.2,Exp.row_eq q.2];rfl
     have hi2:(i:Int)<e.arms.length:=oz;unfold Kq;simp(maxSteps:=9^7) (disch:=try exact zd) [hi,hi2,hg,hln,hca,hsp,hset,Bz,-getElem?_pos]
    .have htk:am.take e.arms.length++e.arms.drop e.arms.length=am:=by
      rw[qax,qK,qh oz]
     rw[htk];rw[h8]at hc hw hrowW hloop;unfold Kq;simp(maxSteps:=9^7) (disch:=try exact zd) [hc,ham,q1,q2,-getElem?_pos];refine wp_mono hloop ?_;rintro _ _ ⟨rfl,rfl⟩;simp(maxSteps:=9^7) (disch:=try exact zd) [hw,hrowW,hCl,hkW,haW,ham,q1,q2,-getElem?_pos]
   .have hpe:Bf x (Ad b) e=e:=by unfold Bf;rw [if_neg h4,if_neg h8]
    rw[hpe]at hP hW hN hrec hs1 hkk hkl |-;by_cases hkids:e.kids=[]
    .have harms:e.arms=[]:=hs.one.1.2.1 h8
     have hc:=D8 (A:=A) e hkids harms;have hC0:subC n e x b=[]:=qS.1 (by rw[subC_len,hkids,harms];rfl);have hw:=Gn (A:=A) e [] (by rw[hkids,harms];rfl) oz;rw[hC0];have hr1:Exp.rows []=[]:=(by rw[Exp.rows]);have hr2:Exp.armRows []=[]:=(by rw[Exp.armRows]);have hz:Av [] []=[]:=rfl
     have hrow:wc (AD e []).row=[.c (.int .i64 e.kind),.c (.int .i64 e.pos),.c (.str e.name),.c (.int .i64 e.num),.c (.sl []),.c (.sl []),.c (.int .i64 e.ty.kind),.c (.str e.ty.name),.c (.int .i64 e.ty.id),.c (.int .i64 e.ty.home),.c (.sl (Ty.rows e.ty.args))]:=by
      rw[Exp.row_eq];simp[AD,harms,Av,hr1,hr2,Exp.kind,Exp.pos,Exp.name,Exp.num,Exp.kids,Exp.arms,Exp.ty,wc]
     simp only[exsV,hr1,hkids,harms,qZ,List.take_nil,List.drop_nil,hz,hr2]at hw;unfold v202;simp(maxSteps:=9^7) (disch:=try exact zd) [hk,k4,k6,k7,h8,hc,-getElem?_pos]
     refine Am (fun i=>⟨[(2,.sc (.ptr 64 0)),(3,.sc (.ptr 128 0)),(4,.sc (.ptr 192 0)),(7,.sc (.full [])),(53,.sc (.full [])),(54,intV 0),(55,intV i)],[(64,some (.box (Bq x b (Ad b)))),(128,some (.box (wc e.row))),(192,some B4)]⟩) 0 ?_ (fun i hi=>by omega) ?_
     .simp
     .unfold FL
      simp(maxSteps:=9^7) (disch:=try exact zd) [hw,hrow,-getElem?_pos]
    .have hne:e.kids≠[]:=hkids
     obtain⟨e',he'⟩:∃e',e'=e:=⟨e,rfl⟩;have hrow0:=BQ e;have hc:=Ch (A:=A) e hne oz;rw[e.children_len]at hc;have hCl:=subC_len n e x b;have hw:=Gn (A:=A) e (subC n e x b) hCl oz;have hrow':=BQ e
     have hrowW:wc (AD e (subC n e x b)).row=[.c (.int .i64 e.kind),.c (.int .i64 e.pos),.c (.str e.name),.c (.int .i64 e.num),.c (.sl (Exp.rows ((subC n e x b).take e.kids.length))),.c (.sl (Exp.armRows (Av e.arms ((subC n e x b).drop e.kids.length)))),.c (.int .i64 e.ty.kind),.c (.str e.ty.name),.c (.int .i64 e.ty.id),.c (.int .i64 e.ty.home),.c (.sl (Ty.rows e.ty.args))]:=(by rw[Exp.row_eq];rfl)
     have hkW:((subC n e x b).take e.kids.length).length=e.kids.length:=(by rw[qR,hCl];omega);have haW:(Av e.arms ((subC n e x b).drop e.kids.length)).length=e.arms.length:=(by rw[armsW_len,qab,hCl];omega);simp only[expV,hrow']at hc hw;unfold v202;simp(maxSteps:=9^7) (disch:=try exact zd) [hk,k4,k6,k7,h8,hrow0,hc,-getElem?_pos];refine wp_mono (JL (A:=A) x b (Ad b) n e hs1.1 oz hrec) ?_
     rintro _ _ ⟨rfl,rfl⟩;simp(maxSteps:=9^7) (disch:=try exact zd) [hw,hrowW,hCl,hkW,haW,-getElem?_pos]
end Go.Vs.Tryz
