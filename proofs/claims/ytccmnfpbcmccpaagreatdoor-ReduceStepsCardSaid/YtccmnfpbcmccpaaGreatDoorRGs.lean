/- Substitution as the reference does it (plain): up to positions it is the program's. -/
import Derived.Test.YtccmnfpbcmccpaaGreatDoorRFs
set_option linter.unusedSimpArgs false
set_option linter.unusedVariables false
set_option linter.deprecated false
set_option maxRecDepth 9999
namespace Go.Vs.Tryz
open Go Go.Vs
theorem Zwy {t t':List Str}(h:∀k,Zbj k∈t↔Zbj k∈t')(n:Nat):ZaW n t=ZaW n t':=by
 have h1:1<=ZaW n t':=Zcx t' _ 1 n;have hm:Zd9 t' 1 (ZaW n t')=n:=ZcV t' _ _ _ (by grind[ZeU]);refine ZeL h1 (fun hk=>Zbn n t' ((h _).1 hk)) ?_;grind[Zd9]
theorem ZkW {t t':List Str}(h:∀k,Zbj k∈t↔Zbj k∈t')(n:Nat):Zat n t=Zat n t':=by grind[Zat,Zwy]
theorem Zgf (k:Nat):Zbj k≠[]:=by unfold Zbj;simp
def listF (e:Exp)(l:List (List Str)):List Str:=(if e.name=[] then [] else [e.name])++(e.arms.map fun a=>a.1.vars).flatten++l.flatten
def ZaB (e:Exp):List Str:=e.fold listF
theorem Zk3 (e:Exp):ZaB e=(if e.name=[] then [] else [e.name])++(e.arms.map fun a=>a.1.vars).flatten++(e.children.map ZaB).flatten:=Exp.fold_eq _ e
theorem ZmE {e:Exp}{s:Str}:s∈ZaB e↔(s≠[]/\s=e.name)\/(∃a∈e.arms,s∈a.1.vars)\/∃x∈e.children,s∈ZaB x:=by
 grind[Zk3]
theorem Zgj (e:Exp){s:Str}(hs:s≠[]):e.wf->(s∈ZaB e↔s∈allP e):=by
 induction e using Exp.ind with
 |h e ih=>
  intro hw;rw[ZmE,ZaH];constructor
  .rintro (⟨_,h⟩|⟨a,ha,h⟩|⟨x,hx,h⟩)
   grind
   .obtain ⟨j,hj⟩:=qk.1 ha
    have h8:e.kind=8:=qP fun q=>by
     have:=hw.one.2.1 q;grind
    have hk1:=hw.one.1 h8;refine .inr ⟨e.kids.length+j,a.2,ZcX hj,.inl ?_⟩;grind[ZaM]
   .obtain ⟨i,hi⟩:=qk.1 hx
    exact .inr ⟨i,x,hi,.inr ((ih x hx (hw.child hx)).1 h)⟩
  .rintro (h|⟨i,x,hi,h|h⟩)
   grind;grind[ZaM]
   .exact .inr (.inr ⟨x,qa hi,(ih x (qa hi) (hw.child (qa hi))).2 h⟩)
def ZzF (a b:Exp):Prop:=a.kind=b.kind/\a.name=b.name/\a.num=b.num/\a.ty=b.ty/\a.kids.length=b.kids.length/\a.arms.length=b.arms.length/\
 ∀(i:Nat) p q,a.arms[i]?=some p->b.arms[i]?=some q->p.1.con=q.1.con/\p.1.vars=q.1.vars
theorem ZaG {a b:Exp}:sameP a b↔ZzF a b/\∀(i:Nat) x y,a.children[i]?=some x->b.children[i]?=some y->sameP x y:=by
 rw[Zcd];unfold ZzF;simp only[and_assoc]
theorem sameP.kids_len {a b:Exp}(h:sameP a b):a.children.length=b.children.length:=by
 obtain⟨⟨_,_,_,_,h1,h2,_⟩,_⟩:=ZaG.1 h;simp_all
theorem sameP.kid {a b:Exp}(h:sameP a b){i:Nat}{x:Exp}(hx:a.children[i]?=some x):∃y,b.children[i]?=some y/\sameP x y:=by
 obtain⟨y,hy⟩:=Zaa (l:=b.children) (i:=i) (by rw[<-h.kids_len];grind);grind[ZaG]
theorem sameP.weight (a:Exp):∀b,sameP a b->a.weight=b.weight:=by
 induction a using Exp.ind with
 |h a ih=>
  intro b h;obtain⟨⟨_,_,_,_,_,h6,h7⟩,h8⟩:=ZaG.1 h;have hl:=h.kids_len;rw[a.weight_eq,b.weight_eq];congr 1
  .congr 2
   refine qC fun i=>?_;grind
  .congr 1
   refine qC fun i=>?_;grind
theorem sameP.shp (a:Exp):∀b,sameP a b->shp a->shp b:=by
 induction a using Exp.ind with
 |h a ih=>
  intro b h hs;obtain⟨⟨h1,h2,h3,h4,h5,h6,h7⟩,h8⟩:=ZaG.1 h;rw[ZeC];refine⟨?_,fun y hy=>?_⟩
  .obtain ⟨⟨w1,w2,w3⟩,w4,w5⟩:=hs.one
   have hz:∀{α:Type} {l m:List α},l.length=m.length->l=[]->m=[]:=fun hl he=>qL.1 (by grind);refine⟨⟨fun k=>by omega,fun k=>qL.1 (by grind),fun k=>qL.1 (by grind)⟩,fun k=>?_,by grind⟩;grind
  .obtain ⟨i,hi⟩:=qk.1 hy
   obtain⟨x,hx⟩:=Zaa (l:=a.children) (i:=i) (by rw[h.kids_len];grind);exact ih x (qa hx) y (h8 i x y hx hi) (hs.child (qa hx))
theorem ZjZ (a:Exp):∀b,sameP a b->∀u,u∈Zaf a->u∈Zaf b:=by
 induction a using Exp.ind with
 |h a ih=>
  intro b h u hu;obtain⟨⟨h1,h2,_⟩,h8⟩:=ZaG.1 h;by_cases hk:a.kind=1;grind[ZaZ]
  .obtain ⟨i,x,hx,hf,hb⟩:=(Zbs hk).1 hu
   obtain⟨y,hy,hs⟩:=h.kid hx;grind[Zbs,Ze9]
theorem ZeB {a b:Exp}(h:sameP a b)(u:Str):u∈Zaf a↔u∈Zaf b:=⟨ZjZ a b h u,ZjZ b a (ZjY a b h) u⟩
theorem ZlI (a:Exp):∀b,sameP a b->∀u,u∈allP a->u∈allP b:=by
 induction a using Exp.ind with
 |h a ih=>
  intro b h u hu;obtain⟨⟨h1,h2,_⟩,h8⟩:=ZaG.1 h;rcases ZaH.1 hu with hu|⟨i,x,hx,hu⟩
  grind[ZaH]
  .obtain ⟨y,hy,hs⟩:=h.kid hx
   grind[ZaH,Ze9]
theorem ZkU {a b:Exp}(h:sameP a b)(u:Str):u∈allP a↔u∈allP b:=⟨ZlI a b h u,ZlI b a (ZjY a b h) u⟩
theorem Zgd {e e':Exp}{cs ds:List Exp}(hc:cs.length=e.kids.length+e.arms.length)(hd:ds.length=e'.kids.length+e'.arms.length)(h:ZzF e e')
 (hk:∀(i:Nat) x y,cs[i]?=some x->ds[i]?=some y->sameP x y):sameP (Za6 e cs) (Za6 e' ds):=by
 obtain⟨c1,c2,c3,c4⟩:=ZaQ hc;obtain⟨d1,d2,d3,d4⟩:=ZaQ hd;obtain⟨h1,h2,h3,h4,h5,h6,h7⟩:=h;refine ZaG.2 ⟨⟨h1,h2,h3,h4,by rw[c1,d1,h5],by rw[c2,d2,h6],fun i p q hp hq=>?_⟩,fun i x y hx hy=>?_⟩<;>grind
def varX (s:Str):Exp:=.mk 1 0 s 0 [] [] tz
theorem Zl7 (s:Str):Zaf (varX s)=[s]:=by rfl
def newR (x:Str)(b e:Exp):Str:=Zat 0 (Zaf b++ZaB e++[x])
def newA (x con:Str)(b:Exp)(p:List Str×Exp):Str:=Zat 0 (Zaf b++ZaB p.2++[x,con]++p.1)
def Zdb (S:Exp->Str->Exp->Exp)(x:Str)(b:Exp)(con:Str)(p:List Str×Exp)(i:Nat):List Str×Exp:=match p.1[i]? with
 |none=>p
 |some v=>if v∈Zaf b/\x∈Zaf p.2 then (p.1.set i (newA x con b p),S p.2 v (varX (newA x con b p))) else p
def Zb7 (S:Exp->Str->Exp->Exp)(x:Str)(b:Exp)(con:Str)(vs:List Str)(e:Exp)(k:Nat):List Str×Exp:=(List.range k).foldl (Zdb S x b con) (vs,e)
theorem ZcN (S:Exp->Str->Exp->Exp)(x:Str)(b:Exp)(con:Str)(vs:List Str)(e:Exp)(k:Nat):Zb7 S x b con vs e (k+1)=Zdb S x b con (Zb7 S x b con vs e k) k:=by
 unfold Zb7;rw[List.range_succ,qaS];rfl
def Zc3 (S:Exp->Str->Exp->Exp)(x:Str)(b:Exp)(a:ArmH×Exp):ArmH×Exp:=
 if x∈a.1.vars then a else (⟨a.1.pos,a.1.con,(Zb7 S x b a.1.con a.1.vars a.2 a.1.vars.length).1⟩,(Zb7 S x b a.1.con a.1.vars a.2 a.1.vars.length).2)
def Zd0 (S:Exp->Str->Exp->Exp)(x:Str)(b:Exp)(e:Exp):Exp:=
 if e.name=x\/e.kids.length<=ZaA e\/¬hitP x (Zaf b) e.name (e.kids.drop (ZaA e)) then e else
  .mk e.kind e.pos (newR x b e) e.num (e.kids.zipIdx.map fun p=>if p.2<ZaA e then p.1 else S p.1 e.name (varX (newR x b e))) e.arms e.ty
def ZdI (S:Exp->Str->Exp->Exp)(x:Str)(b:Exp)(e:Exp):Exp:=
 if e.kind=4\/e.kind=6\/e.kind=7 then Zd0 S x b e else if e.kind=8 then .mk e.kind e.pos e.name e.num e.kids (e.arms.map (Zc3 S x b)) e.ty else e
def refS:Nat->Exp->Str->Exp->Exp
 |0,e,_,_=>e
 |n+1,e,x,b=>if e.kind=1 then (if e.name=x then b else e) else
  Za6 (ZdI (refS n) x b e) ((ZdI (refS n) x b e).children.zipIdx.map fun p=>if x∈(ZdI (refS n) x b e).bound p.2 then p.1 else refS n p.1 x b)
def refC (n:Nat)(e:Exp)(x:Str)(b:Exp):List Exp:=e.children.zipIdx.map fun p=>if x∈e.bound p.2 then p.1 else refS n p.1 x b
@[simp] theorem refC_len (n:Nat) (e:Exp) (x:Str) (b:Exp):(refC n e x b).length=e.kids.length+e.arms.length:=by simp[refC]
theorem Zfk {n:Nat}{e y:Exp}{x:Str}{b:Exp}{i:Nat}(h:e.children[i]?=some y):(refC n e x b)[i]?=some (if x∈e.bound i then y else refS n y x b):=by
 simp[refC,h]
theorem Zcz (n:Nat)(e:Exp)(x:Str)(b:Exp):refS (n+1) e x b=if e.kind=1 then (if e.name=x then b else e) else Za6 (ZdI (refS n) x b e) (refC n (ZdI (refS n) x b e) x b):=rfl
theorem ZlC {S:Exp->Str->Exp->Exp}{x to con:Str}{vs:List Str}{e:Exp}(h:to∉vs):∀k,Zb7 S x (varX to) con vs e k=(vs,e)
 |0=>rfl
 |k+1=>by
  rw[ZcN,ZlC h k];grind[Zdb,Zl7]
theorem Zxe {S:Exp->Str->Exp->Exp}{x to:Str}{e:Exp}(hw:e.wf)(h:to∉allP e):ZdI S x (varX to) e=e:=by
 unfold ZdI;by_cases h4:e.kind=4\/e.kind=6\/e.kind=7
 .rw [if_pos h4]
  unfold Zd0;rw[if_pos];refine .inr (.inr fun q=>h ?_);have:=q.1;grind[Zl7,ZaH]
 .rw [if_neg h4]
  by_cases h8:e.kind=8
  .rw [if_pos h8]
   have hm:e.arms.map (Zc3 S x (varX to))=e.arms:=by
    refine qC fun i=>?_;rw[qi];cases ha:e.arms[i]? with
    |none=>rfl
    |some a=>
     have hk1:=hw.one.1 h8;have hv:to∉a.1.vars:=fun q=>h (ZaH.2 (.inr ⟨e.kids.length+i,a.2,ZcX ha,.inl (by
      grind[ZaM])⟩))
     simp only[qp];unfold Zc3;rw[ZlC hv];simp
   rw[hm];cases e;rfl
  grind
theorem Zfb (f to:Str):∀(n:Nat) (e e':Exp),sameP e e'->e.weight<=n->shp e->to∉allP e->sameP (repl f to e) (refS n e' f (varX to))
 |0,e,_,_,h,_,_=>by have:=e.weight_pos;omega
 |n+1,e,e',h,hn,hs,ht=>by
  obtain⟨hh,hc⟩:=ZaG.1 h;obtain⟨h1,h2,h3,h4,h5,h6,h7⟩:=hh;have hs':=sameP.shp e e' h hs;rw[Zcz];by_cases hk:e.kind=1
  .rw [Zde hk,if_pos (h1.symm.trans hk),<-h2]
   by_cases hx:e.name=f
   .rw [if_pos hx,if_pos hx]
    obtain⟨a1,a2,a3⟩:=Ze3 hs.one.1 hk;obtain⟨m,t⟩:=hs.one.2.1 hk;rw[hk,m,t,a1,a2];refine ZaG.2 ⟨⟨rfl,rfl,rfl,rfl,rfl,rfl,fun i p q hp=>by simp[Exp.arms]at hp⟩,fun i x y hx=>?_⟩;grind[Exp.children,Exp.kids,Exp.arms]
   grind
  .rw [Zef hk,if_neg (fun q=>hk (h1.trans q)),Zxe hs'.wf (fun q=>ht ((ZkU h to).2 q))]
   refine Zgd (replC_len _ _ _) (refC_len _ _ _ _) ⟨h1,h2,h3,h4,h5,h6,h7⟩ fun i x y hx hy=>?_;obtain⟨x0,hx0⟩:=Zaa (l:=e.children) (i:=i) (by rw[e.children_len,<-replC_len f to e];grind);obtain⟨y0,hy0,hxy⟩:=h.kid hx0;rw[Zca hx0]at hx;rw[Zfk hy0,<-Ze9 h]at hy;cases hx;cases hy;have hm:=qa hx0;by_cases hb:f∈e.bound i;grind
   .rw [if_neg hb,if_neg hb]
    exact Zfb f to n x0 y0 hxy (by have:=Exp.child_lt hm;omega) (hs.child hm) fun q=>ht (ZaH.2 (.inr ⟨i,x0,hx0,.inr q⟩))
def conV (e:Exp):Prop:=e.fold fun e l=>(∀a∈e.arms,∀k,a.1.con≠Zbj k)/\∀p∈l,p
theorem Zdr (e:Exp):conV e=((∀a∈e.arms,∀k,a.1.con≠Zbj k)/\∀x∈e.children,conV x):=by
 have:=Exp.fold_eq (fun e (l:List Prop)=>(∀a∈e.arms,∀k,a.1.con≠Zbj k)/\∀p∈l,p) e;unfold conV;rw[this];simp only[qO]
theorem conV.one {e:Exp}(h:conV e):∀a∈e.arms,∀k,a.1.con≠Zbj k:=by grind[Zdr]
theorem conV.child {e x:Exp}(h:conV e)(hx:x∈e.children):conV x:=by grind[Zdr]
theorem ZlF (frm to:Str)(e:Exp):conV e->conV (repl frm to e):=by
 induction e using Exp.ind with
 |h e ih=>
  intro h;by_cases hk:e.kind=1
  .rw [Zde hk]
   split
   .rw [Zdr]
    exact⟨h.one,fun x hx=>h.child hx⟩
   omega
  .rw [Zef hk,Zdr]
   obtain⟨_,_,h3,h4⟩:=ZaQ (replC_len frm to e);refine⟨fun a ha k=>?_,fun c hc=>?_⟩
   .obtain ⟨i,hi⟩:=qk.1 ha
    have:=h4 i;rw[hi]at this;cases hq:e.arms[i]? with
    |none=>grind
    |some q=>
     rw[hq]at this;simp only[qp,qb]at this;rw[this];exact h.one q (qa hq) k
   .rw [h3] at hc
    obtain⟨i,hi⟩:=qk.1 hc;obtain⟨x,hx⟩:=Zaa (l:=e.children) (i:=i) (by have:=(qd.1 hi).1;simp_all);rw[Zca hx]at hi;cases hi;have hm:=qa hx;split
    .exact h.child hm
    .exact ih x hm (h.child hm)
theorem ZjT {x:Str}{free vs:List Str}{b:Exp}(h:conV b):∀k,conV (Zdv x free vs b k).2
 |0=>h
 |k+1=>by
  rw[Zdi];have:=ZjT (x:=x) (free:=free) (vs:=vs) h k;grind[ZdJ,ZlF]
theorem Zl9 {x:Str}{free:List Str}{e:Exp}(hs:shp e)(h:conV e):∀y∈(Zcn x free e).children,conV y:=by
 unfold Zcn;by_cases h4:e.kind=4\/e.kind=6\/e.kind=7
 .rw [if_pos h4]
  obtain⟨ha,hc⟩:=Za2 (by omega) hs.one;unfold Zcq;split
  .exact fun y hy=>h.child hy
  .intro y hy
   rw[ZaC,ha]at hy;simp only[qX,qF,qH]at hy;obtain⟨⟨z,i⟩,hz,rfl⟩:=hy;have hm:z∈e.children:=(by grind);simp only;split
   .exact h.child hm
   .exact ZlF _ _ _ (h.child hm)
 .rw [if_neg h4]
  by_cases h8:e.kind=8
  .rw [if_pos h8]
   intro y hy;rw[ZaC]at hy;rcases ql.1 hy with hy|hy
   .exact h.child (Zal hy)
   .obtain ⟨a,ha,rfl⟩:=qH.1 hy
    obtain⟨p,hp,rfl⟩:=qH.1 ha;unfold armP;split
    .exact h.child (Zbt hp)
    .exact ZjT (h.child (Zbt hp)) _
  .rw [if_neg h8]
   exact fun y hy=>h.child hy
theorem Zoe {n:Nat}{x con:Str}{b:Exp}{vs:List Str}{e e':Exp}(hcon:∀k,con≠Zbj k)(hi:inj vs)(hx:x∉vs)(hs:shp e)(hp:properP e)(hw:e.weight<=n)(h:sameP e e'):
 ∀k,k<=vs.length->(Zdv x (Zaf b) vs e k).1=(Zb7 (refS n) x b con vs e' k).1/\sameP (Zdv x (Zaf b) vs e k).2 (Zb7 (refS n) x b con vs e' k).2
 |0,_=>⟨rfl,h⟩
 |k+1,hk=>by
  obtain⟨g1,g2⟩:=Zoe (b:=b) hcon hi hx hs hp hw h k (by omega);have ho:=Ze7 (free:=Zaf b) hi hx hs hp k (by omega);rw[Zdi,ZcN];generalize Zdv x (Zaf b) vs e k=p at *
  generalize Zb7 (refS n) x b con vs e' k=q at *
  obtain⟨v1,e1⟩:=p;obtain⟨v2,e2⟩:=q;simp only at g1 g2 ho;subst g1;obtain⟨v,hv⟩:=Zaa (l:=v1) (i:=k) (by rw[ho.len];exact hk);have hdrop:v∉v1.drop (k+1):=by
   intro hm;obtain⟨j,hj⟩:=qk.1 hm;rw[qZ]at hj;have:=ho.inj k _ v hv hj;omega
  unfold ZdJ Zdb;simp only[hv];by_cases hh:v∈Zaf b/\x∈Zaf e1
  .have hto:Zat 0 (allP e1++v1++Zaf b++[x])=newA x con b (v1,e2):=by
    refine ZkW (fun j=>?_) 0;have ha:Zbj j∈allP e1↔Zbj j∈ZaB e2:=by
     rw[Zgj e2 (Zgf j) (sameP.shp e1 e2 g2 ho.shape).wf];exact ZkU g2 _
    grind
   rw[if_neg (show ¬(v∈v1.drop (k+1)\/¬hitP x (Zaf b) v [e1])from fun q=>q.elim hdrop fun q=>q ⟨hh.1,e1,by simp,hh.2⟩),if_pos ⟨hh.1,(ZeB g2 x).1 hh.2⟩];have hf:=Zbn 0 (allP e1++v1++Zaf b++[x]);rw[hto]at hf |-;simp only[ql,not_or]at hf;exact⟨rfl,Zfb v _ n e1 e2 g2 (by rw[ho.weight];exact hw) ho.shape hf.1.1.1⟩
  grind[hitP,ZeB]
theorem Zu3 {n:Nat}{x:Str}{b e e':Exp}(h:sameP e e')(hs:shp e)(hp:properP e)(hc:conV e)(hn:e.weight<=n+1):sameP (Zcn x (Zaf b) e) (ZdI (refS n) x b e'):=by
 have hs':=sameP.shp e e' h hs;obtain⟨⟨h1,h2,h3,h4,h5,h6,h7⟩,h8⟩:=ZaG.1 h;unfold Zcn ZdI;by_cases hb:e.kind=4\/e.kind=6\/e.kind=7
 .rw [if_pos hb,if_pos (h1▸hb)]
  obtain⟨ha,hch⟩:=Za2 (by omega) hs.one;obtain⟨ha',hch'⟩:=Za2 (e:=e') (by omega) hs'.one;have hsc:ZaA e'=ZaA e:=by unfold ZaA;rw[h1]
  have hkid:∀(i:Nat) k,e.kids[i]?=some k->∃k',e'.kids[i]?=some k'/\sameP k k':=fun i k hk=>by
   grind
  have hhit:hitP x (Zaf b) e'.name (e'.kids.drop (ZaA e))↔hitP x (Zaf b) e.name (e.kids.drop (ZaA e)):=by
   unfold hitP;rw[h2];refine and_congr_right fun _=>⟨?_,?_⟩
   .rintro ⟨k',hk',hf⟩
    obtain⟨j,hj⟩:=qk.1 hk';rw[qZ]at hj;obtain⟨k,hk⟩:=Zaa (l:=e.kids) (i:=ZaA e+j) (by grind);obtain⟨k2,hk2,hsm⟩:=hkid _ k hk;rw[hj]at hk2;cases hk2;exact⟨k,qa (i:=j) (by grind),(ZeB hsm x).2 hf⟩
   .rintro ⟨k,hk,hf⟩
    obtain⟨j,hj⟩:=qk.1 hk;rw[qZ]at hj;obtain⟨k2,hk2,hsm⟩:=hkid _ k hj;exact⟨k2,qa (i:=j) (by grind),(ZeB hsm x).1 hf⟩
  unfold Zcq Zd0;have hcond:(e'.name=x\/e'.kids.length<=ZaA e'\/¬hitP x (Zaf b) e'.name (e'.kids.drop (ZaA e')))↔(e.name=x\/e.kids.length<=ZaA e\/¬hitP x (Zaf b) e.name (e.kids.drop (ZaA e))):=by grind
  by_cases hcn:e.name=x\/e.kids.length<=ZaA e\/¬hitP x (Zaf b) e.name (e.kids.drop (ZaA e));grind
  .rw [if_neg hcn,if_neg (fun q=>hcn (hcond.1 q)),hsc,<-h2]
   have hto:Zat 0 (allP e++Zaf b++[x])=newR x b e':=by
    refine ZkW (fun j=>?_) 0;have ha:Zbj j∈allP e↔Zbj j∈ZaB e':=by
     rw[Zgj e' (Zgf j) hs'.wf];exact ZkU h _
    grind
   have hf:=Zbn 0 (allP e++Zaf b++[x]);rw[hto]at hf |-;simp only[ql,not_or]at hf;generalize newR x b e'=to at hf |-;refine ZaG.2 ⟨⟨h1,rfl,h3,h4,by grind[Ze2,List.length_zipIdx],h6,h7⟩,fun i y z hy hz=>?_⟩;rw[ZaC,ha,qX,qF,qi,qat]at hy;rw[ZaC,ha',qX,qF,qi,qat]at hz;cases hk:e.kids[i]? with
   |none=>grind
   |some k=>
    obtain⟨k',hk',hsm⟩:=hkid i k hk;rw[hk]at hy;rw[hk']at hz;simp only[qp,qaP,qb]at hy hz;subst hy;subst hz;have hm:k∈e.children:=(by grind);by_cases hi:i<ZaA e;grind
    .rw [if_neg hi,if_neg hi]
     exact Zfb _ _ n k k' hsm (by have:=Exp.child_lt hm;omega) (hs.child hm) fun q=>hf.1.1 (ZaH.2 (.inr ⟨i,k,by grind,.inr q⟩))
 .rw [if_neg hb,if_neg (show ¬(e'.kind=4\/e'.kind=6\/e'.kind=7) by omega)]
  by_cases k8:e.kind=8
  .rw [if_pos k8,if_pos (h1.symm.trans k8)]
   have harm:∀(i:Nat) p q,e.arms[i]?=some p->e'.arms[i]?=some q->(armP x (Zaf b) p).1.con=(Zc3 (refS n) x b q).1.con/\(armP x (Zaf b) p).1.vars=(Zc3 (refS n) x b q).1.vars/\sameP (armP x (Zaf b) p).2 (Zc3 (refS n) x b q).2:=by
    intro i p q hp' hq;obtain⟨g1,g2⟩:=h7 i p q hp' hq;have hm:=Zbt (qa hp');have hbs:sameP p.2 q.2:=h8 (e.kids.length+i) p.2 q.2 (ZcX hp') (by grind[ZcX]);have ha:=Zoe (n:=n) (x:=x) (con:=p.1.con) (b:=b) (e:=p.2) (e':=q.2) (hc.one p (qa hp')) (hp.one p (qa hp'));unfold armP Zc3;rw[<-g2];by_cases hx:x∈p.1.vars;grind
    .rw [if_neg hx,if_neg hx]
     have:=ha hx (hs.child hm) (hp.child hm) (by have:=Exp.child_lt hm;omega) hbs p.1.vars.length (qe _);grind
   refine ZaG.2 ⟨⟨h1,h2,h3,h4,h5,by grind[ZcL],fun i p q hp' hq=>?_⟩,fun i y z hy hz=>?_⟩;grind[ZcL]
   .rw [ZaC] at hy hz
    by_cases hi:i<e.kids.length
    .rw [qx hi] at hy
     rw[qx (by omega)]at hz;refine h8 i y z ?_ ?_<;>grind[Exp.children]
    grind
  grind
theorem Zo3 (x:Str)(b:Exp):∀(n:Nat) (e e':Exp),sameP e e'->e.weight<=n->shp e->properP e->conV e->sameP (subN n e x b) (refS n e' x b)
 |0,e,_,_,h,_,_,_=>by have:=e.weight_pos;omega
 |n+1,e,e',h,hn,hs,hp,hc=>by
  obtain⟨⟨h1,h2,_⟩,_⟩:=ZaG.1 h;rw[Zdn,Zcz];by_cases hk:e.kind=1;grind[ZaN]
  .rw [if_neg hk,if_neg (fun q=>hk (h1.trans q))]
   have hP:=Zfz (x:=x) (b:=b) hs hp;have hC:=Zl9 (x:=x) (free:=Zaf b) hs hc;have hS:=Zu3 (n:=n) (x:=x) (b:=b) h hs hp hc hn;generalize Zcn x (Zaf b) e=d at *
   generalize ZdI (refS n) x b e'=d' at *
   refine Zgd (subC_len _ _ _ _) (refC_len _ _ _ _) (ZaG.1 hS).1 fun i y z hy hz=>?_;obtain⟨x1,hx1⟩:=Zaa (l:=d.children) (i:=i) (by rw[d.children_len,<-subC_len n d x b];grind);obtain⟨y1,hy1,hsm⟩:=hS.kid hx1;obtain⟨x0,hx0⟩:=Zaa (l:=e.children) (i:=i) (by grind[Zcr]);have hK:=hP.kids i x0 x1 hx0 hx1;rw[ZdC hx1]at hy;rw[Zfk hy1,<-Ze9 hS]at hz;cases hy;cases hz;by_cases hb:x∈d.bound i;grind
   .rw [if_neg hb,if_neg hb]
    exact Zo3 x b n x1 y1 hsm (by have:=Exp.child_lt (qa hx0);have:=hK.weight;omega) hK.shape hK.proper (hC x1 (qa hx1))
theorem ZqI (a:Exp):∀b,sameP a b->Zan a=Zan b:=by
 induction a using Exp.ind with
 |h a ih=>
  intro b h;obtain⟨⟨h1,h2,h3,h4,h5,h6,h7⟩,_⟩:=ZaG.1 h;have hc:a.children.map Zan=b.children.map Zan:=by
   refine qC fun i=>?_;rw[qi,qi];cases hx:a.children[i]? with
   |none=>
    have:b.children[i]?=none:=by
     have:=h.kids_len;rw[qaN]at hx |-;omega
    rw[this]
   |some x=>
    obtain⟨y,hy,hs⟩:=h.kid hx;rw[hy];simp only[qp,ih x (qa hx) y hs]
  rw[ZdT,ZdT,hc];unfold Zha;rw[h1,h2,h3,h4,h5];congr 1;refine qC fun i=>?_;rw[qah,qah];cases hp:a.arms[i]? with
  |none=>
   have:b.arms[i]?=none:=(by rw[qaN]at hp |-;omega);rw[this]
  |some p=>
   obtain⟨q,hq⟩:=Zaa (l:=b.arms) (i:=i) (by have:=(qd.1 hp).1;omega);rw[hq];obtain⟨g1,g2⟩:=h7 i p q hp hq;cases ((b.children.map Zan).drop b.kids.length)[i]? with
   |none=>rfl
   |some c=>simp only[g1,g2]
theorem ZkK {x:Str}{free:List Str}{e:Exp}(hs:shp e)(h:conV e):∀a∈(Zcn x free e).arms,∀k,a.1.con≠Zbj k:=by
 unfold Zcn;by_cases h4:e.kind=4\/e.kind=6\/e.kind=7
 .rw [if_pos h4]
  unfold Zcq;split
  .exact h.one
  .exact h.one
 .rw [if_neg h4]
  by_cases h8:e.kind=8
  .rw [if_pos h8]
   intro a ha k;rw[ZcL]at ha;obtain⟨p,hp,rfl⟩:=qH.1 ha;have:=h.one p hp k;unfold armP;split
   .exact this
   .exact this
  .rw [if_neg h8]
   exact h.one
theorem ZpO (x:Str)(b:Exp)(hb:conV b):∀(n:Nat) (e:Exp),e.weight<=n->shp e->properP e->conV e->conV (subN n e x b)
 |0,e,h,_,_,_=>by have:=e.weight_pos;omega
 |n+1,e,h,hs,hp,hc=>by
  rw[Zdn];by_cases hk:e.kind=1
  .rw [if_pos hk]
   split
   .exact hb
   .exact hc
  .rw [if_neg hk]
   have hP:=Zfz (x:=x) (b:=b) hs hp;have hC:=Zl9 (x:=x) (free:=Zaf b) hs hc;have hA:=ZkK (x:=x) (free:=Zaf b) hs hc;generalize Zcn x (Zaf b) e=e' at *
   obtain⟨g1,g2,g3,g4⟩:=ZaQ (subC_len n e' x b);rw[Zdr];refine⟨fun a ha k=>?_,fun y hy=>?_⟩
   .obtain ⟨i,hi⟩:=qk.1 ha
    have:=g4 i;rw[hi]at this;cases hq:e'.arms[i]? with
    |none=>rw[hq]at this;simp at this
    |some q=>
     rw[hq]at this;simp only[qp,qb]at this;rw[this];exact hA q (qa hq) k
   .rw [g3] at hy
    obtain⟨i,hi⟩:=qk.1 hy;obtain⟨x1,h1⟩:=Zaa (l:=e'.children) (i:=i) (by rw[e'.children_len,<-subC_len n e' x b];exact(qd.1 hi).1);obtain⟨x0,h0⟩:=Zaa (l:=e.children) (i:=i) (by rw[<-Zcr hP];exact(qd.1 h1).1);have hK:=hP.kids i x0 x1 h0 h1;rw[ZdC h1]at hi;cases hi;have hm:=qa h1;split
    .exact hC x1 hm
    .exact ZpO x b hb n x1 (by have:=Exp.child_lt (qa h0);have:=hK.weight;omega) hK.shape hK.proper (hC x1 hm)
def Zd8:Nat->Exp->List Exp->Exp×List Exp
 |0,e,l=>(e,l)
 |n+1,e,l=>if e.kind=5 then match e.kids with
  |[f,a]=>Zd8 n f (a::l)
  |_=>(e,l)
  else (e,l)
theorem Ze8 {α β:Type}{f:α×Nat->Nat}{g:β×Nat->Nat}:∀(l:List α) (m:List β) (k:Nat),l.length=m.length->
 (∀(i:Nat) x y,l[i]?=some x->m[i]?=some y->f (x,k+i)<=g (y,k+i))->((l.zipIdx k).map f).sum<=((m.zipIdx k).map g).sum
 |[],[],_,_,_=>qe _
 |[],_::_,_,h,_=>by simp
 |_::_,[],_,h,_=>by grind
 |a::l,b::m,k,h,hf=>by
  simp only[qa4,qq,qS];have h1:=hf 0 a b rfl rfl;have h2:=Ze8 (f:=f) (g:=g) l m (k+1) (by grind) fun i x y hx hy=>by
   have:=hf (i+1) x y (by grind) (by grind);grind
  grind
theorem Zif {α:Type}{f g:α×Nat->Nat}{M:Nat}:∀(l:List α) (k:Nat),(∀(i:Nat) x,l[i]?=some x->f (x,k+i)<=g (x,k+i)*M)->((l.zipIdx k).map f).sum<=((l.zipIdx k).map g).sum*M
 |[],_,_=>by simp
 |a::l,k,hf=>by
  simp only[qa4,qq,qS];have h1:=hf 0 a rfl;have h2:=Zif (f:=f) (g:=g) (M:=M) l (k+1) fun i x hx=>by
   have:=hf (i+1) x (by grind);grind
  grind
def asg (ρ:Str->Nat)(bs:List Str):Str->Nat:=fun s=>if s∈bs then 1 else ρ s
def wF (e:Exp)(l:List ((Str->Nat)->Nat))(ρ:Str->Nat):Nat:=if e.kind=1 then ρ e.name else 1+(e.arms.map fun a=>a.1.vars.length).sum+(l.zipIdx.map fun p=>p.1 (asg ρ (e.bound p.2))).sum
def wV (e:Exp):(Str->Nat)->Nat:=e.fold wF
theorem Zic {e:Exp}(h:e.kind=1)(ρ:Str->Nat):wV e ρ=ρ e.name:=by
 unfold wV;rw[Exp.fold_eq,wF,if_pos h]
theorem ZsG {α β γ:Type}{f:α->β}{g:β×Nat->γ}:∀(l:List α) (k:Nat),((l.map f).zipIdx k).map g=(l.zipIdx k).map fun p=>g (f p.1,p.2)
 |[],_=>rfl
 |a::l,k=>by simp only[qq,qa4,ZsG l (k+1)]
theorem Zqd {e:Exp}(h:e.kind≠1)(ρ:Str->Nat):wV e ρ=1+(e.arms.map fun a=>a.1.vars.length).sum+(e.children.zipIdx.map fun p=>wV p.1 (asg ρ (e.bound p.2))).sum:=by
 unfold wV;rw[Exp.fold_eq,wF,if_neg h,ZsG]
theorem Znq (e:Exp):∀(ρ σ:Str->Nat),(∀s∈Zaf e,ρ s<=σ s)->wV e ρ<=wV e σ:=by
 induction e using Exp.ind with
 |h e ih=>
  intro ρ σ h;by_cases hk:e.kind=1;grind[Zic,ZaZ]
  .rw [Zqd hk,Zqd hk]
   refine Nat.add_le_add_left (Ze8 _ _ 0 rfl fun i x y hx hy=>?_) _;rw[hx]at hy;cases hy;refine ih x (qa hx) _ _ fun s hs=>?_;grind[asg,Zbs]
theorem Zj8 (e:Exp):(e.children.map Exp.weight).sum=(e.children.zipIdx.map fun p=>p.1.weight).sum:=by
 congr 1;refine qC fun i=>?_;grind
theorem ZtO {M:Nat}(hM:1<=M)(e:Exp):∀(ρ:Str->Nat),(∀s∈Zaf e,ρ s<=M)->wV e ρ<=e.weight*M:=by
 induction e using Exp.ind with
 |h e ih=>
  intro ρ h;have hw:=e.weight_pos;by_cases hk:e.kind=1;grind[Zic,qu,ZaZ,Nat.le_mul_of_pos_left]
  .rw [Zqd hk,e.weight_eq,Zj8]
   have h1:=Zif (f:=fun p=>wV p.1 (asg ρ (e.bound p.2))) (g:=fun p:Exp×Nat=>p.1.weight) (M:=M) e.children 0 fun i x hx=>by
    grind[asg,Zbs]
   have h2:1+(e.arms.map fun a=>a.1.vars.length).sum<=(1+(e.arms.map fun a=>a.1.vars.length).sum)*M:=Nat.le_mul_of_pos_right _ hM;grind
theorem ZzL (e:Exp):∀(ρ:Str->Nat),shp e->(∀s,1<=ρ s)->e.weight<=wV e ρ:=by
 induction e using Exp.ind with
 |h e ih=>
  intro ρ hs h;by_cases hk:e.kind=1
  .obtain ⟨a1,a2,_⟩:=Ze3 hs.one.1 hk
   have:e.weight=1:=(by rw[e.weight_eq,Exp.children,a1,a2];rfl);grind[Zic]
  .rw [Zqd hk,e.weight_eq,Zj8]
   refine Nat.add_le_add_left (Ze8 _ _ 0 rfl fun i x y hx hy=>?_) _;rw[hx]at hy;cases hy;refine ih x (qa hx) _ (hs.child (qa hx)) fun s=>?_;grind[asg]
theorem ZAk (a:Exp):∀(c:Exp) (V:Rep) (ρ σ:Str->Nat),instR a c V->(∀s∈Zaf a,∀d,V s d->wV d σ<=ρ s)->wV c σ<=wV a ρ:=by
 induction a using Exp.ind with
 |h a ih=>
  intro c V ρ σ h hv;by_cases hk:a.kind=1
  .rw [Zic hk]
   exact hv _ ((ZaZ hk).2 rfl) _ (h.var hk)
  .obtain ⟨h1,h2,h3,h4⟩:=h.node hk
   have hl:c.children.length=a.children.length:=h1.children.symm;have hsum:=Zpt (e:=a) (e':=c) h1.2.2.2.2.symm fun i p q hp hq=>(h3 i p q hp hq).2;rw[Zqd (show c.kind≠1 from fun q=>hk (h1.1.trans q)),Zqd hk,hsum];refine Nat.add_le_add_left (Ze8 _ _ 0 hl fun i y x hy hx=>?_) _;refine ih x (qa hx) y _ _ _ (h4 i x y hx hy) fun s hs d hd=>?_;simp only[qaP];rcases hd with ⟨hb,t,ht,_,hvt⟩|⟨hb,hvd,hf⟩
   .rw [Zic hvt.1,hvt.2.1]
    grind[asg]
   .refine qu (Znq d _ σ fun u hu=>?_) (qu (hv s ((Zbs hk).2 ⟨i,x,hx,hs,hb⟩) d hvd) ?_)<;>grind[asg]
theorem ZrP {x:Str}{b e:Exp}{n:Nat}(hb:shp b)(hn:e.weight<=n)(hs:shp e)(hp:properP e)(σ:Str->Nat):wV (subN n e x b) σ<=wV e (fun s=>if s=x then wV b σ else σ s):=by
 refine ZAk e _ _ _ σ (ZhE x b hb n e hn hs hp) fun s _ d hd=>?_;unfold subV at hd;split at hd;grind
 .rename_i h
  rw[if_neg h,Zic hd.1,hd.2.1];simp
def okE (e:Exp):Prop:=shp e/\properP e/\conV e
def refP (e:Exp)(x:Str)(b:Exp):Exp:=refS e.weight e x b
def ZaV (l:List (Str×Exp))(b:Exp):Exp:=l.foldl (fun e p=>subP e p.1 p.2) b
def ZcG (l:List (Str×Exp))(b:Exp):Exp:=l.foldl (fun e p=>refP e p.1 p.2) b
theorem ZcK (p:Str×Exp)(l:List (Str×Exp))(b:Exp):ZaV (p::l) b=ZaV l (subP b p.1 p.2):=rfl
theorem ZnD (p:Str×Exp)(l:List (Str×Exp))(b:Exp):ZcG (p::l) b=ZcG l (refP b p.1 p.2):=rfl
theorem ZdL {x:Str}{e b:Exp}(he:okE e)(hb:okE b):okE (subP e x b):=
 ⟨Zr5 x b hb.1 e.weight e (qe _) he.1 he.2.1,Zjz x b hb.2.1 e.weight e (qe _) he.1 he.2.1,ZpO x b hb.2.2 e.weight e (qe _) he.1 he.2.1 he.2.2⟩
theorem ZhK {x:Str}{e e' b:Exp}(h:sameP e e')(he:okE e):sameP (subP e x b) (refP e' x b):=by
 unfold subP refP;rw[<-sameP.weight e e' h];exact Zo3 x b e.weight e e' h (qe _) he.1 he.2.1 he.2.2
theorem ZcO:∀(l:List (Str×Exp))(e e':Exp),sameP e e'->okE e->(∀p∈l,okE p.2)->sameP (ZaV l e) (ZcG l e')/\okE (ZaV l e)
 |[],_,_,h,he,_=>⟨h,he⟩
 |p::l,e,e',h,he,hl=>by
  rw[ZcK,ZnD];exact ZcO l _ _ (ZhK h he) (ZdL he (hl p (by simp))) fun q hq=>hl q (by grind)
def asgL (M:Nat)(l:List (Str×Exp)):Str->Nat:=fun s=>if ∃p∈l,p.1=s then M else 1
theorem Zpj {M:Nat}(hM:1<=M):∀(l:List (Str×Exp)) (e:Exp),okE e->(∀p∈l,okE p.2/\p.2.weight<=M/\∀q∈l,q.1∉Zaf p.2)->wV (ZaV l e) (fun _=>1)<=wV e (asgL M l)
 |[],e,_,_=>by
  refine Znq e _ _ fun s _=>?_;grind[asgL]
 |p::l,e,he,hl=>by
  obtain⟨h1,h2,h3⟩:=hl p (by simp);rw[ZcK];refine qu (Zpj hM l _ (ZdL he h1) fun q hq=>?_) ?_;grind
  .refine qu (ZrP h1.1 (qe _) he.1 he.2.1 _) (Znq e _ _ fun s _ => ?_)
   by_cases hs:s=p.1
   .rw [if_pos hs]
    have hr:asgL M (p::l) s=M:=(by unfold asgL;simp_all);rw[hr];have hw:=ZtO (qe 1) p.2 (asgL M l) fun u hu=>by
     grind[asgL]
    omega
   .rw [if_neg hs]
    unfold asgL;by_cases hq:∃q∈l,q.1=s;simp_all;grind
theorem ZmD {M:Nat}(hM:1<=M){l:List (Str×Exp)}{e:Exp}(he:okE e)(hl:∀p∈l,okE p.2/\p.2.weight<=M/\∀q∈l,q.1∉Zaf p.2):(ZaV l e).weight<=e.weight*M:=by
 have h0:=(ZcO l e e (ZaN e) he fun p hp=>(hl p hp).1).2;have h1:=ZzL (ZaV l e) (fun _=>1) h0.1 fun _=>qe _;have h2:=Zpj hM l e he hl;have h3:=ZtO hM e (asgL M l) fun s _=>by
  unfold asgL;split<;>grind
 omega
theorem Zdy (s:Str):okE (varX s):=by
 have hc:(varX s).children=[]:=rfl;have ha:(varX s).arms=[]:=rfl;refine⟨?_,?_,?_⟩
 .rw [ZeC,hc]
  exact⟨⟨⟨fun h=>absurd (show(1:Int)=8 from h) (by decide),fun _=>rfl,fun _=>rfl⟩,fun _=>⟨rfl,rfl⟩,rfl⟩,fun x hx=>by grind⟩
 grind[ZbC];grind[Zdr]
theorem Zng (s:Str):(varX s).weight=1:=by
 rfl
theorem Zkz {x t:Str}{e:Exp}(he:okE e):(subP e x (varX t)).weight<=e.weight:=by
 have h1:=ZzL (subP e x (varX t)) (fun _=>1) (ZdL he (Zdy t)).1 fun _=>qe _;have h2:=ZrP (x:=x) (b:=varX t) (e:=e) (n:=e.weight) (Zdy t).1 (qe _) he.1 he.2.1 fun _=>1;have h3:=ZtO (qe 1) e (fun s=>if s=x then wV (varX t) (fun _=>1) else 1) fun s _=>by
  rw[Zic (show(varX t).kind=1 from rfl)];simp
 grind[subP]
theorem Zxv (a:Exp):∀b c,sameP a b->sameP b c->sameP a c:=by
 induction a using Exp.ind with
 |h a ih=>
  intro b c h1 h2;obtain⟨⟨a1,a2,a3,a4,a5,a6,a7⟩,a8⟩:=ZaG.1 h1;obtain⟨⟨b1,b2,b3,b4,b5,b6,b7⟩,b8⟩:=ZaG.1 h2;refine ZaG.2 ⟨⟨a1.trans b1,a2.trans b2,a3.trans b3,a4.trans b4,a5.trans b5,a6.trans b6,fun i p q hp hq=>?_⟩,fun i x z hx hz=>?_⟩
  .obtain ⟨r,hr⟩:=Zaa (l:=b.arms) (i:=i) (by rw [<-a6];exact (qd.1 hp).1)
   exact⟨(a7 i p r hp hr).1.trans (b7 i r q hr hq).1,(a7 i p r hp hr).2.trans (b7 i r q hr hq).2⟩
  .obtain ⟨y,hy,hxy⟩:=h1.kid hx
   exact ih x (qa hx) y z hxy (b8 i y z hy hz)
theorem ZsY {S:Exp->Str->Exp->Exp}{x:Str}{b b':Exp}(hb:sameP b b')(e:Exp):ZdI S x b e=ZdI S x b' e:=by
 have hf:=fun u=>ZeB hb u;have hn:∀y,newR x b y=newR x b' y:=fun y=>Zhh (fun s=>by simp only[ql,hf]) 0;have ha:∀con p,newA x con b p=newA x con b' p:=fun con p=>Zhh (fun s=>by simp only[ql,hf]) 0;have hh:∀nm l,hitP x (Zaf b) nm l↔hitP x (Zaf b') nm l:=fun nm l=>and_congr_left fun _=>hf nm;have hs:∀con p i,Zdb S x b con p i=Zdb S x b' con p i:=by
  intro con p i;unfold Zdb;cases p.1[i]? with
  |none=>rfl
  |some v=>
   simp only;by_cases q:v∈Zaf b/\x∈Zaf p.2
   .rw[if_pos q,if_pos ⟨(hf v).1 q.1,q.2⟩,ha]
   .rw[if_neg q,if_neg (fun r=>q ⟨(hf v).2 r.1,r.2⟩)]
 have ht:∀con vs y k,Zb7 S x b con vs y k=Zb7 S x b' con vs y k:=by
  intro con vs y k
  induction k with
  |zero=>rfl
  |succ k ih=>rw[ZcN,ZcN,ih,hs]
 unfold ZdI;by_cases h4:e.kind=4\/e.kind=6\/e.kind=7
 .rw [if_pos h4,if_pos h4]
  unfold Zd0;by_cases q:e.name=x\/e.kids.length<=ZaA e\/¬hitP x (Zaf b) e.name (e.kids.drop (ZaA e))
  .rw[if_pos q,if_pos (by rw[<-hh];exact q)]
  .rw[if_neg q,if_neg (by rw[<-hh];exact q),hn]
 .rw [if_neg h4,if_neg h4]
  by_cases h8:e.kind=8
  .rw [if_pos h8,if_pos h8]
   congr 1;refine qJ fun a _=>?_;unfold Zc3;simp only[ht]
  .rw[if_neg h8,if_neg h8]
theorem Zom {b b':Exp}(hb:sameP b b'):∀(n:Nat) (e:Exp) (x:Str),sameP (refS n e x b) (refS n e x b')
 |0,e,_=>ZaN e
 |n+1,e,x=>by
  rw[Zcz,Zcz];by_cases hk:e.kind=1
  .rw [if_pos hk,if_pos hk]
   split
   .exact hb
   .exact ZaN e
  .rw [if_neg hk,if_neg hk,ZsY hb]
   generalize ZdI (refS n) x b' e=d;refine Zgd (refC_len _ _ _ _) (refC_len _ _ _ _) ⟨rfl,rfl,rfl,rfl,rfl,rfl,fun i p q hp hq=>?_⟩ fun i y z hy hz=>?_
   .rw [hp] at hq
    cases hq;exact⟨rfl,rfl⟩
   .obtain ⟨c,hc⟩:=Zaa (l:=d.children) (i:=i) (by rw [d.children_len,<-refC_len n d x b];exact (qd.1 hy).1)
    rw[Zfk hc]at hy hz;cases hy;cases hz;split
    .exact ZaN c
    .exact Zom hb n c x
theorem ZtI {x:Str}{e e' b b':Exp}(h:sameP e e')(hb:sameP b b')(he:okE e):sameP (subP e x b) (refP e' x b'):=
 Zxv _ _ _ (ZhK (x:=x) (b:=b) h he) (Zom hb _ _ _)
def usedF (e:Exp)(l:List (List Str)):List Str:=e.name::((e.arms.map fun a=>a.1.vars).flatten++l.flatten)
def Zav (e:Exp):List Str:=e.fold usedF
theorem Zes (e:Exp):Zav e=e.name::((e.arms.map fun a=>a.1.vars).flatten++(e.children.map Zav).flatten):=Exp.fold_eq _ e
theorem ZxZ (e:Exp){s:Str}(hs:s≠[]):s∈Zav e↔s∈ZaB e:=by
 induction e using Exp.ind with
 |h e ih=>
  rw[Zes,ZmE,qz,ql];grind
theorem ZgM (e:Exp)(k:Nat):Zat k (Zav e)=Zat k (ZaB e):=ZkW (fun j=>ZxZ e (Zgf j)) k
def Zh6 (T:List Str)(vars:List Str)(args:List Exp):List (Str×Exp):=
 (vars.zipIdx.map fun p=>(p.1,varX (Zat p.2 T)))++args.zipIdx.map fun p=>(Zat p.2 T,p.1)
theorem Zm9 {T T':List Str}(h:∀k,Zat k T=Zat k T')(vars:List Str)(args:List Exp):Zh6 T vars args=Zh6 T' vars args:=by
 grind[Zh6]
def ZpJ (S:Exp->Str->Exp->Exp)(l:List (Str×Exp))(b:Exp):Exp:=l.foldl (fun e p=>S e p.1 p.2) b
def ZbB (S:Exp->Str->Exp->Exp)(T:Exp->List Str)(e:Exp)(con:Str)(args:List Exp):Option (Exp×Nat):=
 match e.arms.find? fun a=>a.1.con==con with
 |none=>none
 |some a=>if a.1.vars.length=args.length then some (ZpJ S (Zh6 (T e) a.1.vars args) a.2,4) else none
def ZaO (S:Exp->Str->Exp->Exp)(T:Exp->List Str)(G:Exp->Exp->Exp):Nat->Exp->Option (Exp×Nat)
 |0,_=>none
 |n+1,e=>match e.kids with
  |[f,a]=>
   if e.kind=5 then
    if f.kind=4 then (match f.kids with | [k]=>some (S k f.name a,1) | _=>none)
    else (ZaO S T G n f).map fun p=>(Za6 e (p.1::e.children.tail),p.2)
   else if e.kind=6 then some (S a e.name f,2)
   else if e.kind=7 then some (S a e.name (G e f),3) else none
  |[k]=>
   if e.kind=9 then some (k,5) else if e.kind=11 then some (k,6) else if e.kind=8 then
    if (Zd8 k.weight k []).1.kind=2 then ZbB S T e (Zd8 k.weight k []).1.name (Zd8 k.weight k []).2
    else (ZaO S T G n k).map fun p=>(Za6 e (p.1::e.children.tail),p.2)
   else none
  |_=>none
def ZiQ (a b:Option (Exp×Nat)):Prop:=match a,b with
 |none,none=>True
 |some p,some q=>sameP p.1 q.1/\p.2=q.2
 |_,_=>False
theorem okE.child {e x:Exp}(h:okE e)(hx:x∈e.children):okE x:=⟨h.1.child hx,h.2.1.child hx,h.2.2.child hx⟩
theorem ZhF:∀(n:Nat)(e:Exp)(l:List Exp),okE e->(∀a∈l,okE a)->okE (Zd8 n e l).1/\∀a∈(Zd8 n e l).2,okE a
 |0,e,l,he,hl=>⟨he,hl⟩
 |n+1,e,l,he,hl=>by
  unfold Zd8;split
  .split
   .rename_i f a hk
    have hf:f∈e.children:=Zal (by grind);have ha:a∈e.children:=Zal (by grind);refine ZhF n f (a::l) (he.child hf) fun b hb=>?_;rcases qz.1 hb with rfl|hb
    .exact he.child ha
    grind
   grind
  grind
theorem Zml {e:Exp}{a b:Option (Exp×Nat)}(hc:e.children≠[])(h:ZiQ a b):
 ZiQ (a.map fun p=>(Za6 e (p.1::e.children.tail),p.2)) (b.map fun p=>(Za6 e (p.1::e.children.tail),p.2)):=by
 cases a with
 |none=>
  cases b with
  |none=>trivial
  |some q=>exact h
 |some p=>
  cases b with
  |none=>exact h
  |some q=>
   obtain⟨h1,h2⟩:=h;have hl:∀y:Exp,(y::e.children.tail).length=e.kids.length+e.arms.length:=fun y=>by
    have:=e.children_len;cases hcc:e.children<;>grind
   refine⟨Zgd (hl _) (hl _) ⟨rfl,rfl,rfl,rfl,rfl,rfl,fun i r s hr hs=>?_⟩ fun i y z hy hz=>?_,h2⟩<;>grind[ZaN]
theorem Znm {e:Exp}{con:Str}{args:List Exp}(he:okE e)(ha:∀a∈args,okE a):ZiQ (ZbB subP Zav e con args) (ZbB refP ZaB e con args):=by
 unfold ZbB;cases hf:e.arms.find? fun a=>a.1.con==con with
 |none=>trivial
 |some a=>
  simp only;by_cases hl:a.1.vars.length=args.length
  .rw [if_pos hl,if_pos hl,Zm9 (ZgM e)]
   have hm:=Zbt (qaw hf);refine⟨(ZcO _ _ _ (ZaN a.2) (he.child hm) fun p hp=>?_).1,rfl⟩;grind[Zh6,Zdy]
  .rw [if_neg hl,if_neg hl]
   trivial
theorem ZiZ {G G':Exp->Exp->Exp}{Q:Exp->Prop}(hQ:∀e x,Q e->x∈e.children->Q x)(hG:∀e f,Q e->e.kind=7->sameP (G e f) (G' e f)):∀(n:Nat) (e:Exp),okE e->Q e->ZiQ (ZaO subP Zav G n e) (ZaO refP ZaB G' n e)
 |0,_,_,_=>trivial
 |n+1,e,he,hq=>by
  unfold ZaO;split
  .rename_i f a hk
   have hf:f∈e.children:=Zal (by grind);have ha:a∈e.children:=Zal (by grind);have hne:e.children≠[]:=fun q=>by grind
   by_cases h5:e.kind=5
   .rw [if_pos h5,if_pos h5]
    by_cases h4:f.kind=4
    .rw [if_pos h4,if_pos h4]
     split
     .rename_i k hfk
      exact⟨ZhK (ZaN k) ((he.child hf).child (Zal (by grind))),rfl⟩
     .trivial
    .rw [if_neg h4,if_neg h4]
     exact Zml hne (ZiZ hQ hG n f (he.child hf) (hQ e f hq hf))
   .rw [if_neg h5,if_neg h5]
    by_cases h6:e.kind=6
    .rw [if_pos h6,if_pos h6]
     exact⟨ZhK (ZaN a) (he.child ha),rfl⟩
    .rw [if_neg h6,if_neg h6]
     by_cases h7:e.kind=7
     .rw [if_pos h7,if_pos h7]
      exact⟨ZtI (ZaN a) (hG e f hq h7) (he.child ha),rfl⟩
     .rw [if_neg h7,if_neg h7]
      trivial
  .rename_i k hk
   have hm:k∈e.children:=Zal (by grind);have hne:e.children≠[]:=fun q=>by grind
   by_cases h9:e.kind=9
   .rw [if_pos h9,if_pos h9]
    exact⟨ZaN k,rfl⟩
   .rw [if_neg h9,if_neg h9]
    by_cases h11:e.kind=11
    .rw [if_pos h11,if_pos h11]
     exact⟨ZaN k,rfl⟩
    .rw [if_neg h11,if_neg h11]
     by_cases h8:e.kind=8
     .rw [if_pos h8,if_pos h8]
      by_cases h2:(Zd8 k.weight k []).1.kind=2
      .rw [if_pos h2,if_pos h2]
       exact Znm he (ZhF _ k [] (he.child hm) (by simp)).2
      .rw [if_neg h2,if_neg h2]
       exact Zml hne (ZiZ hQ hG n k (he.child hm) (hQ e k hq hm))
     .rw [if_neg h8,if_neg h8]
      trivial
  .trivial
theorem Zpi {a b:Exp}(h:sameP a b){q:ArmH×Exp}(hq:q∈b.arms):∃p∈a.arms,p.1.con=q.1.con/\p.1.vars=q.1.vars:=by
 obtain⟨⟨_,_,_,_,_,h6,h7⟩,_⟩:=ZaG.1 h;obtain⟨i,hi⟩:=qk.1 hq;obtain⟨p,hp⟩:=Zaa (l:=a.arms) (i:=i) (by rw[h6];exact(qd.1 hi).1);exact⟨p,qa hp,h7 i p q hp hi⟩
theorem Zpn (a:Exp):∀b,sameP a b->okE a->okE b:=by
 have key:∀b,sameP a b->properP a/\conV a->properP b/\conV b:=by
  induction a using Exp.ind with
  |h a ih=>
   intro b h ⟨hp,hc⟩;have hk:∀y∈b.children,properP y/\conV y:=by
    intro y hy;obtain⟨i,hi⟩:=qk.1 hy;obtain⟨x,hx⟩:=Zaa (l:=a.children) (i:=i) (by rw[h.kids_len];exact(qd.1 hi).1);have hm:=qa hx;exact ih x hm y ((ZaG.1 h).2 i x y hx hi) ⟨hp.child hm,hc.child hm⟩
   rw[ZbC,Zdr];refine⟨⟨fun q hq=>?_,fun y hy=>(hk y hy).1⟩,fun q hq k=>?_,fun y hy=>(hk y hy).2⟩
   .obtain ⟨p,hp',g1,g2⟩:=Zpi h hq
    rw[<-g2];exact hp.one p hp'
   .obtain ⟨p,hp',g1,g2⟩:=Zpi h hq
    rw[<-g1];exact hc.one p hp' k
 exact fun b h he=>⟨sameP.shp a b h he.1,key b h he.2⟩
theorem ZgD (a:Exp):sameP a (Zan a):=by
 induction a using Exp.ind with
 |h a ih=>
  obtain⟨h1,h2,h3,h4,h5,h6,h7,h8⟩:=ZbM a;refine ZaG.2 ⟨⟨h1.symm,h2.symm,h3.symm,h4.symm,h5.symm,h6.symm,fun i p q hp hq=>?_⟩,fun i x y hx hy=>?_⟩
  .rw [h8,hp] at hq
   cases hq;exact⟨rfl,rfl⟩
  .rw [h7,qi,hx] at hy
   cases hy;exact ih x (qa hx)
theorem Zt8 {e:Exp}(h:okE e):okE (Zan e):=Zpn e _ (ZgD e) h
theorem ZxX {e:Exp}{cs:List Exp}(hl:cs.length=e.kids.length+e.arms.length)(hk:e.kind≠1)(he:okE e)(hc:∀c∈cs,okE c):okE (Za6 e cs):=by
 obtain⟨_,_,h3,h4⟩:=ZaQ hl;refine⟨ZkI hl hk he.1.one fun c h=>(hc c h).1,?_,?_⟩
 .rw [ZbC,h3]
  exact⟨ZiP h4 he.2.1.one,fun c h=>(hc c h).2.1⟩
 .rw [Zdr,h3]
  refine⟨fun a ha k=>?_,fun c h=>(hc c h).2.2⟩;obtain⟨i,hi⟩:=qk.1 ha;have:=h4 i;rw[hi]at this;cases hq:e.arms[i]? with
  |none=>rw[hq]at this;simp at this
  |some q=>
   rw[hq]at this;simp only[qp,qb]at this;rw[this];exact he.2.2.one q (qa hq) k
theorem ZmG {e:Exp}{o:Option (Exp×Nat)}{p:Exp×Nat}(hk:e.kind≠1)(he:okE e)(hc:e.children≠[])(ho:∀q,o=some q->okE q.1)(h:o.map (fun p=>(Za6 e (p.1::e.children.tail),p.2))=some p):okE p.1:=by
 obtain⟨q,hq,rfl⟩:=qo.1 h;refine ZxX ?_ hk he fun c hcm=>?_
 .have:=e.children_len
  cases hcc:e.children with
  |nil=>exact absurd hcc hc
  |cons c l=>rw[hcc]at this;simpa using this
 .rcases qz.1 hcm with rfl|hcm
  .exact ho q hq
  .exact he.child (List.mem_of_mem_tail hcm)
theorem ZqZ {e:Exp}{con:Str}{args:List Exp}{p:Exp×Nat}(he:okE e)(ha:∀a∈args,okE a)(h:ZbB subP Zav e con args=some p):okE p.1:=by
 unfold ZbB at h;cases hf:e.arms.find? fun a=>a.1.con==con with
 |none=>rw[hf]at h;cases h
 |some a=>
  rw[hf]at h;simp only at h;split at h
  .cases h
   have hm:=Zbt (qaw hf);refine(ZcO _ a.2 a.2 (ZaN a.2) (he.child hm) fun q hq=>?_).2;unfold Zh6 at hq;rcases ql.1 hq with hq|hq
   .obtain ⟨r,_,rfl⟩:=qH.1 hq
    exact Zdy _
   .obtain ⟨⟨y,i⟩,hr,rfl⟩:=qH.1 hq
    exact ha y (qa (qaT.1 hr))
  .cases h
theorem Zgr {G:Exp->Exp->Exp}(hG:∀e f,okE e->e.kind=7->f∈e.children->okE (G e f)):∀(n:Nat) (e:Exp) (p:Exp×Nat),okE e->ZaO subP Zav G n e=some p->okE p.1
 |0,_,_,_,h=>by cases h
 |n+1,e,p,he,h=>by
  unfold ZaO at h;split at h
  .rename_i f a hk
   have hf:f∈e.children:=Zal (by rw[hk];simp);have ha:a∈e.children:=Zal (by rw[hk];simp);have hne:e.children≠[]:=fun q=>by rw[q]at hf;simp at hf
   split at h
   .rename_i h5
    split at h
    .split at h
     .rename_i k hfk
      cases h;exact ZdL ((he.child hf).child (Zal (by rw[hfk];simp))) (he.child ha)
     .cases h
    .exact ZmG (by omega) he hne (fun q hq=>Zgr hG n f q (he.child hf) hq) h
   .split at h
    .cases h
     exact ZdL (he.child ha) (he.child hf)
    .split at h
     .rename_i h7
      cases h;exact ZdL (he.child ha) (hG e f he h7 hf)
     .cases h
  .rename_i k hk
   have hm:k∈e.children:=Zal (by rw[hk];simp);have hne:e.children≠[]:=fun q=>by rw[q]at hm;simp at hm
   split at h
   .cases h
    exact he.child hm
   .split at h
    .cases h
     exact he.child hm
    .split at h
     .rename_i h8
      split at h
      .exact ZqZ he (ZhF _ k [] (he.child hm) (by simp)).2 h
      .exact ZmG (by omega) he hne (fun q hq=>Zgr hG n k q (he.child hm) hq) h
     .cases h
  .cases h
def recZ (e:Exp):Prop:=e.fold fun e l=>(e.kind=7->e.num=0/\e.ty=tz)/\∀p∈l,p
theorem ZeR (e:Exp):recZ e=((e.kind=7->e.num=0/\e.ty=tz)/\∀x∈e.children,recZ x):=by
 have:=Exp.fold_eq (fun e (l:List Prop)=>(e.kind=7->e.num=0/\e.ty=tz)/\∀p∈l,p) e;unfold recZ;rw[this];simp only[qO]
theorem recZ.one {e:Exp}(h:recZ e):e.kind=7->e.num=0/\e.ty=tz:=by grind[ZeR]
theorem recZ.child {e x:Exp}(h:recZ e)(hx:x∈e.children):recZ x:=by grind[ZeR]
theorem isVar.recZ {s:Str}{c:Exp}(h:isVar s c):recZ c:=by
 obtain⟨k,_,_,ty,ks,am⟩:=h;grind[ZeR,Exp.children]
theorem instR.recZ (a:Exp):∀(c:Exp) (V:Rep),instR a c V->recZ a->(∀s d,V s d->recZ d)->recZ c:=by
 induction a using Exp.ind with
 |h a ih=>
  intro c V h ht hv;by_cases hk:a.kind=1
  .exact hv _ _ (h.var hk)
  .obtain ⟨h1,h2,h3,h4⟩:=h.node hk
   rw[ZeR];refine⟨fun q=>?_,fun y hy=>?_⟩
   .rw [<-h1.2.1,<-h1.2.2.1]
    exact ht.one (h1.1.trans q)
   .obtain ⟨i,hi⟩:=qk.1 hy
    obtain⟨x,hx⟩:=Zaa (l:=a.children) (i:=i) (by rw[h1.children];grind);refine ih x (qa hx) y _ (h4 i x y hx hi) (ht.child (qa hx)) fun s d hd=>?_;rcases hd with ⟨_,t,_,_,hvv⟩|⟨_,q,_⟩
    .exact hvv.recZ
    grind
theorem ZhJ {x:Str}{e b:Exp}(he:okE e)(hb:okE b)(h:recZ e)(hr:recZ b):recZ (subP e x b):=by
 refine instR.recZ e _ _ (ZhE x b hb.1 e.weight e (qe _) he.1 he.2.1) h fun s d hd=>?_;unfold subV at hd;split at hd;grind
 .exact hd.recZ
theorem Ztc (s:Str):recZ (varX s):=(show isVar s (varX s)from⟨rfl,rfl,rfl,rfl,rfl,rfl⟩).recZ
theorem Zvu (a:Exp):∀b,sameP a b->recZ a->recZ b:=by
 induction a using Exp.ind with
 |h a ih=>
  intro b h ha;obtain⟨⟨h1,h2,h3,h4,_⟩,h8⟩:=ZaG.1 h;rw[ZeR];refine⟨fun q=>?_,fun y hy=>?_⟩
  .rw [<-h3,<-h4]
   exact ha.one (h1.trans q)
  .obtain ⟨i,hi⟩:=qk.1 hy
   obtain⟨x,hx⟩:=Zaa (l:=a.children) (i:=i) (by rw[h.kids_len];grind);have hm:=qa hx;exact ih x hm y (h8 i x y hx hi) (ha.child hm)
theorem Zq2 {e:Exp}(h:recZ e):recZ (Zan e):=Zvu e _ (ZgD e) h
def ZaR (e f:Exp):Exp:=.mk e.kind e.pos e.name e.num [f,f] e.arms e.ty
def Zcb (e f:Exp):Exp:=.mk 7 0 e.name 0 [f,f] [] tz
theorem Zjr {e f:Exp}(he:shp e)(h:recZ e)(hk:e.kind=7):sameP (ZaR e f) (Zcb e f):=by
 obtain⟨h1,h2⟩:=h.one hk;have ha:=he.one.1.2.1 (show ¬e.kind=8 by omega);unfold ZaR Zcb;rw[hk,h1,h2,ha];refine ZaG.2 ⟨⟨rfl,rfl,rfl,rfl,rfl,rfl,fun i p q hp=>by simp[Exp.arms]at hp⟩,fun i x y hx hy=>?_⟩;have hc:∀p nm nu ty,(Exp.mk 7 p nm nu [f,f] [] ty).children=[f,f]:=fun _ _ _ _=>rfl;grind[ZaN]
theorem Zc0 {e f:Exp}(he:okE e)(hk:e.kind=7)(hf:f∈e.children):okE (ZaR e f):=by
 have ha:=he.1.one.1.2.1 (show ¬e.kind=8 by omega);have hc:(ZaR e f).children=[f,f]:=by grind[ZaR,ZaC]
 have hm:∀y∈(ZaR e f).children,y=f:=fun y hy=>by grind
 have hfo:=he.child hf;have hr:(ZaR e f).arms=[]:=ha;refine⟨?_,?_,?_⟩
 .rw [ZeC]
  refine⟨⟨⟨fun q=>?_,fun _=>ha,fun q=>?_⟩,fun q=>?_,?_⟩,fun y hy=>(hm y hy)▸hfo.1⟩
  .exact absurd (show e.kind=8 from q) (by omega)
  .exact absurd (show e.kind=1 from q) (by omega)
  .exact absurd (show e.kind=1 from q) (by omega)
  .have:=he.1.one.2.2
   show 2=Zhv e.kind;rw[hk];rfl
 .rw [ZbC,hr]
  exact⟨fun a h=>by grind,fun y hy=>(hm y hy)▸hfo.2.1⟩
 .rw [Zdr,hr]
  exact⟨fun a h=>by grind,fun y hy=>(hm y hy)▸hfo.2.2⟩
theorem ZgN (n:Nat)(e:Exp)(he:okE e)(h:recZ e):ZiQ (ZaO subP Zav ZaR n e) (ZaO refP ZaB Zcb n e):=
 ZiZ (Q:=fun e=>okE e/\recZ e) (fun _ _ q hx=>⟨q.1.child hx,q.2.child hx⟩) (fun _ _ q hk=>Zjr q.1.1 q.2 hk) n e he ⟨he,h⟩
theorem Zt7 {e:Exp}{cs:List Exp}(hl:cs.length=e.kids.length+e.arms.length)(he:recZ e)(hc:∀c∈cs,recZ c):recZ (Za6 e cs):=by
 rw[ZeR,(ZaQ hl).2.2.1];exact⟨he.one,hc⟩
theorem Zqq {e f:Exp}(he:okE e)(h:recZ e)(hk:e.kind=7)(hf:f∈e.children):recZ (ZaR e f):=by
 have ha:=he.1.one.1.2.1 (show ¬e.kind=8 by omega);have hc:(ZaR e f).children=[f,f]:=by grind[ZaR,ZaC]
 rw[ZeR,hc];exact⟨fun _=>h.one hk,fun y hy=>by
  have:y=f:=by grind
  exact this▸h.child hf⟩
theorem ZjL:∀(l:List (Str×Exp))(e:Exp),okE e->recZ e->(∀p∈l,okE p.2/\recZ p.2)->recZ (ZaV l e)
 |[],_,_,h,_=>h
 |p::l,e,he,h,hl=>by
  obtain⟨h1,h2⟩:=hl p (by simp);rw[ZcK];exact ZjL l _ (ZdL he h1) (ZhJ he h1 h h2) fun q hq=>hl q (by grind)
theorem ZjV:∀(n:Nat)(e:Exp)(l:List Exp),recZ e->(∀a∈l,recZ a)->∀a∈(Zd8 n e l).2,recZ a
 |0,_,_,_,hl=>hl
 |n+1,e,l,he,hl=>by
  unfold Zd8;split
  .split
   .rename_i f a hk
    have hf:f∈e.children:=Zal (by grind);have ha:a∈e.children:=Zal (by grind);refine ZjV n f (a::l) (he.child hf) fun b hb=>?_;rcases qz.1 hb with rfl|hb
    .exact he.child ha
    grind
   omega
  omega
theorem ZnF {e:Exp}{con:Str}{args:List Exp}{p:Exp×Nat}(he:okE e)(hr:recZ e)(ha:∀a∈args,okE a/\recZ a)(h:ZbB subP Zav e con args=some p):recZ p.1:=by
 unfold ZbB at h;cases hf:e.arms.find? fun a=>a.1.con==con with
 |none=>grind
 |some a=>
  rw[hf]at h;simp only at h;split at h
  .cases h
   have hm:=Zbt (qaw hf);refine ZjL _ a.2 (he.child hm) (hr.child hm) fun q hq=>?_;grind[Zh6,Zdy,Ztc]
  grind
theorem Zj9 {e:Exp}{o:Option (Exp×Nat)}{p:Exp×Nat}(he:recZ e)(hc:e.children≠[])(ho:∀q,o=some q->recZ q.1)(h:o.map (fun p=>(Za6 e (p.1::e.children.tail),p.2))=some p):recZ p.1:=by
 obtain⟨q,hq,rfl⟩:=qo.1 h;refine Zt7 ?_ he fun c hcm=>?_
 .have:=e.children_len
  cases hcc:e.children<;>grind
 .rcases qz.1 hcm with rfl|hcm
  grind
  .exact he.child (List.mem_of_mem_tail hcm)
theorem Zjc:∀(n:Nat)(e:Exp)(p:Exp×Nat),okE e->recZ e->ZaO subP Zav ZaR n e=some p->recZ p.1
 |0,_,_,_,_,h=>by cases h
 |n+1,e,p,he,hr,h=>by
  unfold ZaO at h;split at h
  .rename_i f a hk
   have hf:f∈e.children:=Zal (by grind);have ha:a∈e.children:=Zal (by grind);have hne:e.children≠[]:=fun q=>by grind
   split at h
   .split at h
    .split at h
     .rename_i k hfk
      cases h;have hkf:=Zal (e:=f) (x:=k) (by grind);exact ZhJ ((he.child hf).child hkf) (he.child ha) ((hr.child hf).child hkf) (hr.child ha)
     grind
    .exact Zj9 hr hne (fun q hq=>Zjc n f q (he.child hf) (hr.child hf) hq) h
   .split at h
    .cases h
     exact ZhJ (he.child ha) (he.child hf) (hr.child ha) (hr.child hf)
    .split at h
     .rename_i h7
      cases h;exact ZhJ (he.child ha) (Zc0 he h7 hf) (hr.child ha) (Zqq he hr h7 hf)
     grind
  .rename_i k hk
   have hm:k∈e.children:=Zal (by grind);have hne:e.children≠[]:=fun q=>by grind
   split at h
   .cases h
    exact hr.child hm
   .split at h
    .cases h
     exact hr.child hm
    .split at h
     .split at h
      .have hs:=(ZhF k.weight k [] (he.child hm) (by simp)).2
       have hs2:=ZjV k.weight k [] (hr.child hm) (by simp);grind[ZnF]
      .exact Zj9 hr hne (fun q hq=>Zjc n k q (he.child hm) (hr.child hm) hq) h
     grind
  grind
theorem ZqO (n:Nat)(e:Exp)(p:Exp×Nat)(he:okE e)(hr:recZ e)(h:ZaO subP Zav ZaR n e=some p):okE (Zan p.1)/\recZ (Zan p.1):=
 ⟨Zt8 (Zgr (fun _ _ q k hf=>Zc0 q k hf) n e p he h),Zq2 (Zjc n e p he hr h)⟩
end Go.Vs.Tryz
