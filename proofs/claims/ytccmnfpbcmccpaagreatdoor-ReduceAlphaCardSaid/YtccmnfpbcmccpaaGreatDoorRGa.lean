/- Substitution as the reference does it (plain): up to positions it is the program's. -/
import Derived.Test.YtccmnfpbcmccpaaGreatDoorRFa
set_option linter.unusedSimpArgs false
set_option linter.unusedVariables false
set_option linter.deprecated false
set_option maxRecDepth 9999
namespace Go.Vs.Tryz
open Go Go.Vs
theorem ZxT {t t':List Str}(h:∀k,Zbj k∈t↔Zbj k∈t')(n:Nat):Za1 n t=Za1 n t':=by
 have h1:1<=Za1 n t':=Zcw t' _ 1 n;have hm:Zfl t' 1 (Za1 n t')=n:=Zdz t' _ _ _ (by grind[ZdW]);refine ZhB h1 (fun hk=>Zbz n t' ((h _).1 hk)) ?_;grind[Zfl]
theorem Zp8 {t t':List Str}(h:∀k,Zbj k∈t↔Zbj k∈t')(n:Nat):Zax n t=Zax n t':=by grind[Zax,ZxT]
theorem Zos (k:Nat):Zbj k≠[]:=by unfold Zbj;simp
def listF (e:Exp)(l:List (List Str)):List Str:=(if e.name=[] then [] else [e.name])++(e.arms.map fun a=>a.1.vars).flatten++l.flatten
def ZhH (e:Exp):List Str:=e.fold listF
theorem Zwv (e:Exp):ZhH e=(if e.name=[] then [] else [e.name])++(e.arms.map fun a=>a.1.vars).flatten++(e.children.map ZhH).flatten:=Exp.fold_eq _ e
theorem ZsI {e:Exp}{s:Str}:s∈ZhH e↔(s≠[]/\s=e.name)\/(∃a∈e.arms,s∈a.1.vars)\/∃x∈e.children,s∈ZhH x:=by
 grind[Zwv]
theorem Zl8 (e:Exp){s:Str}(hs:s≠[]):e.wf->(s∈ZhH e↔s∈allP e):=by
 induction e using Exp.ind with
 |h e ih=>
  intro hw;rw[ZsI,ZaN];constructor
  .rintro (⟨_,h⟩|⟨a,ha,h⟩|⟨x,hx,h⟩)
   grind
   .obtain ⟨j,hj⟩:=qh.1 ha
    have h8:e.kind=8:=qV fun q=>by
     have:=hw.one.2.1 q;grind
    have hk1:=hw.one.1 h8;refine .inr ⟨e.kids.length+j,a.2,Zc1 hj,.inl ?_⟩;grind[Zam]
   .obtain ⟨i,hi⟩:=qh.1 hx
    exact .inr ⟨i,x,hi,.inr ((ih x hx (hw.child hx)).1 h)⟩
  .rintro (h|⟨i,x,hi,h|h⟩)
   grind;grind[Zam]
   .exact .inr (.inr ⟨x,qb hi,(ih x (qb hi) (hw.child (qb hi))).2 h⟩)
def ZAS (a b:Exp):Prop:=a.kind=b.kind/\a.name=b.name/\a.num=b.num/\a.ty=b.ty/\a.kids.length=b.kids.length/\a.arms.length=b.arms.length/\
 ∀(i:Nat) p q,a.arms[i]?=some p->b.arms[i]?=some q->p.1.con=q.1.con/\p.1.vars=q.1.vars
theorem ZaZ {a b:Exp}:sameP a b↔ZAS a b/\∀(i:Nat) x y,a.children[i]?=some x->b.children[i]?=some y->sameP x y:=by
 rw[ZhU];unfold ZAS;simp only[and_assoc]
theorem sameP.kids_len {a b:Exp}(h:sameP a b):a.children.length=b.children.length:=by
 obtain⟨⟨_,_,_,_,h1,h2,_⟩,_⟩:=ZaZ.1 h;simp_all
theorem sameP.kid {a b:Exp}(h:sameP a b){i:Nat}{x:Exp}(hx:a.children[i]?=some x):∃y,b.children[i]?=some y/\sameP x y:=by
 obtain⟨y,hy⟩:=Zaa (l:=b.children) (i:=i) (by rw[<-h.kids_len];grind);grind[ZaZ]
theorem sameP.weight (a:Exp):∀b,sameP a b->a.weight=b.weight:=by
 induction a using Exp.ind with
 |h a ih=>
  intro b h;obtain⟨⟨_,_,_,_,_,h6,h7⟩,h8⟩:=ZaZ.1 h;have hl:=h.kids_len;rw[a.weight_eq,b.weight_eq];congr 1
  .congr 2
   refine qG fun i=>?_;grind
  .congr 1
   refine qG fun i=>?_;grind
theorem sameP.shp (a:Exp):∀b,sameP a b->shp a->shp b:=by
 induction a using Exp.ind with
 |h a ih=>
  intro b h hs;obtain⟨⟨h1,h2,h3,h4,h5,h6,h7⟩,h8⟩:=ZaZ.1 h;rw[ZdA];refine⟨?_,fun y hy=>?_⟩
  .obtain ⟨⟨w1,w2,w3⟩,w4,w5⟩:=hs.one
   have hz:∀{α:Type} {l m:List α},l.length=m.length->l=[]->m=[]:=fun hl he=>qD.1 (by grind);refine⟨⟨fun k=>by omega,fun k=>qD.1 (by grind),fun k=>qD.1 (by grind)⟩,fun k=>?_,by grind⟩;grind
  .obtain ⟨i,hi⟩:=qh.1 hy
   obtain⟨x,hx⟩:=Zaa (l:=a.children) (i:=i) (by rw[h.kids_len];grind);exact ih x (qb hx) y (h8 i x y hx hi) (hs.child (qb hx))
theorem Zj2 (a:Exp):∀b,sameP a b->∀u,u∈Zah a->u∈Zah b:=by
 induction a using Exp.ind with
 |h a ih=>
  intro b h u hu;obtain⟨⟨h1,h2,_⟩,h8⟩:=ZaZ.1 h;by_cases hk:a.kind=1;grind[ZaU]
  .obtain ⟨i,x,hx,hf,hb⟩:=(Zbv hk).1 hu
   obtain⟨y,hy,hs⟩:=h.kid hx;grind[Zbv,Zfc]
theorem ZgC {a b:Exp}(h:sameP a b)(u:Str):u∈Zah a↔u∈Zah b:=⟨Zj2 a b h u,Zj2 b a (Zkb a b h) u⟩
theorem Zme (a:Exp):∀b,sameP a b->∀u,u∈allP a->u∈allP b:=by
 induction a using Exp.ind with
 |h a ih=>
  intro b h u hu;obtain⟨⟨h1,h2,_⟩,h8⟩:=ZaZ.1 h;rcases ZaN.1 hu with hu|⟨i,x,hx,hu⟩
  grind[ZaN]
  .obtain ⟨y,hy,hs⟩:=h.kid hx
   grind[ZaN,Zfc]
theorem Zll {a b:Exp}(h:sameP a b)(u:Str):u∈allP a↔u∈allP b:=⟨Zme a b h u,Zme b a (Zkb a b h) u⟩
theorem ZlL {e e':Exp}{cs ds:List Exp}(hc:cs.length=e.kids.length+e.arms.length)(hd:ds.length=e'.kids.length+e'.arms.length)(h:ZAS e e')
 (hk:∀(i:Nat) x y,cs[i]?=some x->ds[i]?=some y->sameP x y):sameP (Zbs e cs) (Zbs e' ds):=by
 obtain⟨c1,c2,c3,c4⟩:=ZaJ hc;obtain⟨d1,d2,d3,d4⟩:=ZaJ hd;obtain⟨h1,h2,h3,h4,h5,h6,h7⟩:=h;refine ZaZ.2 ⟨⟨h1,h2,h3,h4,by rw[c1,d1,h5],by rw[c2,d2,h6],fun i p q hp hq=>?_⟩,fun i x y hx hy=>?_⟩<;>grind
def varX (s:Str):Exp:=.mk 1 0 s 0 [] [] tz
theorem ZmT (s:Str):Zah (varX s)=[s]:=by rfl
def newR (x:Str)(b e:Exp):Str:=Zax 0 (Zah b++ZhH e++[x])
def newA (x con:Str)(b:Exp)(p:List Str×Exp):Str:=Zax 0 (Zah b++ZhH p.2++[x,con]++p.1)
def ZhW (S:Exp->Str->Exp->Exp)(x:Str)(b:Exp)(con:Str)(p:List Str×Exp)(i:Nat):List Str×Exp:=match p.1[i]? with
 |none=>p
 |some v=>if v∈Zah b/\x∈Zah p.2 then (p.1.set i (newA x con b p),S p.2 v (varX (newA x con b p))) else p
def Zgc (S:Exp->Str->Exp->Exp)(x:Str)(b:Exp)(con:Str)(vs:List Str)(e:Exp)(k:Nat):List Str×Exp:=(List.range k).foldl (ZhW S x b con) (vs,e)
theorem ZiR (S:Exp->Str->Exp->Exp)(x:Str)(b:Exp)(con:Str)(vs:List Str)(e:Exp)(k:Nat):Zgc S x b con vs e (k+1)=ZhW S x b con (Zgc S x b con vs e k) k:=by
 unfold Zgc;rw[List.range_succ,qaY];rfl
def ZkI (S:Exp->Str->Exp->Exp)(x:Str)(b:Exp)(a:ArmH×Exp):ArmH×Exp:=
 if x∈a.1.vars then a else (⟨a.1.pos,a.1.con,(Zgc S x b a.1.con a.1.vars a.2 a.1.vars.length).1⟩,(Zgc S x b a.1.con a.1.vars a.2 a.1.vars.length).2)
def Zzx (S:Exp->Str->Exp->Exp)(x:Str)(b:Exp)(e:Exp):Exp:=
 if e.name=x\/e.kids.length<=ZaK e\/¬hitP x (Zah b) e.name (e.kids.drop (ZaK e)) then e else
  .mk e.kind e.pos (newR x b e) e.num (e.kids.zipIdx.map fun p=>if p.2<ZaK e then p.1 else S p.1 e.name (varX (newR x b e))) e.arms e.ty
def Zju (S:Exp->Str->Exp->Exp)(x:Str)(b:Exp)(e:Exp):Exp:=
 if e.kind=4\/e.kind=6\/e.kind=7 then Zzx S x b e else if e.kind=8 then .mk e.kind e.pos e.name e.num e.kids (e.arms.map (ZkI S x b)) e.ty else e
def refS:Nat->Exp->Str->Exp->Exp
 |0,e,_,_=>e
 |n+1,e,x,b=>if e.kind=1 then (if e.name=x then b else e) else
  Zbs (Zju (refS n) x b e) ((Zju (refS n) x b e).children.zipIdx.map fun p=>if x∈(Zju (refS n) x b e).bound p.2 then p.1 else refS n p.1 x b)
def refC (n:Nat)(e:Exp)(x:Str)(b:Exp):List Exp:=e.children.zipIdx.map fun p=>if x∈e.bound p.2 then p.1 else refS n p.1 x b
@[simp] theorem refC_len (n:Nat) (e:Exp) (x:Str) (b:Exp):(refC n e x b).length=e.kids.length+e.arms.length:=by simp[refC]
theorem ZoB {n:Nat}{e y:Exp}{x:Str}{b:Exp}{i:Nat}(h:e.children[i]?=some y):(refC n e x b)[i]?=some (if x∈e.bound i then y else refS n y x b):=by
 simp[refC,h]
theorem Zmy (n:Nat)(e:Exp)(x:Str)(b:Exp):refS (n+1) e x b=if e.kind=1 then (if e.name=x then b else e) else Zbs (Zju (refS n) x b e) (refC n (Zju (refS n) x b e) x b):=rfl
theorem Zmx {S:Exp->Str->Exp->Exp}{x to con:Str}{vs:List Str}{e:Exp}(h:to∉vs):∀k,Zgc S x (varX to) con vs e k=(vs,e)
 |0=>rfl
 |k+1=>by
  rw[ZiR,Zmx h k];grind[ZhW,ZmT]
theorem Zwz {S:Exp->Str->Exp->Exp}{x to:Str}{e:Exp}(hw:e.wf)(h:to∉allP e):Zju S x (varX to) e=e:=by
 unfold Zju;by_cases h4:e.kind=4\/e.kind=6\/e.kind=7
 .rw [if_pos h4]
  unfold Zzx;rw[if_pos];refine .inr (.inr fun q=>h ?_);have:=q.1;grind[ZmT,ZaN]
 .rw [if_neg h4]
  by_cases h8:e.kind=8
  .rw [if_pos h8]
   have hm:e.arms.map (ZkI S x (varX to))=e.arms:=by
    refine qG fun i=>?_;rw[qp];cases ha:e.arms[i]? with
    |none=>rfl
    |some a=>
     have hk1:=hw.one.1 h8;have hv:to∉a.1.vars:=fun q=>h (ZaN.2 (.inr ⟨e.kids.length+i,a.2,Zc1 ha,.inl (by
      grind[Zam])⟩))
     simp only[qr];unfold ZkI;rw[Zmx hv];simp
   rw[hm];cases e;rfl
  grind
theorem Zha (f to:Str):∀(n:Nat) (e e':Exp),sameP e e'->e.weight<=n->shp e->to∉allP e->sameP (repl f to e) (refS n e' f (varX to))
 |0,e,_,_,h,_,_=>by have:=e.weight_pos;omega
 |n+1,e,e',h,hn,hs,ht=>by
  obtain⟨hh,hc⟩:=ZaZ.1 h;obtain⟨h1,h2,h3,h4,h5,h6,h7⟩:=hh;have hs':=sameP.shp e e' h hs;rw[Zmy];by_cases hk:e.kind=1
  .rw [Zdf hk,if_pos (h1.symm.trans hk),<-h2]
   by_cases hx:e.name=f
   .rw [if_pos hx,if_pos hx]
    obtain⟨a1,a2,a3⟩:=ZbP hs.one.1 hk;obtain⟨m,t⟩:=hs.one.2.1 hk;rw[hk,m,t,a1,a2];refine ZaZ.2 ⟨⟨rfl,rfl,rfl,rfl,rfl,rfl,fun i p q hp=>by simp[Exp.arms]at hp⟩,fun i x y hx=>?_⟩;grind[Exp.children,Exp.kids,Exp.arms]
   grind
  .rw [Zew hk,if_neg (fun q=>hk (h1.trans q)),Zwz hs'.wf (fun q=>ht ((Zll h to).2 q))]
   refine ZlL (replC_len _ _ _) (refC_len _ _ _ _) ⟨h1,h2,h3,h4,h5,h6,h7⟩ fun i x y hx hy=>?_;obtain⟨x0,hx0⟩:=Zaa (l:=e.children) (i:=i) (by rw[e.children_len,<-replC_len f to e];grind);obtain⟨y0,hy0,hxy⟩:=h.kid hx0;rw[Zcb hx0]at hx;rw[ZoB hy0,<-Zfc h]at hy;cases hx;cases hy;have hm:=qb hx0;by_cases hb:f∈e.bound i;grind
   .rw [if_neg hb,if_neg hb]
    exact Zha f to n x0 y0 hxy (by have:=Exp.child_lt hm;omega) (hs.child hm) fun q=>ht (ZaN.2 (.inr ⟨i,x0,hx0,.inr q⟩))
def conV (e:Exp):Prop:=e.fold fun e l=>(∀a∈e.arms,∀k,a.1.con≠Zbj k)/\∀p∈l,p
theorem Zcz (e:Exp):conV e=((∀a∈e.arms,∀k,a.1.con≠Zbj k)/\∀x∈e.children,conV x):=by
 have:=Exp.fold_eq (fun e (l:List Prop)=>(∀a∈e.arms,∀k,a.1.con≠Zbj k)/\∀p∈l,p) e;unfold conV;rw[this];simp only[qQ]
theorem conV.one {e:Exp}(h:conV e):∀a∈e.arms,∀k,a.1.con≠Zbj k:=by grind[Zcz]
theorem conV.child {e x:Exp}(h:conV e)(hx:x∈e.children):conV x:=by grind[Zcz]
theorem ZlP (frm to:Str)(e:Exp):conV e->conV (repl frm to e):=by
 induction e using Exp.ind with
 |h e ih=>
  intro h;by_cases hk:e.kind=1
  .rw [Zdf hk]
   split
   .rw [Zcz]
    exact⟨h.one,fun x hx=>h.child hx⟩
   omega
  .rw [Zew hk,Zcz]
   obtain⟨_,_,h3,h4⟩:=ZaJ (replC_len frm to e);refine⟨fun a ha k=>?_,fun c hc=>?_⟩
   .obtain ⟨i,hi⟩:=qh.1 ha
    have:=h4 i;rw[hi]at this;cases hq:e.arms[i]? with
    |none=>grind
    |some q=>
     rw[hq]at this;simp only[qr,qc]at this;rw[this];exact h.one q (qb hq) k
   .rw [h3] at hc
    obtain⟨i,hi⟩:=qh.1 hc;obtain⟨x,hx⟩:=Zaa (l:=e.children) (i:=i) (by have:=(qd.1 hi).1;simp_all);rw[Zcb hx]at hi;cases hi;have hm:=qb hx;split
    .exact h.child hm
    .exact ih x hm (h.child hm)
theorem ZjL {x:Str}{free vs:List Str}{b:Exp}(h:conV b):∀k,conV (Zdv x free vs b k).2
 |0=>h
 |k+1=>by
  rw[Zdj];have:=ZjL (x:=x) (free:=free) (vs:=vs) h k;grind[ZdS,ZlP]
theorem Zmw {x:Str}{free:List Str}{e:Exp}(hs:shp e)(h:conV e):∀y∈(Zcq x free e).children,conV y:=by
 unfold Zcq;by_cases h4:e.kind=4\/e.kind=6\/e.kind=7
 .rw [if_pos h4]
  obtain⟨ha,hc⟩:=Zba (by omega) hs.one;unfold ZcE;split
  .exact fun y hy=>h.child hy
  .intro y hy
   rw[Zaw,ha]at hy;simp only[qaf,qI,qF]at hy;obtain⟨⟨z,i⟩,hz,rfl⟩:=hy;have hm:z∈e.children:=(by grind);simp only;split
   .exact h.child hm
   .exact ZlP _ _ _ (h.child hm)
 .rw [if_neg h4]
  by_cases h8:e.kind=8
  .rw [if_pos h8]
   intro y hy;rw[Zaw]at hy;rcases qn.1 hy with hy|hy
   .exact h.child (Zar hy)
   .obtain ⟨a,ha,rfl⟩:=qF.1 hy
    obtain⟨p,hp,rfl⟩:=qF.1 ha;unfold armP;split
    .exact h.child (ZbM hp)
    .exact ZjL (h.child (ZbM hp)) _
  .rw [if_neg h8]
   exact fun y hy=>h.child hy
theorem ZoF {n:Nat}{x con:Str}{b:Exp}{vs:List Str}{e e':Exp}(hcon:∀k,con≠Zbj k)(hi:inj vs)(hx:x∉vs)(hs:shp e)(hp:properP e)(hw:e.weight<=n)(h:sameP e e'):
 ∀k,k<=vs.length->(Zdv x (Zah b) vs e k).1=(Zgc (refS n) x b con vs e' k).1/\sameP (Zdv x (Zah b) vs e k).2 (Zgc (refS n) x b con vs e' k).2
 |0,_=>⟨rfl,h⟩
 |k+1,hk=>by
  obtain⟨g1,g2⟩:=ZoF (b:=b) hcon hi hx hs hp hw h k (by omega);have ho:=Ze6 (free:=Zah b) hi hx hs hp k (by omega);rw[Zdj,ZiR];generalize Zdv x (Zah b) vs e k=p at *
  generalize Zgc (refS n) x b con vs e' k=q at *
  obtain⟨v1,e1⟩:=p;obtain⟨v2,e2⟩:=q;simp only at g1 g2 ho;subst g1;obtain⟨v,hv⟩:=Zaa (l:=v1) (i:=k) (by rw[ho.len];exact hk);have hdrop:v∉v1.drop (k+1):=by
   intro hm;obtain⟨j,hj⟩:=qh.1 hm;rw[qad]at hj;have:=ho.inj k _ v hv hj;omega
  unfold ZdS ZhW;simp only[hv];by_cases hh:v∈Zah b/\x∈Zah e1
  .have hto:Zax 0 (allP e1++v1++Zah b++[x])=newA x con b (v1,e2):=by
    refine Zp8 (fun j=>?_) 0;have ha:Zbj j∈allP e1↔Zbj j∈ZhH e2:=by
     rw[Zl8 e2 (Zos j) (sameP.shp e1 e2 g2 ho.shape).wf];exact Zll g2 _
    grind
   rw[if_neg (show ¬(v∈v1.drop (k+1)\/¬hitP x (Zah b) v [e1])from fun q=>q.elim hdrop fun q=>q ⟨hh.1,e1,by simp,hh.2⟩),if_pos ⟨hh.1,(ZgC g2 x).1 hh.2⟩];have hf:=Zbz 0 (allP e1++v1++Zah b++[x]);rw[hto]at hf |-;simp only[qn,not_or]at hf;exact⟨rfl,Zha v _ n e1 e2 g2 (by rw[ho.weight];exact hw) ho.shape hf.1.1.1⟩
  grind[hitP,ZgC]
theorem Zt1 {n:Nat}{x:Str}{b e e':Exp}(h:sameP e e')(hs:shp e)(hp:properP e)(hc:conV e)(hn:e.weight<=n+1):sameP (Zcq x (Zah b) e) (Zju (refS n) x b e'):=by
 have hs':=sameP.shp e e' h hs;obtain⟨⟨h1,h2,h3,h4,h5,h6,h7⟩,h8⟩:=ZaZ.1 h;unfold Zcq Zju;by_cases hb:e.kind=4\/e.kind=6\/e.kind=7
 .rw [if_pos hb,if_pos (h1▸hb)]
  obtain⟨ha,hch⟩:=Zba (by omega) hs.one;obtain⟨ha',hch'⟩:=Zba (e:=e') (by omega) hs'.one;have hsc:ZaK e'=ZaK e:=by unfold ZaK;rw[h1]
  have hkid:∀(i:Nat) k,e.kids[i]?=some k->∃k',e'.kids[i]?=some k'/\sameP k k':=fun i k hk=>by
   grind
  have hhit:hitP x (Zah b) e'.name (e'.kids.drop (ZaK e))↔hitP x (Zah b) e.name (e.kids.drop (ZaK e)):=by
   unfold hitP;rw[h2];refine and_congr_right fun _=>⟨?_,?_⟩
   .rintro ⟨k',hk',hf⟩
    obtain⟨j,hj⟩:=qh.1 hk';rw[qad]at hj;obtain⟨k,hk⟩:=Zaa (l:=e.kids) (i:=ZaK e+j) (by grind);obtain⟨k2,hk2,hsm⟩:=hkid _ k hk;rw[hj]at hk2;cases hk2;exact⟨k,qb (i:=j) (by grind),(ZgC hsm x).2 hf⟩
   .rintro ⟨k,hk,hf⟩
    obtain⟨j,hj⟩:=qh.1 hk;rw[qad]at hj;obtain⟨k2,hk2,hsm⟩:=hkid _ k hj;exact⟨k2,qb (i:=j) (by grind),(ZgC hsm x).1 hf⟩
  unfold ZcE Zzx;have hcond:(e'.name=x\/e'.kids.length<=ZaK e'\/¬hitP x (Zah b) e'.name (e'.kids.drop (ZaK e')))↔(e.name=x\/e.kids.length<=ZaK e\/¬hitP x (Zah b) e.name (e.kids.drop (ZaK e))):=by grind
  by_cases hcn:e.name=x\/e.kids.length<=ZaK e\/¬hitP x (Zah b) e.name (e.kids.drop (ZaK e));grind
  .rw [if_neg hcn,if_neg (fun q=>hcn (hcond.1 q)),hsc,<-h2]
   have hto:Zax 0 (allP e++Zah b++[x])=newR x b e':=by
    refine Zp8 (fun j=>?_) 0;have ha:Zbj j∈allP e↔Zbj j∈ZhH e':=by
     rw[Zl8 e' (Zos j) hs'.wf];exact Zll h _
    grind
   have hf:=Zbz 0 (allP e++Zah b++[x]);rw[hto]at hf |-;simp only[qn,not_or]at hf;generalize newR x b e'=to at hf |-;refine ZaZ.2 ⟨⟨h1,rfl,h3,h4,by grind[Zoc,List.length_zipIdx],h6,h7⟩,fun i y z hy hz=>?_⟩;rw[Zaw,ha,qaf,qI,qp,qaF]at hy;rw[Zaw,ha',qaf,qI,qp,qaF]at hz;cases hk:e.kids[i]? with
   |none=>grind
   |some k=>
    obtain⟨k',hk',hsm⟩:=hkid i k hk;rw[hk]at hy;rw[hk']at hz;simp only[qr,qaR,qc]at hy hz;subst hy;subst hz;have hm:k∈e.children:=(by grind);by_cases hi:i<ZaK e;grind
    .rw [if_neg hi,if_neg hi]
     exact Zha _ _ n k k' hsm (by have:=Exp.child_lt hm;omega) (hs.child hm) fun q=>hf.1.1 (ZaN.2 (.inr ⟨i,k,by grind,.inr q⟩))
 .rw [if_neg hb,if_neg (show ¬(e'.kind=4\/e'.kind=6\/e'.kind=7) by omega)]
  by_cases k8:e.kind=8
  .rw [if_pos k8,if_pos (h1.symm.trans k8)]
   have harm:∀(i:Nat) p q,e.arms[i]?=some p->e'.arms[i]?=some q->(armP x (Zah b) p).1.con=(ZkI (refS n) x b q).1.con/\(armP x (Zah b) p).1.vars=(ZkI (refS n) x b q).1.vars/\sameP (armP x (Zah b) p).2 (ZkI (refS n) x b q).2:=by
    intro i p q hp' hq;obtain⟨g1,g2⟩:=h7 i p q hp' hq;have hm:=ZbM (qb hp');have hbs:sameP p.2 q.2:=h8 (e.kids.length+i) p.2 q.2 (Zc1 hp') (by grind[Zc1]);have ha:=ZoF (n:=n) (x:=x) (con:=p.1.con) (b:=b) (e:=p.2) (e':=q.2) (hc.one p (qb hp')) (hp.one p (qb hp'));unfold armP ZkI;rw[<-g2];by_cases hx:x∈p.1.vars;grind
    .rw [if_neg hx,if_neg hx]
     have:=ha hx (hs.child hm) (hp.child hm) (by have:=Exp.child_lt hm;omega) hbs p.1.vars.length (qg _);grind
   refine ZaZ.2 ⟨⟨h1,h2,h3,h4,h5,by grind[Zcs],fun i p q hp' hq=>?_⟩,fun i y z hy hz=>?_⟩;grind[Zcs]
   .rw [Zaw] at hy hz
    by_cases hi:i<e.kids.length
    .rw [qE hi] at hy
     rw[qE (by omega)]at hz;refine h8 i y z ?_ ?_<;>grind[Exp.children]
    grind
  grind
theorem Zo7 (x:Str)(b:Exp):∀(n:Nat) (e e':Exp),sameP e e'->e.weight<=n->shp e->properP e->conV e->sameP (subN n e x b) (refS n e' x b)
 |0,e,_,_,h,_,_,_=>by have:=e.weight_pos;omega
 |n+1,e,e',h,hn,hs,hp,hc=>by
  obtain⟨⟨h1,h2,_⟩,_⟩:=ZaZ.1 h;rw[Zdr,Zmy];by_cases hk:e.kind=1;grind[ZgJ]
  .rw [if_neg hk,if_neg (fun q=>hk (h1.trans q))]
   have hP:=ZfA (x:=x) (b:=b) hs hp;have hC:=Zmw (x:=x) (free:=Zah b) hs hc;have hS:=Zt1 (n:=n) (x:=x) (b:=b) h hs hp hc hn;generalize Zcq x (Zah b) e=d at *
   generalize Zju (refS n) x b e'=d' at *
   refine ZlL (subC_len _ _ _ _) (refC_len _ _ _ _) (ZaZ.1 hS).1 fun i y z hy hz=>?_;obtain⟨x1,hx1⟩:=Zaa (l:=d.children) (i:=i) (by rw[d.children_len,<-subC_len n d x b];grind);obtain⟨y1,hy1,hsm⟩:=hS.kid hx1;obtain⟨x0,hx0⟩:=Zaa (l:=e.children) (i:=i) (by grind[Zcr]);have hK:=hP.kids i x0 x1 hx0 hx1;rw[ZdC hx1]at hy;rw[ZoB hy1,<-Zfc hS]at hz;cases hy;cases hz;by_cases hb:x∈d.bound i;grind
   .rw [if_neg hb,if_neg hb]
    exact Zo7 x b n x1 y1 hsm (by have:=Exp.child_lt (qb hx0);have:=hK.weight;omega) hK.shape hK.proper (hC x1 (qb hx1))
theorem Zlo {x:Str}{free:List Str}{e:Exp}(hs:shp e)(h:conV e):∀a∈(Zcq x free e).arms,∀k,a.1.con≠Zbj k:=by
 unfold Zcq;by_cases h4:e.kind=4\/e.kind=6\/e.kind=7
 .rw [if_pos h4]
  unfold ZcE;split
  .exact h.one
  .exact h.one
 .rw [if_neg h4]
  by_cases h8:e.kind=8
  .rw [if_pos h8]
   intro a ha k;rw[Zcs]at ha;obtain⟨p,hp,rfl⟩:=qF.1 ha;have:=h.one p hp k;unfold armP;split
   .exact this
   .exact this
  .rw [if_neg h8]
   exact h.one
theorem ZpJ (x:Str)(b:Exp)(hb:conV b):∀(n:Nat) (e:Exp),e.weight<=n->shp e->properP e->conV e->conV (subN n e x b)
 |0,e,h,_,_,_=>by have:=e.weight_pos;omega
 |n+1,e,h,hs,hp,hc=>by
  rw[Zdr];by_cases hk:e.kind=1
  .rw [if_pos hk]
   split
   .exact hb
   .exact hc
  .rw [if_neg hk]
   have hP:=ZfA (x:=x) (b:=b) hs hp;have hC:=Zmw (x:=x) (free:=Zah b) hs hc;have hA:=Zlo (x:=x) (free:=Zah b) hs hc;generalize Zcq x (Zah b) e=e' at *
   obtain⟨g1,g2,g3,g4⟩:=ZaJ (subC_len n e' x b);rw[Zcz];refine⟨fun a ha k=>?_,fun y hy=>?_⟩
   .obtain ⟨i,hi⟩:=qh.1 ha
    have:=g4 i;rw[hi]at this;cases hq:e'.arms[i]? with
    |none=>rw[hq]at this;simp at this
    |some q=>
     rw[hq]at this;simp only[qr,qc]at this;rw[this];exact hA q (qb hq) k
   .rw [g3] at hy
    obtain⟨i,hi⟩:=qh.1 hy;obtain⟨x1,h1⟩:=Zaa (l:=e'.children) (i:=i) (by rw[e'.children_len,<-subC_len n e' x b];exact(qd.1 hi).1);obtain⟨x0,h0⟩:=Zaa (l:=e.children) (i:=i) (by rw[<-Zcr hP];exact(qd.1 h1).1);have hK:=hP.kids i x0 x1 h0 h1;rw[ZdC h1]at hi;cases hi;have hm:=qb h1;split
    .exact hC x1 hm
    .exact ZpJ x b hb n x1 (by have:=Exp.child_lt (qb h0);have:=hK.weight;omega) hK.shape hK.proper (hC x1 hm)
def Zez:Nat->Exp->List Exp->Exp×List Exp
 |0,e,l=>(e,l)
 |n+1,e,l=>if e.kind=5 then match e.kids with
  |[f,a]=>Zez n f (a::l)
  |_=>(e,l)
  else (e,l)
theorem Zfb {α β:Type}{f:α×Nat->Nat}{g:β×Nat->Nat}:∀(l:List α) (m:List β) (k:Nat),l.length=m.length->
 (∀(i:Nat) x y,l[i]?=some x->m[i]?=some y->f (x,k+i)<=g (y,k+i))->((l.zipIdx k).map f).sum<=((m.zipIdx k).map g).sum
 |[],[],_,_,_=>qg _
 |[],_::_,_,h,_=>by simp
 |_::_,[],_,h,_=>by grind
 |a::l,b::m,k,h,hf=>by
  simp only[qa4,qt,qaa];have h1:=hf 0 a b rfl rfl;have h2:=Zfb (f:=f) (g:=g) l m (k+1) (by grind) fun i x y hx hy=>by
   have:=hf (i+1) x y (by grind) (by grind);grind
  grind
theorem Zig {α:Type}{f g:α×Nat->Nat}{M:Nat}:∀(l:List α) (k:Nat),(∀(i:Nat) x,l[i]?=some x->f (x,k+i)<=g (x,k+i)*M)->((l.zipIdx k).map f).sum<=((l.zipIdx k).map g).sum*M
 |[],_,_=>by simp
 |a::l,k,hf=>by
  simp only[qa4,qt,qaa];have h1:=hf 0 a rfl;have h2:=Zig (f:=f) (g:=g) (M:=M) l (k+1) fun i x hx=>by
   have:=hf (i+1) x (by grind);grind
  grind
def asg (ρ:Str->Nat)(bs:List Str):Str->Nat:=fun s=>if s∈bs then 1 else ρ s
def wF (e:Exp)(l:List ((Str->Nat)->Nat))(ρ:Str->Nat):Nat:=if e.kind=1 then ρ e.name else 1+(e.arms.map fun a=>a.1.vars.length).sum+(l.zipIdx.map fun p=>p.1 (asg ρ (e.bound p.2))).sum
def wV (e:Exp):(Str->Nat)->Nat:=e.fold wF
theorem Zjf {e:Exp}(h:e.kind=1)(ρ:Str->Nat):wV e ρ=ρ e.name:=by
 unfold wV;rw[Exp.fold_eq,wF,if_pos h]
theorem Zvm {α β γ:Type}{f:α->β}{g:β×Nat->γ}:∀(l:List α) (k:Nat),((l.map f).zipIdx k).map g=(l.zipIdx k).map fun p=>g (f p.1,p.2)
 |[],_=>rfl
 |a::l,k=>by simp only[qt,qa4,Zvm l (k+1)]
theorem Zrc {e:Exp}(h:e.kind≠1)(ρ:Str->Nat):wV e ρ=1+(e.arms.map fun a=>a.1.vars.length).sum+(e.children.zipIdx.map fun p=>wV p.1 (asg ρ (e.bound p.2))).sum:=by
 unfold wV;rw[Exp.fold_eq,wF,if_neg h,Zvm]
theorem Zn6 (e:Exp):∀(ρ σ:Str->Nat),(∀s∈Zah e,ρ s<=σ s)->wV e ρ<=wV e σ:=by
 induction e using Exp.ind with
 |h e ih=>
  intro ρ σ h;by_cases hk:e.kind=1;grind[Zjf,ZaU]
  .rw [Zrc hk,Zrc hk]
   refine Nat.add_le_add_left (Zfb _ _ 0 rfl fun i x y hx hy=>?_) _;rw[hx]at hy;cases hy;refine ih x (qb hx) _ _ fun s hs=>?_;grind[asg,Zbv]
theorem Zjx (e:Exp):(e.children.map Exp.weight).sum=(e.children.zipIdx.map fun p=>p.1.weight).sum:=by
 congr 1;refine qG fun i=>?_;grind
theorem Zvz {M:Nat}(hM:1<=M)(e:Exp):∀(ρ:Str->Nat),(∀s∈Zah e,ρ s<=M)->wV e ρ<=e.weight*M:=by
 induction e using Exp.ind with
 |h e ih=>
  intro ρ h;have hw:=e.weight_pos;by_cases hk:e.kind=1;grind[Zjf,qx,ZaU,Nat.le_mul_of_pos_left]
  .rw [Zrc hk,e.weight_eq,Zjx]
   have h1:=Zig (f:=fun p=>wV p.1 (asg ρ (e.bound p.2))) (g:=fun p:Exp×Nat=>p.1.weight) (M:=M) e.children 0 fun i x hx=>by
    grind[asg,Zbv]
   have h2:1+(e.arms.map fun a=>a.1.vars.length).sum<=(1+(e.arms.map fun a=>a.1.vars.length).sum)*M:=Nat.le_mul_of_pos_right _ hM;grind
theorem ZzU (e:Exp):∀(ρ:Str->Nat),shp e->(∀s,1<=ρ s)->e.weight<=wV e ρ:=by
 induction e using Exp.ind with
 |h e ih=>
  intro ρ hs h;by_cases hk:e.kind=1
  .obtain ⟨a1,a2,_⟩:=ZbP hs.one.1 hk
   have:e.weight=1:=(by rw[e.weight_eq,Exp.children,a1,a2];rfl);grind[Zjf]
  .rw [Zrc hk,e.weight_eq,Zjx]
   refine Nat.add_le_add_left (Zfb _ _ 0 rfl fun i x y hx hy=>?_) _;rw[hx]at hy;cases hy;refine ih x (qb hx) _ (hs.child (qb hx)) fun s=>?_;grind[asg]
theorem ZAo (a:Exp):∀(c:Exp) (V:Rep) (ρ σ:Str->Nat),instR a c V->(∀s∈Zah a,∀d,V s d->wV d σ<=ρ s)->wV c σ<=wV a ρ:=by
 induction a using Exp.ind with
 |h a ih=>
  intro c V ρ σ h hv;by_cases hk:a.kind=1
  .rw [Zjf hk]
   exact hv _ ((ZaU hk).2 rfl) _ (h.var hk)
  .obtain ⟨h1,h2,h3,h4⟩:=h.node hk
   have hl:c.children.length=a.children.length:=h1.children.symm;have hsum:=ZoY (e:=a) (e':=c) h1.2.2.2.2.symm fun i p q hp hq=>(h3 i p q hp hq).2;rw[Zrc (show c.kind≠1 from fun q=>hk (h1.1.trans q)),Zrc hk,hsum];refine Nat.add_le_add_left (Zfb _ _ 0 hl fun i y x hy hx=>?_) _;refine ih x (qb hx) y _ _ _ (h4 i x y hx hy) fun s hs d hd=>?_;simp only[qaR];rcases hd with ⟨hb,t,ht,_,hvt⟩|⟨hb,hvd,hf⟩
   .rw [Zjf hvt.1,hvt.2.1]
    grind[asg]
   .refine qx (Zn6 d _ σ fun u hu=>?_) (qx (hv s ((Zbv hk).2 ⟨i,x,hx,hs,hb⟩) d hvd) ?_)<;>grind[asg]
theorem Zst {x:Str}{b e:Exp}{n:Nat}(hb:shp b)(hn:e.weight<=n)(hs:shp e)(hp:properP e)(σ:Str->Nat):wV (subN n e x b) σ<=wV e (fun s=>if s=x then wV b σ else σ s):=by
 refine ZAo e _ _ _ σ (Zef x b hb n e hn hs hp) fun s _ d hd=>?_;unfold subV at hd;split at hd;grind
 .rename_i h
  rw[if_neg h,Zjf hd.1,hd.2.1];simp
def okE (e:Exp):Prop:=shp e/\properP e/\conV e
def refP (e:Exp)(x:Str)(b:Exp):Exp:=refS e.weight e x b
def ZaO (l:List (Str×Exp))(b:Exp):Exp:=l.foldl (fun e p=>subP e p.1 p.2) b
def Zmk (l:List (Str×Exp))(b:Exp):Exp:=l.foldl (fun e p=>refP e p.1 p.2) b
theorem ZcM (p:Str×Exp)(l:List (Str×Exp))(b:Exp):ZaO (p::l) b=ZaO l (subP b p.1 p.2):=rfl
theorem ZnY (p:Str×Exp)(l:List (Str×Exp))(b:Exp):Zmk (p::l) b=Zmk l (refP b p.1 p.2):=rfl
theorem Zdu {x:Str}{e b:Exp}(he:okE e)(hb:okE b):okE (subP e x b):=
 ⟨Zk7 x b hb.1 e.weight e (qg _) he.1 he.2.1,Zkj x b hb.2.1 e.weight e (qg _) he.1 he.2.1,ZpJ x b hb.2.2 e.weight e (qg _) he.1 he.2.1 he.2.2⟩
theorem ZxJ {x:Str}{e e' b:Exp}(h:sameP e e')(he:okE e):sameP (subP e x b) (refP e' x b):=by
 unfold subP refP;rw[<-sameP.weight e e' h];exact Zo7 x b e.weight e e' h (qg _) he.1 he.2.1 he.2.2
theorem Zhd:∀(l:List (Str×Exp))(e e':Exp),sameP e e'->okE e->(∀p∈l,okE p.2)->sameP (ZaO l e) (Zmk l e')/\okE (ZaO l e)
 |[],_,_,h,he,_=>⟨h,he⟩
 |p::l,e,e',h,he,hl=>by
  rw[ZcM,ZnY];exact Zhd l _ _ (ZxJ h he) (Zdu he (hl p (by simp))) fun q hq=>hl q (by grind)
def asgL (M:Nat)(l:List (Str×Exp)):Str->Nat:=fun s=>if ∃p∈l,p.1=s then M else 1
theorem Zpb {M:Nat}(hM:1<=M):∀(l:List (Str×Exp)) (e:Exp),okE e->(∀p∈l,okE p.2/\p.2.weight<=M/\∀q∈l,q.1∉Zah p.2)->wV (ZaO l e) (fun _=>1)<=wV e (asgL M l)
 |[],e,_,_=>by
  refine Zn6 e _ _ fun s _=>?_;grind[asgL]
 |p::l,e,he,hl=>by
  obtain⟨h1,h2,h3⟩:=hl p (by simp);rw[ZcM];refine qx (Zpb hM l _ (Zdu he h1) fun q hq=>?_) ?_;grind
  .refine qx (Zst h1.1 (qg _) he.1 he.2.1 _) (Zn6 e _ _ fun s _ => ?_)
   by_cases hs:s=p.1
   .rw [if_pos hs]
    have hr:asgL M (p::l) s=M:=(by unfold asgL;simp_all);rw[hr];have hw:=Zvz (qg 1) p.2 (asgL M l) fun u hu=>by
     grind[asgL]
    omega
   .rw [if_neg hs]
    unfold asgL;by_cases hq:∃q∈l,q.1=s;simp_all;grind
theorem ZmA {M:Nat}(hM:1<=M){l:List (Str×Exp)}{e:Exp}(he:okE e)(hl:∀p∈l,okE p.2/\p.2.weight<=M/\∀q∈l,q.1∉Zah p.2):(ZaO l e).weight<=e.weight*M:=by
 have h0:=(Zhd l e e (ZgJ e) he fun p hp=>(hl p hp).1).2;have h1:=ZzU (ZaO l e) (fun _=>1) h0.1 fun _=>qg _;have h2:=Zpb hM l e he hl;have h3:=Zvz hM e (asgL M l) fun s _=>by
  unfold asgL;split<;>grind
 omega
theorem Zel (s:Str):okE (varX s):=by
 have hc:(varX s).children=[]:=rfl;have ha:(varX s).arms=[]:=rfl;refine⟨?_,?_,?_⟩
 .rw [ZdA,hc]
  exact⟨⟨⟨fun h=>absurd (show(1:Int)=8 from h) (by decide),fun _=>rfl,fun _=>rfl⟩,fun _=>⟨rfl,rfl⟩,rfl⟩,fun x hx=>by grind⟩
 grind[Zbc];grind[Zcz]
theorem ZnU (s:Str):(varX s).weight=1:=by
 rfl
theorem Zln {x t:Str}{e:Exp}(he:okE e):(subP e x (varX t)).weight<=e.weight:=by
 have h1:=ZzU (subP e x (varX t)) (fun _=>1) (Zdu he (Zel t)).1 fun _=>qg _;have h2:=Zst (x:=x) (b:=varX t) (e:=e) (n:=e.weight) (Zel t).1 (qg _) he.1 he.2.1 fun _=>1;have h3:=Zvz (qg 1) e (fun s=>if s=x then wV (varX t) (fun _=>1) else 1) fun s _=>by
  rw[Zjf (show(varX t).kind=1 from rfl)];simp
 grind[subP]
def usedF (e:Exp)(l:List (List Str)):List Str:=e.name::((e.arms.map fun a=>a.1.vars).flatten++l.flatten)
def Zav (e:Exp):List Str:=e.fold usedF
theorem Zet (e:Exp):Zav e=e.name::((e.arms.map fun a=>a.1.vars).flatten++(e.children.map Zav).flatten):=Exp.fold_eq _ e
def Zi1 (T:List Str)(vars:List Str)(args:List Exp):List (Str×Exp):=
 (vars.zipIdx.map fun p=>(p.1,varX (Zax p.2 T)))++args.zipIdx.map fun p=>(Zax p.2 T,p.1)
def Zsy (S:Exp->Str->Exp->Exp)(l:List (Str×Exp))(b:Exp):Exp:=l.foldl (fun e p=>S e p.1 p.2) b
def Zct (S:Exp->Str->Exp->Exp)(T:Exp->List Str)(e:Exp)(con:Str)(args:List Exp):Option (Exp×Nat):=
 match e.arms.find? fun a=>a.1.con==con with
 |none=>none
 |some a=>if a.1.vars.length=args.length then some (Zsy S (Zi1 (T e) a.1.vars args) a.2,4) else none
def Zb0 (S:Exp->Str->Exp->Exp)(T:Exp->List Str)(G:Exp->Exp->Exp):Nat->Exp->Option (Exp×Nat)
 |0,_=>none
 |n+1,e=>match e.kids with
  |[f,a]=>
   if e.kind=5 then
    if f.kind=4 then (match f.kids with | [k]=>some (S k f.name a,1) | _=>none)
    else (Zb0 S T G n f).map fun p=>(Zbs e (p.1::e.children.tail),p.2)
   else if e.kind=6 then some (S a e.name f,2)
   else if e.kind=7 then some (S a e.name (G e f),3) else none
  |[k]=>
   if e.kind=9 then some (k,5) else if e.kind=11 then some (k,6) else if e.kind=8 then
    if (Zez k.weight k []).1.kind=2 then Zct S T e (Zez k.weight k []).1.name (Zez k.weight k []).2
    else (Zb0 S T G n k).map fun p=>(Zbs e (p.1::e.children.tail),p.2)
   else none
  |_=>none
def optSame (a b:Option (Exp×Nat)):Prop:=match a,b with
 |none,none=>True
 |some p,some q=>sameP p.1 q.1/\p.2=q.2
 |_,_=>False
theorem okE.child {e x:Exp}(h:okE e)(hx:x∈e.children):okE x:=⟨h.1.child hx,h.2.1.child hx,h.2.2.child hx⟩
theorem Zgb:∀(n:Nat)(e:Exp)(l:List Exp),okE e->(∀a∈l,okE a)->okE (Zez n e l).1/\∀a∈(Zez n e l).2,okE a
 |0,e,l,he,hl=>⟨he,hl⟩
 |n+1,e,l,he,hl=>by
  unfold Zez;split
  .split
   .rename_i f a hk
    have hf:f∈e.children:=Zar (by grind);have ha:a∈e.children:=Zar (by grind);refine Zgb n f (a::l) (he.child hf) fun b hb=>?_;rcases qz.1 hb with rfl|hb
    .exact he.child ha
    grind
   grind
  grind
theorem Zor {a b:Exp}(h:sameP a b){q:ArmH×Exp}(hq:q∈b.arms):∃p∈a.arms,p.1.con=q.1.con/\p.1.vars=q.1.vars:=by
 obtain⟨⟨_,_,_,_,_,h6,h7⟩,_⟩:=ZaZ.1 h;obtain⟨i,hi⟩:=qh.1 hq;obtain⟨p,hp⟩:=Zaa (l:=a.arms) (i:=i) (by rw[h6];exact(qd.1 hi).1);exact⟨p,qb hp,h7 i p q hp hi⟩
theorem Zw0 (a:Exp):∀b,sameP a b->okE a->okE b:=by
 have key:∀b,sameP a b->properP a/\conV a->properP b/\conV b:=by
  induction a using Exp.ind with
  |h a ih=>
   intro b h ⟨hp,hc⟩;have hk:∀y∈b.children,properP y/\conV y:=by
    intro y hy;obtain⟨i,hi⟩:=qh.1 hy;obtain⟨x,hx⟩:=Zaa (l:=a.children) (i:=i) (by rw[h.kids_len];exact(qd.1 hi).1);have hm:=qb hx;exact ih x hm y ((ZaZ.1 h).2 i x y hx hi) ⟨hp.child hm,hc.child hm⟩
   rw[Zbc,Zcz];refine⟨⟨fun q hq=>?_,fun y hy=>(hk y hy).1⟩,fun q hq k=>?_,fun y hy=>(hk y hy).2⟩
   .obtain ⟨p,hp',g1,g2⟩:=Zor h hq
    rw[<-g2];exact hp.one p hp'
   .obtain ⟨p,hp',g1,g2⟩:=Zor h hq
    rw[<-g1];exact hc.one p hp' k
 exact fun b h he=>⟨sameP.shp a b h he.1,key b h he.2⟩
theorem ZgZ (a:Exp):sameP a (Zak a):=by
 induction a using Exp.ind with
 |h a ih=>
  obtain⟨h1,h2,h3,h4,h5,h6,h7,h8⟩:=ZaX a;refine ZaZ.2 ⟨⟨h1.symm,h2.symm,h3.symm,h4.symm,h5.symm,h6.symm,fun i p q hp hq=>?_⟩,fun i x y hx hy=>?_⟩
  .rw [h8,hp] at hq
   cases hq;exact⟨rfl,rfl⟩
  .rw [h7,qp,hx] at hy
   cases hy;exact ih x (qb hx)
theorem ZtV {e:Exp}(h:okE e):okE (Zak e):=Zw0 e _ (ZgZ e) h
theorem ZwW {e:Exp}{cs:List Exp}(hl:cs.length=e.kids.length+e.arms.length)(hk:e.kind≠1)(he:okE e)(hc:∀c∈cs,okE c):okE (Zbs e cs):=by
 obtain⟨_,_,h3,h4⟩:=ZaJ hl;refine⟨ZkH hl hk he.1.one fun c h=>(hc c h).1,?_,?_⟩
 .rw [Zbc,h3]
  exact⟨Zh5 h4 he.2.1.one,fun c h=>(hc c h).2.1⟩
 .rw [Zcz,h3]
  refine⟨fun a ha k=>?_,fun c h=>(hc c h).2.2⟩;obtain⟨i,hi⟩:=qh.1 ha;have:=h4 i;rw[hi]at this;cases hq:e.arms[i]? with
  |none=>rw[hq]at this;simp at this
  |some q=>
   rw[hq]at this;simp only[qr,qc]at this;rw[this];exact he.2.2.one q (qb hq) k
theorem Zl1 {e:Exp}{o:Option (Exp×Nat)}{p:Exp×Nat}(hk:e.kind≠1)(he:okE e)(hc:e.children≠[])(ho:∀q,o=some q->okE q.1)(h:o.map (fun p=>(Zbs e (p.1::e.children.tail),p.2))=some p):okE p.1:=by
 obtain⟨q,hq,rfl⟩:=qq.1 h;refine ZwW ?_ hk he fun c hcm=>?_
 .have:=e.children_len
  cases hcc:e.children with
  |nil=>exact absurd hcc hc
  |cons c l=>rw[hcc]at this;simpa using this
 .rcases qz.1 hcm with rfl|hcm
  .exact ho q hq
  .exact he.child (List.mem_of_mem_tail hcm)
theorem Zqx {e:Exp}{con:Str}{args:List Exp}{p:Exp×Nat}(he:okE e)(ha:∀a∈args,okE a)(h:Zct subP Zav e con args=some p):okE p.1:=by
 unfold Zct at h;cases hf:e.arms.find? fun a=>a.1.con==con with
 |none=>rw[hf]at h;cases h
 |some a=>
  rw[hf]at h;simp only at h;split at h
  .cases h
   have hm:=ZbM (qaM hf);refine(Zhd _ a.2 a.2 (ZgJ a.2) (he.child hm) fun q hq=>?_).2;unfold Zi1 at hq;rcases qn.1 hq with hq|hq
   .obtain ⟨r,_,rfl⟩:=qF.1 hq
    exact Zel _
   .obtain ⟨⟨y,i⟩,hr,rfl⟩:=qF.1 hq
    exact ha y (qb (qaB.1 hr))
  .cases h
theorem ZhT {G:Exp->Exp->Exp}(hG:∀e f,okE e->e.kind=7->f∈e.children->okE (G e f)):∀(n:Nat) (e:Exp) (p:Exp×Nat),okE e->Zb0 subP Zav G n e=some p->okE p.1
 |0,_,_,_,h=>by cases h
 |n+1,e,p,he,h=>by
  unfold Zb0 at h;split at h
  .rename_i f a hk
   have hf:f∈e.children:=Zar (by rw[hk];simp);have ha:a∈e.children:=Zar (by rw[hk];simp);have hne:e.children≠[]:=fun q=>by rw[q]at hf;simp at hf
   split at h
   .rename_i h5
    split at h
    .split at h
     .rename_i k hfk
      cases h;exact Zdu ((he.child hf).child (Zar (by rw[hfk];simp))) (he.child ha)
     .cases h
    .exact Zl1 (by omega) he hne (fun q hq=>ZhT hG n f q (he.child hf) hq) h
   .split at h
    .cases h
     exact Zdu (he.child ha) (he.child hf)
    .split at h
     .rename_i h7
      cases h;exact Zdu (he.child ha) (hG e f he h7 hf)
     .cases h
  .rename_i k hk
   have hm:k∈e.children:=Zar (by rw[hk];simp);have hne:e.children≠[]:=fun q=>by rw[q]at hm;simp at hm
   split at h
   .cases h
    exact he.child hm
   .split at h
    .cases h
     exact he.child hm
    .split at h
     .rename_i h8
      split at h
      .exact Zqx he (Zgb _ k [] (he.child hm) (by simp)).2 h
      .exact Zl1 (by omega) he hne (fun q hq=>ZhT hG n k q (he.child hm) hq) h
     .cases h
  .cases h
def recZ (e:Exp):Prop:=e.fold fun e l=>(e.kind=7->e.num=0/\e.ty=tz)/\∀p∈l,p
theorem ZeY (e:Exp):recZ e=((e.kind=7->e.num=0/\e.ty=tz)/\∀x∈e.children,recZ x):=by
 have:=Exp.fold_eq (fun e (l:List Prop)=>(e.kind=7->e.num=0/\e.ty=tz)/\∀p∈l,p) e;unfold recZ;rw[this];simp only[qQ]
theorem recZ.one {e:Exp}(h:recZ e):e.kind=7->e.num=0/\e.ty=tz:=by grind[ZeY]
theorem recZ.child {e x:Exp}(h:recZ e)(hx:x∈e.children):recZ x:=by grind[ZeY]
theorem isVar.recZ {s:Str}{c:Exp}(h:isVar s c):recZ c:=by
 obtain⟨k,_,_,ty,ks,am⟩:=h;grind[ZeY,Exp.children]
theorem instR.recZ (a:Exp):∀(c:Exp) (V:Rep),instR a c V->recZ a->(∀s d,V s d->recZ d)->recZ c:=by
 induction a using Exp.ind with
 |h a ih=>
  intro c V h ht hv;by_cases hk:a.kind=1
  .exact hv _ _ (h.var hk)
  .obtain ⟨h1,h2,h3,h4⟩:=h.node hk
   rw[ZeY];refine⟨fun q=>?_,fun y hy=>?_⟩
   .rw [<-h1.2.1,<-h1.2.2.1]
    exact ht.one (h1.1.trans q)
   .obtain ⟨i,hi⟩:=qh.1 hy
    obtain⟨x,hx⟩:=Zaa (l:=a.children) (i:=i) (by rw[h1.children];grind);refine ih x (qb hx) y _ (h4 i x y hx hi) (ht.child (qb hx)) fun s d hd=>?_;rcases hd with ⟨_,t,_,_,hvv⟩|⟨_,q,_⟩
    .exact hvv.recZ
    grind
theorem ZhX {x:Str}{e b:Exp}(he:okE e)(hb:okE b)(h:recZ e)(hr:recZ b):recZ (subP e x b):=by
 refine instR.recZ e _ _ (Zef x b hb.1 e.weight e (qg _) he.1 he.2.1) h fun s d hd=>?_;unfold subV at hd;split at hd;grind
 .exact hd.recZ
theorem ZrK (s:Str):recZ (varX s):=(show isVar s (varX s)from⟨rfl,rfl,rfl,rfl,rfl,rfl⟩).recZ
theorem Zvh (a:Exp):∀b,sameP a b->recZ a->recZ b:=by
 induction a using Exp.ind with
 |h a ih=>
  intro b h ha;obtain⟨⟨h1,h2,h3,h4,_⟩,h8⟩:=ZaZ.1 h;rw[ZeY];refine⟨fun q=>?_,fun y hy=>?_⟩
  .rw [<-h3,<-h4]
   exact ha.one (h1.trans q)
  .obtain ⟨i,hi⟩:=qh.1 hy
   obtain⟨x,hx⟩:=Zaa (l:=a.children) (i:=i) (by rw[h.kids_len];grind);have hm:=qb hx;exact ih x hm y (h8 i x y hx hi) (ha.child hm)
theorem Zqo {e:Exp}(h:recZ e):recZ (Zak e):=Zvh e _ (ZgZ e) h
def ZaY (e f:Exp):Exp:=.mk e.kind e.pos e.name e.num [f,f] e.arms e.ty
def ZyE (e f:Exp):Exp:=.mk 7 0 e.name 0 [f,f] [] tz
theorem Zc0 {e f:Exp}(he:okE e)(hk:e.kind=7)(hf:f∈e.children):okE (ZaY e f):=by
 have ha:=he.1.one.1.2.1 (show ¬e.kind=8 by omega);have hc:(ZaY e f).children=[f,f]:=by grind[ZaY,Zaw]
 have hm:∀y∈(ZaY e f).children,y=f:=fun y hy=>by grind
 have hfo:=he.child hf;have hr:(ZaY e f).arms=[]:=ha;refine⟨?_,?_,?_⟩
 .rw [ZdA]
  refine⟨⟨⟨fun q=>?_,fun _=>ha,fun q=>?_⟩,fun q=>?_,?_⟩,fun y hy=>(hm y hy)▸hfo.1⟩
  .exact absurd (show e.kind=8 from q) (by omega)
  .exact absurd (show e.kind=1 from q) (by omega)
  .exact absurd (show e.kind=1 from q) (by omega)
  .have:=he.1.one.2.2
   show 2=ZgO e.kind;rw[hk];rfl
 .rw [Zbc,hr]
  exact⟨fun a h=>by grind,fun y hy=>(hm y hy)▸hfo.2.1⟩
 .rw [Zcz,hr]
  exact⟨fun a h=>by grind,fun y hy=>(hm y hy)▸hfo.2.2⟩
theorem ZtN {e:Exp}{cs:List Exp}(hl:cs.length=e.kids.length+e.arms.length)(he:recZ e)(hc:∀c∈cs,recZ c):recZ (Zbs e cs):=by
 rw[ZeY,(ZaJ hl).2.2.1];exact⟨he.one,hc⟩
theorem ZqO {e f:Exp}(he:okE e)(h:recZ e)(hk:e.kind=7)(hf:f∈e.children):recZ (ZaY e f):=by
 have ha:=he.1.one.1.2.1 (show ¬e.kind=8 by omega);have hc:(ZaY e f).children=[f,f]:=by grind[ZaY,Zaw]
 rw[ZeY,hc];exact⟨fun _=>h.one hk,fun y hy=>by
  have:y=f:=by grind
  exact this▸h.child hf⟩
theorem Zkd:∀(l:List (Str×Exp))(e:Exp),okE e->recZ e->(∀p∈l,okE p.2/\recZ p.2)->recZ (ZaO l e)
 |[],_,_,h,_=>h
 |p::l,e,he,h,hl=>by
  obtain⟨h1,h2⟩:=hl p (by simp);rw[ZcM];exact Zkd l _ (Zdu he h1) (ZhX he h1 h h2) fun q hq=>hl q (by grind)
theorem ZjD:∀(n:Nat)(e:Exp)(l:List Exp),recZ e->(∀a∈l,recZ a)->∀a∈(Zez n e l).2,recZ a
 |0,_,_,_,hl=>hl
 |n+1,e,l,he,hl=>by
  unfold Zez;split
  .split
   .rename_i f a hk
    have hf:f∈e.children:=Zar (by grind);have ha:a∈e.children:=Zar (by grind);refine ZjD n f (a::l) (he.child hf) fun b hb=>?_;rcases qz.1 hb with rfl|hb
    .exact he.child ha
    grind
   omega
  omega
theorem ZnF {e:Exp}{con:Str}{args:List Exp}{p:Exp×Nat}(he:okE e)(hr:recZ e)(ha:∀a∈args,okE a/\recZ a)(h:Zct subP Zav e con args=some p):recZ p.1:=by
 unfold Zct at h;cases hf:e.arms.find? fun a=>a.1.con==con with
 |none=>grind
 |some a=>
  rw[hf]at h;simp only at h;split at h
  .cases h
   have hm:=ZbM (qaM hf);refine Zkd _ a.2 (he.child hm) (hr.child hm) fun q hq=>?_;grind[Zi1,Zel,ZrK]
  grind
theorem Zkt {e:Exp}{o:Option (Exp×Nat)}{p:Exp×Nat}(he:recZ e)(hc:e.children≠[])(ho:∀q,o=some q->recZ q.1)(h:o.map (fun p=>(Zbs e (p.1::e.children.tail),p.2))=some p):recZ p.1:=by
 obtain⟨q,hq,rfl⟩:=qq.1 h;refine ZtN ?_ he fun c hcm=>?_
 .have:=e.children_len
  cases hcc:e.children<;>grind
 .rcases qz.1 hcm with rfl|hcm
  grind
  .exact he.child (List.mem_of_mem_tail hcm)
theorem Zih:∀(n:Nat)(e:Exp)(p:Exp×Nat),okE e->recZ e->Zb0 subP Zav ZaY n e=some p->recZ p.1
 |0,_,_,_,_,h=>by cases h
 |n+1,e,p,he,hr,h=>by
  unfold Zb0 at h;split at h
  .rename_i f a hk
   have hf:f∈e.children:=Zar (by grind);have ha:a∈e.children:=Zar (by grind);have hne:e.children≠[]:=fun q=>by grind
   split at h
   .split at h
    .split at h
     .rename_i k hfk
      cases h;have hkf:=Zar (e:=f) (x:=k) (by grind);exact ZhX ((he.child hf).child hkf) (he.child ha) ((hr.child hf).child hkf) (hr.child ha)
     grind
    .exact Zkt hr hne (fun q hq=>Zih n f q (he.child hf) (hr.child hf) hq) h
   .split at h
    .cases h
     exact ZhX (he.child ha) (he.child hf) (hr.child ha) (hr.child hf)
    .split at h
     .rename_i h7
      cases h;exact ZhX (he.child ha) (Zc0 he h7 hf) (hr.child ha) (ZqO he hr h7 hf)
     grind
  .rename_i k hk
   have hm:k∈e.children:=Zar (by grind);have hne:e.children≠[]:=fun q=>by grind
   split at h
   .cases h
    exact hr.child hm
   .split at h
    .cases h
     exact hr.child hm
    .split at h
     .split at h
      .have hs:=(Zgb k.weight k [] (he.child hm) (by simp)).2
       have hs2:=ZjD k.weight k [] (hr.child hm) (by simp);grind[ZnF]
      .exact Zkt hr hne (fun q hq=>Zih n k q (he.child hm) (hr.child hm) hq) h
     grind
  grind
theorem Zqv (n:Nat)(e:Exp)(p:Exp×Nat)(he:okE e)(hr:recZ e)(h:Zb0 subP Zav ZaY n e=some p):okE (Zak p.1)/\recZ (Zak p.1):=
 ⟨ZtV (ZhT (fun _ _ q k hf=>Zc0 q k hf) n e p he h),Zqo (Zih n e p he hr h)⟩
end Go.Vs.Tryz
