/- Substitution as the program does it (plain): what comes of it is an instance. -/
import Derived.Test.YtccmnfpbcmccpaaGreatDoorR4u
set_option linter.unusedSimpArgs false
set_option linter.unusedVariables false
set_option linter.deprecated false
set_option maxHeartbeats 16000000
set_option maxRecDepth 10000
namespace Go.Vs.Tryz
open Go Go.Vs
def hitP (x:Str)(free:List Str)(n:Str)(inside:List Exp):Prop:=n∈free/\∃e∈inside,x∈Ac e
instance (x:Str) (free:List Str) (n:Str) (inside:List Exp):Decidable (hitP x free n inside):=inferInstanceAs (Decidable (_/\_))
def AB (e:Exp):Nat:=if e.kind=6 then 1 else 0
def BM (x:Str)(free:List Str)(e:Exp):Exp:=
 if e.name=x\/e.kids.length<=AB e\/¬hitP x free e.name (e.kids.drop (AB e)) then e else
  .mk e.kind e.pos (Av 0 (allP e++free++[x])) e.num (e.kids.zipIdx.map fun p=>if p.2<AB e then p.1 else repl e.name (Av 0 (allP e++free++[x])) p.1) e.arms e.ty
def CL (x:Str)(free:List Str)(p:List Str×Exp)(i:Nat):List Str×Exp:=match p.1[i]? with
 |none=>p
 |some v=>if v∈p.1.drop (i+1)\/¬hitP x free v [p.2] then p else (p.1.set i (Av 0 (allP p.2++p.1++free++[x])),repl v (Av 0 (allP p.2++p.1++free++[x])) p.2)
def Bi (x:Str)(free:List Str)(vs:List Str)(b:Exp)(k:Nat):List Str×Exp:=(List.range k).foldl (CL x free) (vs,b)
theorem EI (x:Str)(free vs:List Str)(b:Exp)(k:Nat):Bi x free vs b (k+1)=CL x free (Bi x free vs b k) k:=by
 grind[Bi,List.range_succ]
def armP (x:Str)(free:List Str)(a:ArmH×Exp):ArmH×Exp:=
 if x∈a.1.vars then a else (⟨a.1.pos,a.1.con,(Bi x free a.1.vars a.2 a.1.vars.length).1⟩,(Bi x free a.1.vars a.2 a.1.vars.length).2)
def AT (x:Str)(free:List Str)(e:Exp):Exp:=
 if e.kind=4\/e.kind=6\/e.kind=7 then BM x free e else if e.kind=8 then .mk e.kind e.pos e.name e.num e.kids (e.arms.map (armP x free)) e.ty else e
def subN:Nat->Exp->Str->Exp->Exp
 |0,e,_,_=>e
 |n+1,e,x,b=>if e.kind=1 then (if e.name=x then b else e) else
  AL (AT x (Ac b) e) ((AT x (Ac b) e).children.zipIdx.map fun p=>if x∈(AT x (Ac b) e).bound p.2 then p.1 else subN n p.1 x b)
def subC (n:Nat)(e:Exp)(x:Str)(b:Exp):List Exp:=e.children.zipIdx.map fun p=>if x∈e.bound p.2 then p.1 else subN n p.1 x b
@[simp] theorem subC_len (n:Nat) (e:Exp) (x:Str) (b:Exp):(subC n e x b).length=e.kids.length+e.arms.length:=by simp[subC]
theorem Ej {n:Nat}{e y:Exp}{x:Str}{b:Exp}{i:Nat}(h:e.children[i]?=some y):(subC n e x b)[i]?=some (if x∈e.bound i then y else subN n y x b):=by
 simp[subC,h]
theorem CM (n:Nat)(e:Exp)(x:Str)(b:Exp):subN (n+1) e x b=if e.kind=1 then (if e.name=x then b else e) else AL (AT x (Ac b) e) (subC n (AT x (Ac b) e) x b):=rfl
def inj (l:List Str):Prop:=∀(i j:Nat) s,l[i]?=some s->l[j]?=some s->i=j
def properP (e:Exp):Prop:=e.fold fun e l=>(∀a∈e.arms,inj a.1.vars)/\∀p∈l,p
theorem DW (e:Exp):properP e=((∀a∈e.arms,inj a.1.vars)/\∀x∈e.children,properP x):=by
 have:=Exp.fold_eq (fun e (l:List Prop)=>(∀a∈e.arms,inj a.1.vars)/\∀p∈l,p) e;unfold properP;rw[this];simp only[qN]
theorem properP.one {e:Exp}(h:properP e):∀a∈e.arms,inj a.1.vars:=by grind[DW]
theorem properP.child {e x:Exp}(h:properP e)(hx:x∈e.children):properP x:=by grind[DW]
theorem La {e c:Exp}(h:∀i:Nat,(c.arms[i]?).map (·.1)=(e.arms[i]?).map (·.1))(he:∀a∈e.arms,inj a.1.vars):∀a∈c.arms,inj a.1.vars:=by
 grind[qj]
theorem Tu (frm to:Str)(e:Exp):e.wf->properP e->properP (repl frm to e):=by
 induction e using Exp.ind with
 |h e ih=>
  intro hw h;by_cases hk:e.kind=1
  .rw [EE hk]
   split
   .rw [DW]
    exact⟨h.one,fun x hx=>h.child hx⟩
   omega
  .rw [EM hk,DW]
   obtain⟨_,_,h3,h4⟩:=BN (replC_len frm to e);refine⟨La h4 h.one,fun c hc=>?_⟩;rw[h3]at hc;obtain⟨i,hi⟩:=qj.1 hc;obtain⟨x,hx⟩:=Ag (l:=e.children) (i:=i) (by have:=(qf.1 hi).1;simp_all);rw[D6 hx]at hi;cases hi;have hm:=qd hx;split
   .exact h.child hm
   .exact ih x hm (hw.child hm) (h.child hm)
def subV (x:Str)(b:Exp):Rep:=fun s c=>if s=x then c=b else isVar s c
theorem E7 {s:Str}{c:Exp}:idV s c↔isVar s c:=⟨fun⟨_,h,hv⟩=>h▸hv,fun h=>⟨s,rfl,h⟩⟩
theorem id_ok:idV.ok:=fun _ _ h=>(E7.1 h).shp
theorem ZaB {x0 x1 y b:Exp}{x:Str}{bs cs:List Str}(h0:instR x0 x1 (idV.ext bs cs))(h1:instR x1 y (subV x b))(hx:x∉cs)(hf:x∈Ac x1->∀u∈Ac b,u∉cs):instR x0 y ((subV x b).ext bs cs):=by
 refine(h0.comp _ _ _ _ _ (id_ok.ext bs cs) h1).mono _ _ _ _ fun s hs d hd=>?_;obtain⟨c,hc,_,hcd⟩:=hd;rcases hc with ⟨hb,t,ht,hr,hv⟩|⟨hb,hv,hfc⟩
 .rw [hv.inst] at hcd
  unfold subV at hcd;rw[if_neg (fun h:t=x=>hx (h▸ht))]at hcd;exact .inl ⟨hb,t,ht,hr,hcd⟩
 .rw [E7] at hv
  have hsc:s∉cs:=hfc s (by rw[hv.free];simp);have hsf:s∈Ac x1:=by
   obtain⟨d',hd',hf'⟩:=instR.free_to x0 x1 _ h0 s hs;rcases hd' with ⟨q,_⟩|⟨_,q,_⟩
   grind
   .exact hf' s (by rw[(E7.1 q).free];simp)
  rw[hv.inst]at hcd;refine .inr ⟨hb,hcd,fun u hu=>?_⟩;unfold subV at hcd;split at hcd;grind
  .rw [hcd.free,qy] at hu
   grind
theorem YN {x0 b:Exp}{x:Str}{bs:List Str}(hs:shp x0)(hx:x∈bs):instR x0 x0 ((subV x b).ext bs bs):=by
 refine .refl x0 _ hs fun s _ c hc=>?_;by_cases hb:s∈bs
 .exact .inl ⟨hb,s,hb,rfl,hc⟩
 .refine .inr ⟨hb,?_,fun u hu => ?_⟩
  grind[subV]
  .rw [hc.free,qy] at hu
   grind
theorem Ir {x0:Exp}{bs:List Str}(hs:shp x0):instR x0 x0 (idV.ext bs bs):=by
 refine .refl x0 _ hs fun s _ c hc=>?_;by_cases hb:s∈bs
 .exact .inl ⟨hb,s,hb,rfl,hc⟩
 .refine .inr ⟨hb,E7.2 hc,fun u hu => ?_⟩
  rw[hc.free,qy]at hu;grind
structure KidOk (x:Str)(b x0 x1:Exp)(bs cs:List Str):Prop where
 len:bs.length=cs.length
 skip:x∈bs->x1=x0/\cs=bs
 notin:x∉bs->x∉cs
 inst:instR x0 x1 (idV.ext bs cs)
 apart:x∉cs->x∈Ac x1->∀u∈Ac b,u∉cs
 weight:x1.weight=x0.weight
 shape:shp x1
 proper:properP x1
theorem Xq {l:List Str}(h:l.Nodup):inj l:=fun i j s hi hj=>by
 grind[List.getElem?_inj]
theorem inj.rlast {l:List Str}(h:inj l){i:Nat}{s:Str}(hi:l[i]?=some s):rlast l s=i:=R5 hi fun j x hij hx e=>by
 have:=h i j s hi (e▸hx);omega
theorem inj.set {l:List Str}(h:inj l){k:Nat}{t:Str}(ht:t∉l):inj (l.set k t):=by
 intro i j s hi hj;rw[qaJ]at hi hj;split at hi<;>split at hj
 .omega
 grind;grind
 .exact h i j s hi hj
theorem L5 {l:List Str}{k:Nat}{t u:Str}(h:u∈l.set k t):u∈l\/u=t:=List.mem_or_eq_of_mem_set h
structure ArmOk (x:Str)(free vars:List Str)(b0:Exp)(k:Nat)(vs:List Str)(b:Exp):Prop where
 len:vs.length=vars.length
 inj:inj vs
 notin:x∉vs
 inst:instR b0 b (idV.ext vars vs)
 weight:b.weight=b0.weight
 shape:shp b
 proper:properP b
 done:∀j v,j<k->vs[j]?=some v->¬(v∈free/\x∈Ac b)
theorem Zbg {x:Str}{free vars:List Str}{b0:Exp}{k:Nat}{vs:List Str}{b:Exp}(h:ArmOk x free vars b0 k vs b)(hk:k<vars.length):ArmOk x free vars b0 (k+1) (CL x free (vs,b) k).1 (CL x free (vs,b) k).2:=by
 obtain⟨v,hv⟩:=Ag (l:=vs) (i:=k) (by rw[h.len];exact hk);have hdrop:v∉vs.drop (k+1):=by
  intro hm;obtain⟨j,hj⟩:=qj.1 hm;rw[qac]at hj;have:=h.inj k _ v hv hj;omega
 unfold CL;simp only[hv];by_cases hh:hitP x free v [b]
 .rw [if_neg (fun q=>q.elim hdrop fun q=>q hh)]
  have hfresh:=F2 0 (allP b++vs++free++[x]);generalize Av 0 (allP b++vs++free++[x])=to at hfresh |-;simp only[qz,qy,not_or]at hfresh;obtain⟨⟨⟨f1,f2⟩,f3⟩,f4⟩:=hfresh;have hxv:x≠v:=fun e=>h.notin (e▸qd hv);have hfx:x∈Ac (repl v to b)->x∈Ac b:=by
   intro hx;obtain⟨s,hs,he⟩:=(Uw h.shape f1 x).1 hx;grind
  refine⟨by rw[List.length_set];exact h.len,h.inj.set f2,fun hm=>?_,?_,(TS _ _ _).trans h.weight,Tg _ _ _ h.shape,Tu _ _ _ h.shape.wf h.proper,fun j w hj hw=>?_⟩
  .rcases L5 hm with hm|hm
   .exact h.notin hm
   grind
  .refine (h.inst.comp _ _ _ _ _ (id_ok.ext _ _) (KX v to b h.shape f1)).mono _ _ _ _ fun s hs d hd => ?_
   obtain⟨c,hc,_,hcd⟩:=hd;rcases hc with ⟨hb,t,ht,hr,hvc⟩|⟨hb,hvc,hfc⟩
   .rw [hvc.inst] at hcd
    obtain⟨u,hu,hvu⟩:=hcd;obtain⟨j,hj⟩:=qj.1 ht;have hrj:=h.inj.rlast hj;have hset:(vs.set k to)[j]?=some u:=by
     rw[qaJ];by_cases htv:t=v
     .have hkj:k=j:=h.inj k j v hv (htv▸hj)
      grind
     grind
    exact .inl ⟨hb,u,qd hset,by rw[hr,hrj,(h.inj.set f2).rlast hset],hvu⟩
   .rw [E7] at hvc
    have hsv:s∉vs:=hfc s (by rw[hvc.free];simp);rw[hvc.inst]at hcd;obtain⟨u,hu,hvu⟩:=hcd;rw[if_neg (fun e=>hsv (by grind))]at hu;subst hu;refine .inr ⟨hb,E7.2 hvu,fun w hw=>?_⟩;rw[hvu.free,qy]at hw;subst hw;intro hm;rcases L5 hm with hm|hm
    grind
    .obtain ⟨d',hd',hf'⟩:=instR.free_to b0 b _ h.inst w hs
     rcases hd' with ⟨q,_⟩|⟨_,q,_⟩
     grind
     .exact f1 (hm▸KT b w (hf' w (by rw[(E7.1 q).free];simp)))
  .rintro ⟨g1,g2⟩
   rw[qaJ]at hw;split at hw;grind
   .exact h.done j w (by omega) hw ⟨g1,hfx g2⟩
 .rw [if_pos (.inr hh)]
  refine⟨h.len,h.inj,h.notin,h.inst,h.weight,h.shape,h.proper,fun j w hj hw hg=>?_⟩;by_cases hjk:j=k
  .subst hjk
   rw[hv]at hw;cases hw;exact hh ⟨hg.1,b,by simp,hg.2⟩
  .exact h.done j w (by omega) hw hg
theorem Hw {x:Str}{free vars:List Str}{b:Exp}(hn:inj vars)(hx:x∉vars)(hs:shp b)(hp:properP b):∀k,k<=vars.length->ArmOk x free vars b k (Bi x free vars b k).1 (Bi x free vars b k).2
 |0,_=>⟨rfl,hn,hx,Ir hs,rfl,hs,hp,fun _ _ h=>by omega⟩
 |k+1,hk=>by
  rw[EI];exact Zbg (Hw hn hx hs hp k (by omega)) (by omega)
theorem ZcC {x:Str}{b:Exp}{a:ArmH×Exp}(hn:inj a.1.vars)(hs:shp a.2)(hp:properP a.2):(armP x (Ac b) a).1.con=a.1.con/\inj (armP x (Ac b) a).1.vars/\KidOk x b a.2 (armP x (Ac b) a).2 a.1.vars (armP x (Ac b) a).1.vars:=by
 unfold armP;by_cases hx:x∈a.1.vars
 .rw [if_pos hx]
  exact⟨rfl,hn,rfl,fun _=>⟨rfl,rfl⟩,fun h=>h,Ir hs,fun h=>absurd hx h,rfl,hs,hp⟩
 .rw [if_neg hx]
  have h:=Hw (free:=Ac b) hn hx hs hp a.1.vars.length (qg _);refine⟨rfl,h.inj,h.len.symm,fun q=>absurd q hx,fun _=>h.notin,h.inst,fun _ hf u hu hm=>?_,h.weight,h.shape,h.proper⟩;obtain⟨j,hj⟩:=qj.1 hm;exact h.done j u (by have:=(qf.1 hj).1;rw[h.len]at this;omega) hj ⟨hu,hf⟩
structure PrepOk (x:Str)(b e e':Exp):Prop where
 head:headEq e e'
 con:e.kind=2->e.name=e'.name
 arms:GA e e'
 kids:∀(i:Nat) x0 x1,e.children[i]?=some x0->e'.children[i]?=some x1->KidOk x b x0 x1 (e.bound i) (e'.bound i)
 sum:(e'.arms.map fun a=>a.1.vars.length).sum=(e.arms.map fun a=>a.1.vars.length).sum
 vars:∀a∈e'.arms,inj a.1.vars
theorem Rt {e e':Exp}(hl:e'.arms.length=e.arms.length)(h:∀(i:Nat) p q,e.arms[i]?=some p->e'.arms[i]?=some q->p.1.vars.length=q.1.vars.length):
 (e'.arms.map fun a=>a.1.vars.length).sum=(e.arms.map fun a=>a.1.vars.length).sum:=by
 congr 1;refine qE fun i=>?_;grind
theorem Sh {x:Str}{b e:Exp}(hs:shp e)(hp:properP e)(h:∀(i:Nat) x0,e.children[i]?=some x0->x∉e.bound i->x∈Ac x0->∀u∈Ac b,u∉e.bound i):PrepOk x b e e:=by
 refine⟨⟨rfl,rfl,rfl,rfl,rfl⟩,fun _=>rfl,fun i p q hp hq=>?_,fun i x0 x1 h0 h1=>?_,rfl,hp.one⟩;grind
 .rw [h0] at h1
  cases h1;have hm:=qd h0;exact⟨rfl,fun _=>⟨rfl,rfl⟩,fun q=>q,Ir (hs.child hm),h i x0 h0,rfl,hs.child hm,hp.child hm⟩
theorem EH {e:Exp}(h:e.kind≠8)(hs:shp1 e):e.arms=[]/\e.children=e.kids:=by
 have:=hs.1.2.1 h;grind[Exp.children]
theorem Mt {e:Exp}(h:e.kind=4\/e.kind=6\/e.kind=7)(hs:shp1 e){i:Nat}(hi:i<e.children.length):e.bound i=if i<AB e then [] else [e.name]:=by
 have hc:=(EH (by omega) hs).2;have hk:=hs.2.2;grind[CO,Exp.bound,AB]
theorem Zat {x:Str}{b e:Exp}(hs:shp e)(hp:properP e)(hk:e.kind=4\/e.kind=6\/e.kind=7):PrepOk x b e (BM x (Ac b) e):=by
 obtain⟨ha,hc⟩:=EH (by omega) hs.one;have hkl:AB e<e.kids.length:=by
  have h:=hs.one.2.2;grind[CO,AB]
 unfold BM;split
 .rename_i hc1
  refine Sh hs hp fun i x0 h0 hxb hxf u hu hub=>?_;have hi:=(qf.1 h0).1;rw[Mt hk hs.one hi]at hxb hub;by_cases his:i<AB e;grind
  .rw [if_neg his] at hxb hub
   rw[qy]at hxb hub;rcases hc1 with h1|h1|h1
   grind
   .omega
   .refine h1 ⟨hub▸hu,x0,?_,hxf⟩
    refine qd (i:=i-AB e) ?_;grind
 .rename_i hc1
  simp only[not_or,Classical.not_not]at hc1;obtain⟨hxn,_,hhit⟩:=hc1;have hfresh:=F2 0 (allP e++Ac b++[x]);generalize Av 0 (allP e++Ac b++[x])=to at hfresh |-;simp only[qz,qy,not_or]at hfresh;obtain⟨⟨f1,f2⟩,f3⟩:=hfresh
  have hkid:∀(i:Nat) x0,e.kids[i]?=some x0->(e.kids.zipIdx.map fun p=>if p.2<AB e then p.1 else repl e.name to p.1)[i]?=some (if i<AB e then x0 else repl e.name to x0):=fun i x0 h=>by simp[h]
  have hkn:(e.kids.zipIdx.map fun p=>if p.2<AB e then p.1 else repl e.name to p.1).length=e.kids.length:=by simp
  generalize (e.kids.zipIdx.map fun p=>if p.2<AB e then p.1 else repl e.name to p.1)=ks at hkid hkn |-;have hc':(Exp.mk e.kind e.pos to e.num ks e.arms e.ty).children=ks:=by grind[BK]
  refine⟨⟨rfl,rfl,rfl,hkn.symm,rfl⟩,fun h2=>by omega,fun i p q h1 h2=>?_,fun i x0 x1 h0 h1=>?_,rfl,hp.one⟩;grind
  .have hi:=(qf.1 h0).1
   have hm:=qd h0;rw[hc']at h1;have hbn:(Exp.mk e.kind e.pos to e.num ks e.arms e.ty).bound i=if i<AB e then [] else [to]:=by
    have he:=Mt hk hs.one hi;grind[Bk,Hc]
   rw[hc]at h0;rw[hkid i x0 h0]at h1;cases h1;rw[hbn,Mt hk hs.one hi];by_cases his:i<AB e
   .rw [if_pos his,if_pos his,if_pos his]
    exact⟨rfl,fun q=>by simp,fun q=>q,Ir (hs.child hm),fun _ _ u _=>by simp,rfl,hs.child hm,hp.child hm⟩
   .rw [if_neg his,if_neg his,if_neg his]
    have hnx:to∉allP x0:=fun h=>f1 (A3.2 (.inr ⟨i,x0,by grind,.inr h⟩));refine⟨rfl,fun q=>absurd (qy.1 q).symm hxn,fun _ q=>f3 (qy.1 q).symm,?_,fun _ _ u hu q=>f2 (qy.1 q▸hu),TS _ _ _,Tg _ _ _ (hs.child hm),Tu _ _ _ (hs.child hm).wf (hp.child hm)⟩;refine(KX e.name to x0 (hs.child hm) hnx).mono _ _ _ _ fun s hsx d hd=>?_;obtain⟨t,ht,hv⟩:=hd;by_cases hsn:s=e.name
    .rw [if_pos hsn] at ht
     subst ht;refine .inl ⟨by grind,t,by simp,?_,hv⟩;grind[R5]
    .rw [if_neg hsn] at ht
     subst ht;refine .inr ⟨by grind,E7.2 hv,fun u hu=>?_⟩;rw[hv.free,qy]at hu;grind[KT]
theorem Zc1 {x:Str}{b e:Exp}(hs:shp e)(hp:properP e)(hk:e.kind=8):PrepOk x b e (.mk e.kind e.pos e.name e.num e.kids (e.arms.map (armP x (Ac b))) e.ty):=by
 have hk1:=hs.one.1.1 hk;have harm:∀(i:Nat) p q,e.arms[i]?=some p->(e.arms.map (armP x (Ac b)))[i]?=some q->q.1.con=p.1.con/\inj q.1.vars/\KidOk x b p.2 q.2 p.1.vars q.1.vars:=by
  intro i p q h1 h2;rw[qq,h1]at h2;cases h2;have hm:=BB (qd h1);exact ZcC (hp.one p (qd h1)) (hs.child hm) (hp.child hm)
 have hvl:∀(i:Nat) p q,e.arms[i]?=some p->(e.arms.map (armP x (Ac b)))[i]?=some q->p.1.vars.length=q.1.vars.length:=fun i p q h1 h2=>(harm i p q h1 h2).2.2.len;have hal:(e.arms.map (armP x (Ac b))).length=e.arms.length:=by simp
 generalize e.arms.map (armP x (Ac b))=am at harm hvl hal |-;refine⟨⟨rfl,rfl,rfl,rfl,hal.symm⟩,fun h=>rfl,fun i p q h1 h2=>⟨(harm i p q h1 h2).1.symm,hvl i p q h1 h2⟩,fun i x0 x1 h0 h1=>?_,Rt hal hvl,fun q hq=>?_⟩
 .rw [Hc,Bk,if_neg (show ¬(e.kind=4\/e.kind=7\/e.kind=6/\i=1) by omega),if_neg (show ¬(e.kind=4\/e.kind=7\/e.kind=6/\i=1) by omega)]
  rcases Zbs h0 with h0k|⟨j,p,rfl,hp',rfl⟩
  .have hi:=(qf.1 h0k).1
   have h1':e.kids[i]?=some x1:=by
    grind[BK]
   rw[h0k]at h1';cases h1';have hm:=qd h0;rw[if_neg (show ¬(e.kind=8/\0<i) by omega),if_neg (show ¬(e.kind=8/\0<i) by omega)];exact⟨rfl,fun q=>by simp,fun q=>q,Ir (hs.child hm),fun _ _ u _=>by simp,rfl,hs.child hm,hp.child hm⟩
  grind[BK]
 grind[F9,qj]
theorem FE {x:Str}{b e:Exp}(hs:shp e)(hp:properP e):PrepOk x b e (AT x (Ac b) e):=by
 grind[AT,Zat,Zc1,Sh,Bk]
theorem El {x:Str}{b e e':Exp}(h:PrepOk x b e e'):e'.children.length=e.children.length:=h.head.children.symm
theorem Hk (x:Str)(b:Exp)(hb:shp b):∀(n:Nat)(e:Exp),e.weight<=n->shp e->properP e->instR e (subN n e x b) (subV x b)
 |0,e,h,_,_=>by have:=e.weight_pos;omega
 |n+1,e,h,hs,hp=>by
  rw[CM];by_cases hk:e.kind=1
  .obtain ⟨a1,a2,a3⟩:=Iz hs.one.1 hk
   obtain⟨m,t⟩:=hs.one.2.1 hk;rw[if_pos hk];refine .mkVar hk ?_;unfold subV;by_cases hx:e.name=x;grind
   .rw [if_neg hx,if_neg hx]
    exact⟨hk,rfl,m,t,a1,a2⟩
  .rw [if_neg hk]
   have hP:=FE (x:=x) (b:=b) hs hp;generalize AT x (Ac b) e=e' at hP |-;have hl:=subC_len n e' x b;obtain⟨g1,g2⟩:=Ns hl;refine .mk hk ⟨⟨hP.head.1.trans g1.1,hP.head.2.1.trans g1.2.1,hP.head.2.2.1.trans g1.2.2.1,hP.head.2.2.2.1.trans g1.2.2.2.1,hP.head.2.2.2.2.trans g1.2.2.2.2⟩,fun h2=>hP.con h2,fun i p q hp' hq=>?_,fun i x0 y h0 hy=>?_⟩
   .obtain ⟨r,hr⟩:=Ag (l:=e'.arms) (i:=i) (by have:=hP.head.2.2.2.2;grind)
    exact⟨(hP.arms i p r hp' hr).1.trans (g2 i r q hr hq).1,(hP.arms i p r hp' hr).2.trans (g2 i r q hr hq).2⟩
   .obtain ⟨x1,h1⟩:=Ag (l:=e'.children) (i:=i) (by grind [El])
    have hK:=hP.kids i x0 x1 h0 h1;rw[(BN hl).2.2.1,Ej h1]at hy;cases hy;rw[IC hl];by_cases hx:x∈e'.bound i
    .rw [if_pos hx]
     have hxb:x∈e.bound i:=qP fun q=>hK.notin q hx;obtain⟨rfl,he⟩:=hK.skip hxb;rw[he];exact YN hK.shape hxb
    .rw [if_neg hx]
     refine ZaB hK.inst (Hk x b hb n x1 ?_ hK.shape hK.proper) hx (hK.apart hx);have:=Exp.child_lt (qd h0);have:=hK.weight;omega
theorem Pn (x:Str)(b:Exp)(hb:shp b):∀(n:Nat)(e:Exp),e.weight<=n->shp e->properP e->shp (subN n e x b)
 |0,e,h,hs,_=>hs
 |n+1,e,h,hs,hp=>by
  rw[CM];by_cases hk:e.kind=1;grind
  .rw [if_neg hk]
   have hP:=FE (x:=x) (b:=b) hs hp;generalize AT x (Ac b) e=e' at hP |-;refine Ld (subC_len n e' x b) (hP.head.1▸hk) (hP.head.shp1 hk hs.one) fun c hc=>?_;obtain⟨i,hi⟩:=qj.1 hc;obtain⟨x1,h1⟩:=Ag (l:=e'.children) (i:=i) (by have:=(qf.1 hi).1;simp_all);obtain⟨x0,h0⟩:=Ag (l:=e.children) (i:=i) (by grind[El]);have hK:=hP.kids i x0 x1 h0 h1;rw[Ej h1]at hi;cases hi;split
   .exact hK.shape
   .refine Pn x b hb n x1 ?_ hK.shape hK.proper
    have:=Exp.child_lt (qd h0);have:=hK.weight;omega
theorem Q0 (x:Str)(b:Exp)(hb:properP b):∀(n:Nat)(e:Exp),e.weight<=n->shp e->properP e->properP (subN n e x b)
 |0,e,h,_,hp=>hp
 |n+1,e,h,hs,hp=>by
  rw[CM];by_cases hk:e.kind=1;grind
  .rw [if_neg hk]
   have hP:=FE (x:=x) (b:=b) hs hp;generalize AT x (Ac b) e=e' at hP |-;obtain⟨_,_,h3,h4⟩:=BN (subC_len n e' x b);rw[DW];refine⟨La h4 hP.vars,fun c hc=>?_⟩;rw[h3]at hc;obtain⟨i,hi⟩:=qj.1 hc;obtain⟨x1,h1⟩:=Ag (l:=e'.children) (i:=i) (by have:=(qf.1 hi).1;simp_all);obtain⟨x0,h0⟩:=Ag (l:=e.children) (i:=i) (by grind[El]);have hK:=hP.kids i x0 x1 h0 h1;rw[Ej h1]at hi;cases hi;split
   .exact hK.proper
   .refine Q0 x b hb n x1 ?_ hK.shape hK.proper
    have:=Exp.child_lt (qd h0);have:=hK.weight;omega
def subP (e:Exp)(x:Str)(b:Exp):Exp:=subN e.weight e x b
theorem Y0 {t t':List Str}(h:∀k,AG k∈t↔AG k∈t')(n:Nat):Bo n t=Bo n t':=by
 have h1:1<=Bo n t':=GX t' _ 1 n;have hm:Ct t' 1 (Bo n t')=n:=Kw t' _ _ _ (by grind[LH]);refine RK h1 (fun hk=>F2 n t' ((h _).1 hk)) ?_;grind[Ct]
theorem Lz {t t':List Str}(h:∀k,AG k∈t↔AG k∈t')(n:Nat):Av n t=Av n t':=by grind[Av,Y0]
theorem Tm (k:Nat):AG k≠[]:=by unfold AG;simp
def UE (e:Exp)(l:List (List Str)):List Str:=(if e.name=[] then [] else [e.name])++(e.arms.map fun a=>a.1.vars).flatten++l.flatten
def DF (e:Exp):List Str:=e.fold UE
theorem Zcj (e:Exp):DF e=(if e.name=[] then [] else [e.name])++(e.arms.map fun a=>a.1.vars).flatten++(e.children.map DF).flatten:=Exp.fold_eq _ e
theorem Yz {e:Exp}{s:Str}:s∈DF e↔(s≠[]/\s=e.name)\/(∃a∈e.arms,s∈a.1.vars)\/∃x∈e.children,s∈DF x:=by
 grind[Zcj]
theorem Pd (e:Exp){s:Str}(hs:s≠[]):e.wf->(s∈DF e↔s∈allP e):=by
 induction e using Exp.ind with
 |h e ih=>
  intro hw;rw[Yz,A3];constructor
  .rintro (⟨_,h⟩|⟨a,ha,h⟩|⟨x,hx,h⟩)
   grind
   .obtain ⟨j,hj⟩:=qj.1 ha
    have h8:e.kind=8:=qP fun q=>by
     have:=hw.one.2.1 q;grind
    have hk1:=hw.one.1 h8;refine .inr ⟨e.kids.length+j,a.2,D3 hj,.inl ?_⟩;grind[Bk]
   .obtain ⟨i,hi⟩:=qj.1 hx
    exact .inr ⟨i,x,hi,.inr ((ih x hx (hw.child hx)).1 h)⟩
  .rintro (h|⟨i,x,hi,h|h⟩)
   grind;grind[Bk]
   .exact .inr (.inr ⟨x,qd hi,(ih x (qd hi) (hw.child (qd hi))).2 h⟩)
def MH (a b:Exp):Prop:=a.kind=b.kind/\a.name=b.name/\a.num=b.num/\a.ty=b.ty/\a.kids.length=b.kids.length/\a.arms.length=b.arms.length/\
 ∀(i:Nat) p q,a.arms[i]?=some p->b.arms[i]?=some q->p.1.con=q.1.con/\p.1.vars=q.1.vars
theorem BP {a b:Exp}:sameP a b↔MH a b/\∀(i:Nat) x y,a.children[i]?=some x->b.children[i]?=some y->sameP x y:=by
 rw[DK];unfold MH;simp only[and_assoc]
theorem sameP.kids_len {a b:Exp}(h:sameP a b):a.children.length=b.children.length:=by
 obtain⟨⟨_,_,_,_,h1,h2,_⟩,_⟩:=BP.1 h;simp_all
theorem sameP.kid {a b:Exp}(h:sameP a b){i:Nat}{x:Exp}(hx:a.children[i]?=some x):∃y,b.children[i]?=some y/\sameP x y:=by
 obtain⟨y,hy⟩:=Ag (l:=b.children) (i:=i) (by rw[<-h.kids_len];grind);grind[BP]
theorem sameP.weight (a:Exp):∀b,sameP a b->a.weight=b.weight:=by
 induction a using Exp.ind with
 |h a ih=>
  intro b h;obtain⟨⟨_,_,_,_,_,h6,h7⟩,h8⟩:=BP.1 h;have hl:=h.kids_len;rw[a.weight_eq,b.weight_eq];congr 1
  .congr 2
   refine qE fun i=>?_;grind
  .congr 1
   refine qE fun i=>?_;grind
theorem sameP.shp (a:Exp):∀b,sameP a b->shp a->shp b:=by
 induction a using Exp.ind with
 |h a ih=>
  intro b h hs;obtain⟨⟨h1,h2,h3,h4,h5,h6,h7⟩,h8⟩:=BP.1 h;rw[B1];refine⟨?_,fun y hy=>?_⟩
  .obtain ⟨⟨w1,w2,w3⟩,w4,w5⟩:=hs.one
   have hz:∀{α:Type} {l m:List α},l.length=m.length->l=[]->m=[]:=fun hl he=>qS.1 (by grind);refine⟨⟨fun k=>by omega,fun k=>qS.1 (by grind),fun k=>qS.1 (by grind)⟩,fun k=>?_,by grind⟩;grind
  .obtain ⟨i,hi⟩:=qj.1 hy
   obtain⟨x,hx⟩:=Ag (l:=a.children) (i:=i) (by rw[h.kids_len];grind);exact ih x (qd hx) y (h8 i x y hx hi) (hs.child (qd hx))
theorem Qd (a:Exp):∀b,sameP a b->∀u,u∈Ac a->u∈Ac b:=by
 induction a using Exp.ind with
 |h a ih=>
  intro b h u hu;obtain⟨⟨h1,h2,_⟩,h8⟩:=BP.1 h;by_cases hk:a.kind=1;grind[Cd]
  .obtain ⟨i,x,hx,hf,hb⟩:=(BD hk).1 hu
   obtain⟨y,hy,hs⟩:=h.kid hx;grind[BD,G9]
theorem I6 {a b:Exp}(h:sameP a b)(u:Str):u∈Ac a↔u∈Ac b:=⟨Qd a b h u,Qd b a (Lp a b h) u⟩
theorem SY (a:Exp):∀b,sameP a b->∀u,u∈allP a->u∈allP b:=by
 induction a using Exp.ind with
 |h a ih=>
  intro b h u hu;obtain⟨⟨h1,h2,_⟩,h8⟩:=BP.1 h;rcases A3.1 hu with hu|⟨i,x,hx,hu⟩
  grind[A3]
  .obtain ⟨y,hy,hs⟩:=h.kid hx
   grind[A3,G9]
theorem NJ {a b:Exp}(h:sameP a b)(u:Str):u∈allP a↔u∈allP b:=⟨SY a b h u,SY b a (Lp a b h) u⟩
theorem Ow {e e':Exp}{cs ds:List Exp}(hc:cs.length=e.kids.length+e.arms.length)(hd:ds.length=e'.kids.length+e'.arms.length)(h:MH e e')
 (hk:∀(i:Nat) x y,cs[i]?=some x->ds[i]?=some y->sameP x y):sameP (AL e cs) (AL e' ds):=by
 obtain⟨c1,c2,c3,c4⟩:=BN hc;obtain⟨d1,d2,d3,d4⟩:=BN hd;obtain⟨h1,h2,h3,h4,h5,h6,h7⟩:=h;refine BP.2 ⟨⟨h1,h2,h3,h4,by rw[c1,d1,h5],by rw[c2,d2,h6],fun i p q hp hq=>?_⟩,fun i x y hx hy=>?_⟩<;>grind
def varX (s:Str):Exp:=.mk 1 0 s 0 [] [] tz
theorem Sc (s:Str):Ac (varX s)=[s]:=by rfl
def newR (x:Str)(b e:Exp):Str:=Av 0 (Ac b++DF e++[x])
def newA (x con:Str)(b:Exp)(p:List Str×Exp):Str:=Av 0 (Ac b++DF p.2++[x,con]++p.1)
def Kq (S:Exp->Str->Exp->Exp)(x:Str)(b:Exp)(con:Str)(p:List Str×Exp)(i:Nat):List Str×Exp:=match p.1[i]? with
 |none=>p
 |some v=>if v∈Ac b/\x∈Ac p.2 then (p.1.set i (newA x con b p),S p.2 v (varX (newA x con b p))) else p
def EA (S:Exp->Str->Exp->Exp)(x:Str)(b:Exp)(con:Str)(vs:List Str)(e:Exp)(k:Nat):List Str×Exp:=(List.range k).foldl (Kq S x b con) (vs,e)
theorem Tj (S:Exp->Str->Exp->Exp)(x:Str)(b:Exp)(con:Str)(vs:List Str)(e:Exp)(k:Nat):EA S x b con vs e (k+1)=Kq S x b con (EA S x b con vs e k) k:=by
 unfold EA;rw[List.range_succ,qav];rfl
def EB (S:Exp->Str->Exp->Exp)(x:Str)(b:Exp)(a:ArmH×Exp):ArmH×Exp:=
 if x∈a.1.vars then a else (⟨a.1.pos,a.1.con,(EA S x b a.1.con a.1.vars a.2 a.1.vars.length).1⟩,(EA S x b a.1.con a.1.vars a.2 a.1.vars.length).2)
def Ni (S:Exp->Str->Exp->Exp)(x:Str)(b:Exp)(e:Exp):Exp:=
 if e.name=x\/e.kids.length<=AB e\/¬hitP x (Ac b) e.name (e.kids.drop (AB e)) then e else
  .mk e.kind e.pos (newR x b e) e.num (e.kids.zipIdx.map fun p=>if p.2<AB e then p.1 else S p.1 e.name (varX (newR x b e))) e.arms e.ty
def D4 (S:Exp->Str->Exp->Exp)(x:Str)(b:Exp)(e:Exp):Exp:=
 if e.kind=4\/e.kind=6\/e.kind=7 then Ni S x b e else if e.kind=8 then .mk e.kind e.pos e.name e.num e.kids (e.arms.map (EB S x b)) e.ty else e
def refS:Nat->Exp->Str->Exp->Exp
 |0,e,_,_=>e
 |n+1,e,x,b=>if e.kind=1 then (if e.name=x then b else e) else
  AL (D4 (refS n) x b e) ((D4 (refS n) x b e).children.zipIdx.map fun p=>if x∈(D4 (refS n) x b e).bound p.2 then p.1 else refS n p.1 x b)
def refC (n:Nat)(e:Exp)(x:Str)(b:Exp):List Exp:=e.children.zipIdx.map fun p=>if x∈e.bound p.2 then p.1 else refS n p.1 x b
@[simp] theorem refC_len (n:Nat) (e:Exp) (x:Str) (b:Exp):(refC n e x b).length=e.kids.length+e.arms.length:=by simp[refC]
theorem PA {n:Nat}{e y:Exp}{x:Str}{b:Exp}{i:Nat}(h:e.children[i]?=some y):(refC n e x b)[i]?=some (if x∈e.bound i then y else refS n y x b):=by
 simp[refC,h]
theorem Qm (n:Nat)(e:Exp)(x:Str)(b:Exp):refS (n+1) e x b=if e.kind=1 then (if e.name=x then b else e) else AL (D4 (refS n) x b e) (refC n (D4 (refS n) x b e) x b):=rfl
theorem Q9 {S:Exp->Str->Exp->Exp}{x to con:Str}{vs:List Str}{e:Exp}(h:to∉vs):∀k,EA S x (varX to) con vs e k=(vs,e)
 |0=>rfl
 |k+1=>by
  rw[Tj,Q9 h k];grind[Kq,Sc]
theorem ZaW {S:Exp->Str->Exp->Exp}{x to:Str}{e:Exp}(hw:e.wf)(h:to∉allP e):D4 S x (varX to) e=e:=by
 unfold D4;by_cases h4:e.kind=4\/e.kind=6\/e.kind=7
 .rw [if_pos h4]
  unfold Ni;rw[if_pos];refine .inr (.inr fun q=>h ?_);have:=q.1;grind[Sc,A3]
 .rw [if_neg h4]
  by_cases h8:e.kind=8
  .rw [if_pos h8]
   have hm:e.arms.map (EB S x (varX to))=e.arms:=by
    refine qE fun i=>?_;rw[qq];cases ha:e.arms[i]? with
    |none=>rfl
    |some a=>
     have hk1:=hw.one.1 h8;have hv:to∉a.1.vars:=fun q=>h (A3.2 (.inr ⟨e.kids.length+i,a.2,D3 ha,.inl (by
      grind[Bk])⟩))
     simp only[qp];unfold EB;rw[Q9 hv];simp
   rw[hm];cases e;rfl
  grind
theorem M1 (f to:Str):∀(n:Nat)(e e':Exp),sameP e e'->e.weight<=n->shp e->to∉allP e->sameP (repl f to e) (refS n e' f (varX to))
 |0,e,_,_,h,_,_=>by have:=e.weight_pos;omega
 |n+1,e,e',h,hn,hs,ht=>by
  obtain⟨hh,hc⟩:=BP.1 h;obtain⟨h1,h2,h3,h4,h5,h6,h7⟩:=hh;have hs':=sameP.shp e e' h hs;rw[Qm];by_cases hk:e.kind=1
  .rw [EE hk,if_pos (h1.symm.trans hk),<-h2]
   by_cases hx:e.name=f
   .rw [if_pos hx,if_pos hx]
    obtain⟨a1,a2,a3⟩:=Iz hs.one.1 hk;obtain⟨m,t⟩:=hs.one.2.1 hk;rw[hk,m,t,a1,a2];refine BP.2 ⟨⟨rfl,rfl,rfl,rfl,rfl,rfl,fun i p q hp=>by simp[Exp.arms]at hp⟩,fun i x y hx=>?_⟩;grind[Exp.children,Exp.kids,Exp.arms]
   grind
  .rw [EM hk,if_neg (fun q=>hk (h1.trans q)),ZaW hs'.wf (fun q=>ht ((NJ h to).2 q))]
   refine Ow (replC_len _ _ _) (refC_len _ _ _ _) ⟨h1,h2,h3,h4,h5,h6,h7⟩ fun i x y hx hy=>?_;obtain⟨x0,hx0⟩:=Ag (l:=e.children) (i:=i) (by rw[e.children_len,<-replC_len f to e];grind);obtain⟨y0,hy0,hxy⟩:=h.kid hx0;rw[D6 hx0]at hx;rw[PA hy0,<-G9 h]at hy;cases hx;cases hy;have hm:=qd hx0;by_cases hb:f∈e.bound i;grind
   .rw [if_neg hb,if_neg hb]
    exact M1 f to n x0 y0 hxy (by have:=Exp.child_lt hm;omega) (hs.child hm) fun q=>ht (A3.2 (.inr ⟨i,x0,hx0,.inr q⟩))
def conV (e:Exp):Prop:=e.fold fun e l=>(∀a∈e.arms,∀k,a.1.con≠AG k)/\∀p∈l,p
theorem DL (e:Exp):conV e=((∀a∈e.arms,∀k,a.1.con≠AG k)/\∀x∈e.children,conV x):=by
 have:=Exp.fold_eq (fun e (l:List Prop)=>(∀a∈e.arms,∀k,a.1.con≠AG k)/\∀p∈l,p) e;unfold conV;rw[this];simp only[qN]
theorem conV.one {e:Exp}(h:conV e):∀a∈e.arms,∀k,a.1.con≠AG k:=by grind[DL]
theorem conV.child {e x:Exp}(h:conV e)(hx:x∈e.children):conV x:=by grind[DL]
theorem Ti (frm to:Str)(e:Exp):conV e->conV (repl frm to e):=by
 induction e using Exp.ind with
 |h e ih=>
  intro h;by_cases hk:e.kind=1
  .rw [EE hk]
   split
   .rw [DL]
    exact⟨h.one,fun x hx=>h.child hx⟩
   omega
  .rw [EM hk,DL]
   obtain⟨_,_,h3,h4⟩:=BN (replC_len frm to e);refine⟨fun a ha k=>?_,fun c hc=>?_⟩
   .obtain ⟨i,hi⟩:=qj.1 ha
    have:=h4 i;rw[hi]at this;cases hq:e.arms[i]? with
    |none=>grind
    |some q=>
     rw[hq]at this;simp only[qp,qc]at this;rw[this];exact h.one q (qd hq) k
   .rw [h3] at hc
    obtain⟨i,hi⟩:=qj.1 hc;obtain⟨x,hx⟩:=Ag (l:=e.children) (i:=i) (by have:=(qf.1 hi).1;simp_all);rw[D6 hx]at hi;cases hi;have hm:=qd hx;split
    .exact h.child hm
    .exact ih x hm (h.child hm)
theorem SB {x:Str}{free vs:List Str}{b:Exp}(h:conV b):∀k,conV (Bi x free vs b k).2
 |0=>h
 |k+1=>by
  rw[EI];have:=SB (x:=x) (free:=free) (vs:=vs) h k;grind[CL,Ti]
theorem O7 {x:Str}{free:List Str}{e:Exp}(hs:shp e)(h:conV e):∀y∈(AT x free e).children,conV y:=by
 unfold AT;by_cases h4:e.kind=4\/e.kind=6\/e.kind=7
 .rw [if_pos h4]
  obtain⟨ha,hc⟩:=EH (by omega) hs.one;unfold BM;split
  .exact fun y hy=>h.child hy
  .intro y hy
   rw[BK,ha]at hy;simp only[qaf,qJ,qL]at hy;obtain⟨⟨z,i⟩,hz,rfl⟩:=hy;have hm:z∈e.children:=(by grind);simp only;split
   .exact h.child hm
   .exact Ti _ _ _ (h.child hm)
 .rw [if_neg h4]
  by_cases h8:e.kind=8
  .rw [if_pos h8]
   intro y hy;rw[BK]at hy;rcases qz.1 hy with hy|hy
   .exact h.child (AO hy)
   .obtain ⟨a,ha,rfl⟩:=qL.1 hy
    obtain⟨p,hp,rfl⟩:=qL.1 ha;unfold armP;split
    .exact h.child (BB hp)
    .exact SB (h.child (BB hp)) _
  .rw [if_neg h8]
   exact fun y hy=>h.child hy
theorem R3 {n:Nat}{x con:Str}{b:Exp}{vs:List Str}{e e':Exp}(hcon:∀k,con≠AG k)(hi:inj vs)(hx:x∉vs)(hs:shp e)(hp:properP e)(hw:e.weight<=n)(h:sameP e e'):
 ∀k,k<=vs.length->(Bi x (Ac b) vs e k).1=(EA (refS n) x b con vs e' k).1/\sameP (Bi x (Ac b) vs e k).2 (EA (refS n) x b con vs e' k).2
 |0,_=>⟨rfl,h⟩
 |k+1,hk=>by
  obtain⟨g1,g2⟩:=R3 (b:=b) hcon hi hx hs hp hw h k (by omega);have ho:=Hw (free:=Ac b) hi hx hs hp k (by omega);rw[EI,Tj];generalize Bi x (Ac b) vs e k=p at *
  generalize EA (refS n) x b con vs e' k=q at *
  obtain⟨v1,e1⟩:=p;obtain⟨v2,e2⟩:=q;simp only at g1 g2 ho;subst g1;obtain⟨v,hv⟩:=Ag (l:=v1) (i:=k) (by rw[ho.len];exact hk);have hdrop:v∉v1.drop (k+1):=by
   intro hm;obtain⟨j,hj⟩:=qj.1 hm;rw[qac]at hj;have:=ho.inj k _ v hv hj;omega
  unfold CL Kq;simp only[hv];by_cases hh:v∈Ac b/\x∈Ac e1
  .have hto:Av 0 (allP e1++v1++Ac b++[x])=newA x con b (v1,e2):=by
    refine Lz (fun j=>?_) 0;have ha:AG j∈allP e1↔AG j∈DF e2:=by
     rw[Pd e2 (Tm j) (sameP.shp e1 e2 g2 ho.shape).wf];exact NJ g2 _
    grind
   rw[if_neg (show ¬(v∈v1.drop (k+1)\/¬hitP x (Ac b) v [e1])from fun q=>q.elim hdrop fun q=>q ⟨hh.1,e1,by simp,hh.2⟩),if_pos ⟨hh.1,(I6 g2 x).1 hh.2⟩];have hf:=F2 0 (allP e1++v1++Ac b++[x]);rw[hto]at hf |-;simp only[qz,not_or]at hf;exact⟨rfl,M1 v _ n e1 e2 g2 (by rw[ho.weight];exact hw) ho.shape hf.1.1.1⟩
  grind[hitP,I6]
theorem Us {n:Nat}{x:Str}{b e e':Exp}(h:sameP e e')(hs:shp e)(hp:properP e)(hc:conV e)(hn:e.weight<=n+1):sameP (AT x (Ac b) e) (D4 (refS n) x b e'):=by
 have hs':=sameP.shp e e' h hs;obtain⟨⟨h1,h2,h3,h4,h5,h6,h7⟩,h8⟩:=BP.1 h;unfold AT D4;by_cases hb:e.kind=4\/e.kind=6\/e.kind=7
 .rw [if_pos hb,if_pos (h1▸hb)]
  obtain⟨ha,hch⟩:=EH (by omega) hs.one;obtain⟨ha',hch'⟩:=EH (e:=e') (by omega) hs'.one;have hsc:AB e'=AB e:=by unfold AB;rw[h1]
  have hkid:∀(i:Nat) k,e.kids[i]?=some k->∃k',e'.kids[i]?=some k'/\sameP k k':=fun i k hk=>by
   grind
  have hhit:hitP x (Ac b) e'.name (e'.kids.drop (AB e))↔hitP x (Ac b) e.name (e.kids.drop (AB e)):=by
   unfold hitP;rw[h2];refine and_congr_right fun _=>⟨?_,?_⟩
   .rintro ⟨k',hk',hf⟩
    obtain⟨j,hj⟩:=qj.1 hk';rw[qac]at hj;obtain⟨k,hk⟩:=Ag (l:=e.kids) (i:=AB e+j) (by grind);obtain⟨k2,hk2,hsm⟩:=hkid _ k hk;rw[hj]at hk2;cases hk2;exact⟨k,qd (i:=j) (by grind),(I6 hsm x).2 hf⟩
   .rintro ⟨k,hk,hf⟩
    obtain⟨j,hj⟩:=qj.1 hk;rw[qac]at hj;obtain⟨k2,hk2,hsm⟩:=hkid _ k hj;exact⟨k2,qd (i:=j) (by grind),(I6 hsm x).1 hf⟩
  unfold BM Ni;have hcond:(e'.name=x\/e'.kids.length<=AB e'\/¬hitP x (Ac b) e'.name (e'.kids.drop (AB e')))↔(e.name=x\/e.kids.length<=AB e\/¬hitP x (Ac b) e.name (e.kids.drop (AB e))):=by grind
  by_cases hcn:e.name=x\/e.kids.length<=AB e\/¬hitP x (Ac b) e.name (e.kids.drop (AB e));grind
  .rw [if_neg hcn,if_neg (fun q=>hcn (hcond.1 q)),hsc,<-h2]
   have hto:Av 0 (allP e++Ac b++[x])=newR x b e':=by
    refine Lz (fun j=>?_) 0;have ha:AG j∈allP e↔AG j∈DF e':=by
     rw[Pd e' (Tm j) hs'.wf];exact NJ h _
    grind
   have hf:=F2 0 (allP e++Ac b++[x]);rw[hto]at hf |-;simp only[qz,not_or]at hf;generalize newR x b e'=to at hf |-;refine BP.2 ⟨⟨h1,rfl,h3,h4,by grind[Qs,List.length_zipIdx],h6,h7⟩,fun i y z hy hz=>?_⟩;rw[BK,ha,qaf,qJ,qq,qaz]at hy;rw[BK,ha',qaf,qJ,qq,qaz]at hz;cases hk:e.kids[i]? with
   |none=>grind
   |some k=>
    obtain⟨k',hk',hsm⟩:=hkid i k hk;rw[hk]at hy;rw[hk']at hz;simp only[qp,qaw,qc]at hy hz;subst hy;subst hz;have hm:k∈e.children:=(by grind);by_cases hi:i<AB e;grind
    .rw [if_neg hi,if_neg hi]
     exact M1 _ _ n k k' hsm (by have:=Exp.child_lt hm;omega) (hs.child hm) fun q=>hf.1.1 (A3.2 (.inr ⟨i,k,by grind,.inr q⟩))
 .rw [if_neg hb,if_neg (show ¬(e'.kind=4\/e'.kind=6\/e'.kind=7) by omega)]
  by_cases k8:e.kind=8
  .rw [if_pos k8,if_pos (h1.symm.trans k8)]
   have harm:∀(i:Nat) p q,e.arms[i]?=some p->e'.arms[i]?=some q->(armP x (Ac b) p).1.con=(EB (refS n) x b q).1.con/\(armP x (Ac b) p).1.vars=(EB (refS n) x b q).1.vars/\sameP (armP x (Ac b) p).2 (EB (refS n) x b q).2:=by
    intro i p q hp' hq;obtain⟨g1,g2⟩:=h7 i p q hp' hq;have hm:=BB (qd hp');have hbs:sameP p.2 q.2:=h8 (e.kids.length+i) p.2 q.2 (D3 hp') (by grind[D3]);have ha:=R3 (n:=n) (x:=x) (con:=p.1.con) (b:=b) (e:=p.2) (e':=q.2) (hc.one p (qd hp')) (hp.one p (qd hp'));unfold armP EB;rw[<-g2];by_cases hx:x∈p.1.vars;grind
    .rw [if_neg hx,if_neg hx]
     have:=ha hx (hs.child hm) (hp.child hm) (by have:=Exp.child_lt hm;omega) hbs p.1.vars.length (qg _);grind
   refine BP.2 ⟨⟨h1,h2,h3,h4,h5,by grind[F9],fun i p q hp' hq=>?_⟩,fun i y z hy hz=>?_⟩;grind[F9]
   .rw [BK] at hy hz
    by_cases hi:i<e.kids.length
    .rw [qK hi] at hy
     rw[qK (by omega)]at hz;refine h8 i y z ?_ ?_<;>grind[Exp.children]
    grind
  grind
theorem S3 (x:Str)(b:Exp):∀(n:Nat)(e e':Exp),sameP e e'->e.weight<=n->shp e->properP e->conV e->sameP (subN n e x b) (refS n e' x b)
 |0,e,_,_,h,_,_,_=>by have:=e.weight_pos;omega
 |n+1,e,e',h,hn,hs,hp,hc=>by
  obtain⟨⟨h1,h2,_⟩,_⟩:=BP.1 h;rw[CM,Qm];by_cases hk:e.kind=1;grind[HQ]
  .rw [if_neg hk,if_neg (fun q=>hk (h1.trans q))]
   have hP:=FE (x:=x) (b:=b) hs hp;have hC:=O7 (x:=x) (free:=Ac b) hs hc;have hS:=Us (n:=n) (x:=x) (b:=b) h hs hp hc hn;generalize AT x (Ac b) e=d at *
   generalize D4 (refS n) x b e'=d' at *
   refine Ow (subC_len _ _ _ _) (refC_len _ _ _ _) (BP.1 hS).1 fun i y z hy hz=>?_;obtain⟨x1,hx1⟩:=Ag (l:=d.children) (i:=i) (by rw[d.children_len,<-subC_len n d x b];grind);obtain⟨y1,hy1,hsm⟩:=hS.kid hx1;obtain⟨x0,hx0⟩:=Ag (l:=e.children) (i:=i) (by grind[El]);have hK:=hP.kids i x0 x1 hx0 hx1;rw[Ej hx1]at hy;rw[PA hy1,<-G9 hS]at hz;cases hy;cases hz;by_cases hb:x∈d.bound i;grind
   .rw [if_neg hb,if_neg hb]
    exact S3 x b n x1 y1 hsm (by have:=Exp.child_lt (qd hx0);have:=hK.weight;omega) hK.shape hK.proper (hC x1 (qd hx1))
theorem Zb3 {x:Str}{free:List Str}{e:Exp}(hs:shp e)(h:conV e):∀a∈(AT x free e).arms,∀k,a.1.con≠AG k:=by
 unfold AT;by_cases h4:e.kind=4\/e.kind=6\/e.kind=7
 .rw [if_pos h4]
  unfold BM;split
  .exact h.one
  .exact h.one
 .rw [if_neg h4]
  by_cases h8:e.kind=8
  .rw [if_pos h8]
   intro a ha k;rw[F9]at ha;obtain⟨p,hp,rfl⟩:=qL.1 ha;have:=h.one p hp k;unfold armP;split
   .exact this
   .exact this
  .rw [if_neg h8]
   exact h.one
theorem Ug (x:Str)(b:Exp)(hb:conV b):∀(n:Nat)(e:Exp),e.weight<=n->shp e->properP e->conV e->conV (subN n e x b)
 |0,e,h,_,_,_=>by have:=e.weight_pos;omega
 |n+1,e,h,hs,hp,hc=>by
  rw[CM];by_cases hk:e.kind=1
  .rw [if_pos hk]
   split
   .exact hb
   .exact hc
  .rw [if_neg hk]
   have hP:=FE (x:=x) (b:=b) hs hp;have hC:=O7 (x:=x) (free:=Ac b) hs hc;have hA:=Zb3 (x:=x) (free:=Ac b) hs hc;generalize AT x (Ac b) e=e' at *
   obtain⟨g1,g2,g3,g4⟩:=BN (subC_len n e' x b);rw[DL];refine⟨fun a ha k=>?_,fun y hy=>?_⟩
   .obtain ⟨i,hi⟩:=qj.1 ha
    have:=g4 i;rw[hi]at this;cases hq:e'.arms[i]? with
    |none=>rw[hq]at this;simp at this
    |some q=>
     rw[hq]at this;simp only[qp,qc]at this;rw[this];exact hA q (qd hq) k
   .rw [g3] at hy
    obtain⟨i,hi⟩:=qj.1 hy;obtain⟨x1,h1⟩:=Ag (l:=e'.children) (i:=i) (by rw[e'.children_len,<-subC_len n e' x b];exact(qf.1 hi).1);obtain⟨x0,h0⟩:=Ag (l:=e.children) (i:=i) (by rw[<-El hP];exact(qf.1 h1).1);have hK:=hP.kids i x0 x1 h0 h1;rw[Ej h1]at hi;cases hi;have hm:=qd h1;split
    .exact hC x1 hm
    .exact Ug x b hb n x1 (by have:=Exp.child_lt (qd h0);have:=hK.weight;omega) hK.shape hK.proper (hC x1 hm)
def CC:Nat->Exp->List Exp->Exp×List Exp
 |0,e,l=>(e,l)
 |n+1,e,l=>if e.kind=5 then match e.kids with
  |[f,a]=>CC n f (a::l)
  |_=>(e,l)
  else (e,l)
theorem Fe {α β:Type}{f:α×Nat->Nat}{g:β×Nat->Nat}:∀(l:List α)(m:List β)(k:Nat),l.length=m.length->
 (∀(i:Nat) x y,l[i]?=some x->m[i]?=some y->f (x,k+i)<=g (y,k+i))->((l.zipIdx k).map f).sum<=((m.zipIdx k).map g).sum
 |[],[],_,_,_=>qg _
 |[],_::_,_,h,_=>by simp
 |_::_,[],_,h,_=>by grind
 |a::l,b::m,k,h,hf=>by
  simp only[qa4,qv,qad];have h1:=hf 0 a b rfl rfl;have h2:=Fe (f:=f) (g:=g) l m (k+1) (by grind) fun i x y hx hy=>by
   have:=hf (i+1) x y (by grind) (by grind);grind
  grind
theorem TO {α:Type}{f g:α×Nat->Nat}{M:Nat}:∀(l:List α)(k:Nat),(∀(i:Nat) x,l[i]?=some x->f (x,k+i)<=g (x,k+i)*M)->((l.zipIdx k).map f).sum<=((l.zipIdx k).map g).sum*M
 |[],_,_=>by simp
 |a::l,k,hf=>by
  simp only[qa4,qv,qad];have h1:=hf 0 a rfl;have h2:=TO (f:=f) (g:=g) (M:=M) l (k+1) fun i x hx=>by
   have:=hf (i+1) x (by grind);grind
  grind
def asg (ρ:Str->Nat)(bs:List Str):Str->Nat:=fun s=>if s∈bs then 1 else ρ s
def wF (e:Exp)(l:List ((Str->Nat)->Nat))(ρ:Str->Nat):Nat:=if e.kind=1 then ρ e.name else 1+(e.arms.map fun a=>a.1.vars.length).sum+(l.zipIdx.map fun p=>p.1 (asg ρ (e.bound p.2))).sum
def wV (e:Exp):(Str->Nat)->Nat:=e.fold wF
theorem Fb {e:Exp}(h:e.kind=1)(ρ:Str->Nat):wV e ρ=ρ e.name:=by
 unfold wV;rw[Exp.fold_eq,wF,if_pos h]
theorem NM {α β γ:Type}{f:α->β}{g:β×Nat->γ}:∀(l:List α)(k:Nat),((l.map f).zipIdx k).map g=(l.zipIdx k).map fun p=>g (f p.1,p.2)
 |[],_=>rfl
 |a::l,k=>by simp only[qv,qa4,NM l (k+1)]
theorem Gr {e:Exp}(h:e.kind≠1)(ρ:Str->Nat):wV e ρ=1+(e.arms.map fun a=>a.1.vars.length).sum+(e.children.zipIdx.map fun p=>wV p.1 (asg ρ (e.bound p.2))).sum:=by
 unfold wV;rw[Exp.fold_eq,wF,if_neg h,NM]
theorem NU (e:Exp):∀(ρ σ:Str->Nat),(∀s∈Ac e,ρ s<=σ s)->wV e ρ<=wV e σ:=by
 induction e using Exp.ind with
 |h e ih=>
  intro ρ σ h;by_cases hk:e.kind=1;grind[Fb,Cd]
  .rw [Gr hk,Gr hk]
   refine Nat.add_le_add_left (Fe _ _ 0 rfl fun i x y hx hy=>?_) _;rw[hx]at hy;cases hy;refine ih x (qd hx) _ _ fun s hs=>?_;grind[asg,BD]
theorem Mf (e:Exp):(e.children.map Exp.weight).sum=(e.children.zipIdx.map fun p=>p.1.weight).sum:=by
 congr 1;refine qE fun i=>?_;grind
theorem LS {M:Nat}(hM:1<=M)(e:Exp):∀(ρ:Str->Nat),(∀s∈Ac e,ρ s<=M)->wV e ρ<=e.weight*M:=by
 induction e using Exp.ind with
 |h e ih=>
  intro ρ h;have hw:=e.weight_pos;by_cases hk:e.kind=1;grind[Fb,qr,Cd,qa9]
  .rw [Gr hk,e.weight_eq,Mf]
   have h1:=TO (f:=fun p=>wV p.1 (asg ρ (e.bound p.2))) (g:=fun p:Exp×Nat=>p.1.weight) (M:=M) e.children 0 fun i x hx=>by
    grind[asg,BD]
   have h2:1+(e.arms.map fun a=>a.1.vars.length).sum<=(1+(e.arms.map fun a=>a.1.vars.length).sum)*M:=Nat.le_mul_of_pos_right _ hM;grind
theorem K7 (e:Exp):∀(ρ:Str->Nat),shp e->(∀s,1<=ρ s)->e.weight<=wV e ρ:=by
 induction e using Exp.ind with
 |h e ih=>
  intro ρ hs h;by_cases hk:e.kind=1
  .obtain ⟨a1,a2,_⟩:=Iz hs.one.1 hk
   have:e.weight=1:=(by rw[e.weight_eq,Exp.children,a1,a2];rfl);grind[Fb]
  .rw [Gr hk,e.weight_eq,Mf]
   refine Nat.add_le_add_left (Fe _ _ 0 rfl fun i x y hx hy=>?_) _;rw[hx]at hy;cases hy;refine ih x (qd hx) _ (hs.child (qd hx)) fun s=>?_;grind[asg]
theorem U5 (a:Exp):∀(c:Exp)(V:Rep)(ρ σ:Str->Nat),instR a c V->(∀s∈Ac a,∀d,V s d->wV d σ<=ρ s)->wV c σ<=wV a ρ:=by
 induction a using Exp.ind with
 |h a ih=>
  intro c V ρ σ h hv;by_cases hk:a.kind=1
  .rw [Fb hk]
   exact hv _ ((Cd hk).2 rfl) _ (h.var hk)
  .obtain ⟨h1,h2,h3,h4⟩:=h.node hk
   have hl:c.children.length=a.children.length:=h1.children.symm;have hsum:=Rt (e:=a) (e':=c) h1.2.2.2.2.symm fun i p q hp hq=>(h3 i p q hp hq).2;rw[Gr (show c.kind≠1 from fun q=>hk (h1.1.trans q)),Gr hk,hsum];refine Nat.add_le_add_left (Fe _ _ 0 hl fun i y x hy hx=>?_) _;refine ih x (qd hx) y _ _ _ (h4 i x y hx hy) fun s hs d hd=>?_;simp only[qaw];rcases hd with ⟨hb,t,ht,_,hvt⟩|⟨hb,hvd,hf⟩
   .rw [Fb hvt.1,hvt.2.1]
    grind[asg]
   .refine qr (NU d _ σ fun u hu=>?_) (qr (hv s ((BD hk).2 ⟨i,x,hx,hs,hb⟩) d hvd) ?_)<;>grind[asg]
theorem NQ {x:Str}{b e:Exp}{n:Nat}(hb:shp b)(hn:e.weight<=n)(hs:shp e)(hp:properP e)(σ:Str->Nat):wV (subN n e x b) σ<=wV e (fun s=>if s=x then wV b σ else σ s):=by
 refine U5 e _ _ _ σ (Hk x b hb n e hn hs hp) fun s _ d hd=>?_;unfold subV at hd;split at hd;grind
 .rename_i h
  rw[if_neg h,Fb hd.1,hd.2.1];simp
def okE (e:Exp):Prop:=shp e/\properP e/\conV e
def refP (e:Exp)(x:Str)(b:Exp):Exp:=refS e.weight e x b
def Ax (l:List (Str×Exp))(b:Exp):Exp:=l.foldl (fun e p=>subP e p.1 p.2) b
def Im (l:List (Str×Exp))(b:Exp):Exp:=l.foldl (fun e p=>refP e p.1 p.2) b
theorem CU (p:Str×Exp)(l:List (Str×Exp))(b:Exp):Ax (p::l) b=Ax l (subP b p.1 p.2):=rfl
theorem Vc (p:Str×Exp)(l:List (Str×Exp))(b:Exp):Im (p::l) b=Im l (refP b p.1 p.2):=rfl
theorem Ds {x:Str}{e b:Exp}(he:okE e)(hb:okE b):okE (subP e x b):=
 ⟨Pn x b hb.1 e.weight e (qg _) he.1 he.2.1,Q0 x b hb.2.1 e.weight e (qg _) he.1 he.2.1,Ug x b hb.2.2 e.weight e (qg _) he.1 he.2.1 he.2.2⟩
theorem WU {x:Str}{e e' b:Exp}(h:sameP e e')(he:okE e):sameP (subP e x b) (refP e' x b):=by
 unfold subP refP;rw[<-sameP.weight e e' h];exact S3 x b e.weight e e' h (qg _) he.1 he.2.1 he.2.2
theorem Km:∀(l:List (Str×Exp))(e e':Exp),sameP e e'->okE e->(∀p∈l,okE p.2)->sameP (Ax l e) (Im l e')/\okE (Ax l e)
 |[],_,_,h,he,_=>⟨h,he⟩
 |p::l,e,e',h,he,hl=>by
  rw[CU,Vc];exact Km l _ _ (WU h he) (Ds he (hl p (by simp))) fun q hq=>hl q (by grind)
def asgL (M:Nat)(l:List (Str×Exp)):Str->Nat:=fun s=>if ∃p∈l,p.1=s then M else 1
theorem QX {M:Nat}(hM:1<=M):∀(l:List (Str×Exp))(e:Exp),okE e->(∀p∈l,okE p.2/\p.2.weight<=M/\∀q∈l,q.1∉Ac p.2)->wV (Ax l e) (fun _=>1)<=wV e (asgL M l)
 |[],e,_,_=>by
  refine NU e _ _ fun s _=>?_;grind[asgL]
 |p::l,e,he,hl=>by
  obtain⟨h1,h2,h3⟩:=hl p (by simp);rw[CU];refine qr (QX hM l _ (Ds he h1) fun q hq=>?_) ?_;grind
  .refine qr (NQ h1.1 (qg _) he.1 he.2.1 _) (NU e _ _ fun s _ => ?_)
   by_cases hs:s=p.1
   .rw [if_pos hs]
    have hr:asgL M (p::l) s=M:=(by unfold asgL;simp_all);rw[hr];have hw:=LS (qg 1) p.2 (asgL M l) fun u hu=>by
     grind[asgL]
    omega
   .rw [if_neg hs]
    unfold asgL;by_cases hq:∃q∈l,q.1=s;simp_all;grind
theorem Ev (s:Str):okE (varX s):=by
 have hc:(varX s).children=[]:=rfl;have ha:(varX s).arms=[]:=rfl;refine⟨?_,?_,?_⟩
 .rw [B1,hc]
  exact⟨⟨⟨fun h=>absurd (show(1:Int)=8 from h) (by decide),fun _=>rfl,fun _=>rfl⟩,fun _=>⟨rfl,rfl⟩,rfl⟩,fun x hx=>by grind⟩
 grind[DW];grind[DL]
theorem RP (s:Str):(varX s).weight=1:=by
 rfl
theorem Zcy {x t:Str}{e:Exp}(he:okE e):(subP e x (varX t)).weight<=e.weight:=by
 have h1:=K7 (subP e x (varX t)) (fun _=>1) (Ds he (Ev t)).1 fun _=>qg _;have h2:=NQ (x:=x) (b:=varX t) (e:=e) (n:=e.weight) (Ev t).1 (qg _) he.1 he.2.1 fun _=>1;have h3:=LS (qg 1) e (fun s=>if s=x then wV (varX t) (fun _=>1) else 1) fun s _=>by
  rw[Fb (show(varX t).kind=1 from rfl)];simp
 grind[subP]
def XQ (e:Exp)(l:List (List Str)):List Str:=e.name::((e.arms.map fun a=>a.1.vars).flatten++l.flatten)
def Ah (e:Exp):List Str:=e.fold XQ
theorem E6 (e:Exp):Ah e=e.name::((e.arms.map fun a=>a.1.vars).flatten++(e.children.map Ah).flatten):=Exp.fold_eq _ e
def Ef (T:List Str)(vars:List Str)(args:List Exp):List (Str×Exp):=
 (vars.zipIdx.map fun p=>(p.1,varX (Av p.2 T)))++args.zipIdx.map fun p=>(Av p.2 T,p.1)
theorem Zbq {T T':List Str}(h:∀k,Av k T=Av k T')(vars:List Str)(args:List Exp):Ef T vars args=Ef T' vars args:=by
 grind[Ef]
def LZ (S:Exp->Str->Exp->Exp)(l:List (Str×Exp))(b:Exp):Exp:=l.foldl (fun e p=>S e p.1 p.2) b
def CK (S:Exp->Str->Exp->Exp)(T:Exp->List Str)(e:Exp)(con:Str)(args:List Exp):Option (Exp×Nat):=
 match e.arms.find? fun a=>a.1.con==con with
 |none=>none
 |some a=>if a.1.vars.length=args.length then some (LZ S (Ef (T e) a.1.vars args) a.2,4) else none
def AI (S:Exp->Str->Exp->Exp)(T:Exp->List Str)(G:Exp->Exp->Exp):Nat->Exp->Option (Exp×Nat)
 |0,_=>none
 |n+1,e=>match e.kids with
  |[f,a]=>
   if e.kind=5 then
    if f.kind=4 then (match f.kids with | [k]=>some (S k f.name a,1) | _=>none)
    else (AI S T G n f).map fun p=>(AL e (p.1::e.children.tail),p.2)
   else if e.kind=6 then some (S a e.name f,2)
   else if e.kind=7 then some (S a e.name (G e f),3) else none
  |[k]=>
   if e.kind=9 then some (k,5) else if e.kind=11 then some (k,6) else if e.kind=8 then
    if (CC k.weight k []).1.kind=2 then CK S T e (CC k.weight k []).1.name (CC k.weight k []).2
    else (AI S T G n k).map fun p=>(AL e (p.1::e.children.tail),p.2)
   else none
  |_=>none
def Zdx (a b:Option (Exp×Nat)):Prop:=match a,b with
 |none,none=>True
 |some p,some q=>sameP p.1 q.1/\p.2=q.2
 |_,_=>False
theorem okE.child {e x:Exp}(h:okE e)(hx:x∈e.children):okE x:=⟨h.1.child hx,h.2.1.child hx,h.2.2.child hx⟩
theorem Mo:∀(n:Nat)(e:Exp)(l:List Exp),okE e->(∀a∈l,okE a)->okE (CC n e l).1/\∀a∈(CC n e l).2,okE a
 |0,e,l,he,hl=>⟨he,hl⟩
 |n+1,e,l,he,hl=>by
  unfold CC;split
  .split
   .rename_i f a hk
    have hf:f∈e.children:=AO (by grind);have ha:a∈e.children:=AO (by grind);refine Mo n f (a::l) (he.child hf) fun b hb=>?_;rcases qD.1 hb with rfl|hb
    .exact he.child ha
    grind
   grind
  grind
theorem Uj {a b:Exp}(h:sameP a b){q:ArmH×Exp}(hq:q∈b.arms):∃p∈a.arms,p.1.con=q.1.con/\p.1.vars=q.1.vars:=by
 obtain⟨⟨_,_,_,_,_,h6,h7⟩,_⟩:=BP.1 h;obtain⟨i,hi⟩:=qj.1 hq;obtain⟨p,hp⟩:=Ag (l:=a.arms) (i:=i) (by rw[h6];exact(qf.1 hi).1);exact⟨p,qd hp,h7 i p q hp hi⟩
theorem ZY (a:Exp):∀b,sameP a b->okE a->okE b:=by
 have key:∀b,sameP a b->properP a/\conV a->properP b/\conV b:=by
  induction a using Exp.ind with
  |h a ih=>
   intro b h ⟨hp,hc⟩;have hk:∀y∈b.children,properP y/\conV y:=by
    intro y hy;obtain⟨i,hi⟩:=qj.1 hy;obtain⟨x,hx⟩:=Ag (l:=a.children) (i:=i) (by rw[h.kids_len];exact(qf.1 hi).1);have hm:=qd hx;exact ih x hm y ((BP.1 h).2 i x y hx hi) ⟨hp.child hm,hc.child hm⟩
   rw[DW,DL];refine⟨⟨fun q hq=>?_,fun y hy=>(hk y hy).1⟩,fun q hq k=>?_,fun y hy=>(hk y hy).2⟩
   .obtain ⟨p,hp',g1,g2⟩:=Uj h hq
    rw[<-g2];exact hp.one p hp'
   .obtain ⟨p,hp',g1,g2⟩:=Uj h hq
    rw[<-g1];exact hc.one p hp' k
 exact fun b h he=>⟨sameP.shp a b h he.1,key b h he.2⟩
theorem Io (a:Exp):sameP a (Ai a):=by
 induction a using Exp.ind with
 |h a ih=>
  obtain⟨h1,h2,h3,h4,h5,h6,h7,h8⟩:=Gi a;refine BP.2 ⟨⟨h1.symm,h2.symm,h3.symm,h4.symm,h5.symm,h6.symm,fun i p q hp hq=>?_⟩,fun i x y hx hy=>?_⟩
  .rw [h8,hp] at hq
   cases hq;exact⟨rfl,rfl⟩
  .rw [h7,qq,hx] at hy
   cases hy;exact ih x (qd hx)
theorem Zcu {e:Exp}(h:okE e):okE (Ai e):=ZY e _ (Io e) h
theorem YE {e:Exp}{cs:List Exp}(hl:cs.length=e.kids.length+e.arms.length)(hk:e.kind≠1)(he:okE e)(hc:∀c∈cs,okE c):okE (AL e cs):=by
 obtain⟨_,_,h3,h4⟩:=BN hl;refine⟨Ld hl hk he.1.one fun c h=>(hc c h).1,?_,?_⟩
 .rw [DW,h3]
  exact⟨La h4 he.2.1.one,fun c h=>(hc c h).2.1⟩
 .rw [DL,h3]
  refine⟨fun a ha k=>?_,fun c h=>(hc c h).2.2⟩;obtain⟨i,hi⟩:=qj.1 ha;have:=h4 i;rw[hi]at this;cases hq:e.arms[i]? with
  |none=>rw[hq]at this;simp at this
  |some q=>
   rw[hq]at this;simp only[qp,qc]at this;rw[this];exact he.2.2.one q (qd hq) k
theorem Ot {e:Exp}{o:Option (Exp×Nat)}{p:Exp×Nat}(hk:e.kind≠1)(he:okE e)(hc:e.children≠[])(ho:∀q,o=some q->okE q.1)(h:o.map (fun p=>(AL e (p.1::e.children.tail),p.2))=some p):okE p.1:=by
 obtain⟨q,hq,rfl⟩:=qo.1 h;refine YE ?_ hk he fun c hcm=>?_
 .have:=e.children_len
  cases hcc:e.children with
  |nil=>exact absurd hcc hc
  |cons c l=>rw[hcc]at this;simpa using this
 .rcases qD.1 hcm with rfl|hcm
  .exact ho q hq
  .exact he.child (List.mem_of_mem_tail hcm)
theorem YJ {e:Exp}{con:Str}{args:List Exp}{p:Exp×Nat}(he:okE e)(ha:∀a∈args,okE a)(h:CK subP Ah e con args=some p):okE p.1:=by
 unfold CK at h;cases hf:e.arms.find? fun a=>a.1.con==con with
 |none=>rw[hf]at h;cases h
 |some a=>
  rw[hf]at h;simp only at h;split at h
  .cases h
   have hm:=BB (List.mem_of_find?_eq_some hf);refine(Km _ a.2 a.2 (HQ a.2) (he.child hm) fun q hq=>?_).2;unfold Ef at hq;rcases qz.1 hq with hq|hq
   .obtain ⟨r,_,rfl⟩:=qL.1 hq
    exact Ev _
   .obtain ⟨⟨y,i⟩,hr,rfl⟩:=qL.1 hq
    exact ha y (qd (qao.1 hr))
  .cases h
theorem JB {G:Exp->Exp->Exp}(hG:∀e f,okE e->e.kind=7->f∈e.children->okE (G e f)):∀(n:Nat)(e:Exp)(p:Exp×Nat),okE e->AI subP Ah G n e=some p->okE p.1
 |0,_,_,_,h=>by cases h
 |n+1,e,p,he,h=>by
  unfold AI at h;split at h
  .rename_i f a hk
   have hf:f∈e.children:=AO (by rw[hk];simp);have ha:a∈e.children:=AO (by rw[hk];simp);have hne:e.children≠[]:=fun q=>by rw[q]at hf;simp at hf
   split at h
   .rename_i h5
    split at h
    .split at h
     .rename_i k hfk
      cases h;exact Ds ((he.child hf).child (AO (by rw[hfk];simp))) (he.child ha)
     .cases h
    .exact Ot (by omega) he hne (fun q hq=>JB hG n f q (he.child hf) hq) h
   .split at h
    .cases h
     exact Ds (he.child ha) (he.child hf)
    .split at h
     .rename_i h7
      cases h;exact Ds (he.child ha) (hG e f he h7 hf)
     .cases h
  .rename_i k hk
   have hm:k∈e.children:=AO (by rw[hk];simp);have hne:e.children≠[]:=fun q=>by rw[q]at hm;simp at hm
   split at h
   .cases h
    exact he.child hm
   .split at h
    .cases h
     exact he.child hm
    .split at h
     .rename_i h8
      split at h
      .exact YJ he (Mo _ k [] (he.child hm) (by simp)).2 h
      .exact Ot (by omega) he hne (fun q hq=>JB hG n k q (he.child hm) hq) h
     .cases h
  .cases h
def recZ (e:Exp):Prop:=e.fold fun e l=>(e.kind=7->e.num=0/\e.ty=tz)/\∀p∈l,p
theorem Eg (e:Exp):recZ e=((e.kind=7->e.num=0/\e.ty=tz)/\∀x∈e.children,recZ x):=by
 have:=Exp.fold_eq (fun e (l:List Prop)=>(e.kind=7->e.num=0/\e.ty=tz)/\∀p∈l,p) e;unfold recZ;rw[this];simp only[qN]
theorem recZ.one {e:Exp}(h:recZ e):e.kind=7->e.num=0/\e.ty=tz:=by grind[Eg]
theorem recZ.child {e x:Exp}(h:recZ e)(hx:x∈e.children):recZ x:=by grind[Eg]
theorem isVar.recZ {s:Str}{c:Exp}(h:isVar s c):recZ c:=by
 obtain⟨k,_,_,ty,ks,am⟩:=h;grind[Eg,Exp.children]
theorem instR.recZ (a:Exp):∀(c:Exp)(V:Rep),instR a c V->recZ a->(∀s d,V s d->recZ d)->recZ c:=by
 induction a using Exp.ind with
 |h a ih=>
  intro c V h ht hv;by_cases hk:a.kind=1
  .exact hv _ _ (h.var hk)
  .obtain ⟨h1,h2,h3,h4⟩:=h.node hk
   rw[Eg];refine⟨fun q=>?_,fun y hy=>?_⟩
   .rw [<-h1.2.1,<-h1.2.2.1]
    exact ht.one (h1.1.trans q)
   .obtain ⟨i,hi⟩:=qj.1 hy
    obtain⟨x,hx⟩:=Ag (l:=a.children) (i:=i) (by rw[h1.children];grind);refine ih x (qd hx) y _ (h4 i x y hx hi) (ht.child (qd hx)) fun s d hd=>?_;rcases hd with ⟨_,t,_,_,hvv⟩|⟨_,q,_⟩
    .exact hvv.recZ
    grind
theorem Kj {x:Str}{e b:Exp}(he:okE e)(hb:okE b)(h:recZ e)(hr:recZ b):recZ (subP e x b):=by
 refine instR.recZ e _ _ (Hk x b hb.1 e.weight e (qg _) he.1 he.2.1) h fun s d hd=>?_;unfold subV at hd;split at hd;grind
 .exact hd.recZ
theorem WX (s:Str):recZ (varX s):=(show isVar s (varX s)from⟨rfl,rfl,rfl,rfl,rfl,rfl⟩).recZ
theorem Vt (a:Exp):∀b,sameP a b->recZ a->recZ b:=by
 induction a using Exp.ind with
 |h a ih=>
  intro b h ha;obtain⟨⟨h1,h2,h3,h4,_⟩,h8⟩:=BP.1 h;rw[Eg];refine⟨fun q=>?_,fun y hy=>?_⟩
  .rw [<-h3,<-h4]
   exact ha.one (h1.trans q)
  .obtain ⟨i,hi⟩:=qj.1 hy
   obtain⟨x,hx⟩:=Ag (l:=a.children) (i:=i) (by rw[h.kids_len];grind);have hm:=qd hx;exact ih x hm y (h8 i x y hx hi) (ha.child hm)
theorem Zbr {e:Exp}(h:recZ e):recZ (Ai e):=Vt e _ (Io e) h
def AA (e f:Exp):Exp:=.mk e.kind e.pos e.name e.num [f,f] e.arms e.ty
def PZ (e f:Exp):Exp:=.mk 7 0 e.name 0 [f,f] [] tz
theorem IJ {e f:Exp}(he:okE e)(hk:e.kind=7)(hf:f∈e.children):okE (AA e f):=by
 have ha:=he.1.one.1.2.1 (show ¬e.kind=8 by omega);have hc:(AA e f).children=[f,f]:=by grind[AA,BK]
 have hm:∀y∈(AA e f).children,y=f:=fun y hy=>by grind
 have hfo:=he.child hf;have hr:(AA e f).arms=[]:=ha;refine⟨?_,?_,?_⟩
 .rw [B1]
  refine⟨⟨⟨fun q=>?_,fun _=>ha,fun q=>?_⟩,fun q=>?_,?_⟩,fun y hy=>(hm y hy)▸hfo.1⟩
  .exact absurd (show e.kind=8 from q) (by omega)
  .exact absurd (show e.kind=1 from q) (by omega)
  .exact absurd (show e.kind=1 from q) (by omega)
  .have:=he.1.one.2.2
   show 2=CO e.kind;rw[hk];rfl
 .rw [DW,hr]
  exact⟨fun a h=>by grind,fun y hy=>(hm y hy)▸hfo.2.1⟩
 .rw [DL,hr]
  exact⟨fun a h=>by grind,fun y hy=>(hm y hy)▸hfo.2.2⟩
theorem Vb {e:Exp}{cs:List Exp}(hl:cs.length=e.kids.length+e.arms.length)(he:recZ e)(hc:∀c∈cs,recZ c):recZ (AL e cs):=by
 rw[Eg,(BN hl).2.2.1];exact⟨he.one,hc⟩
theorem Vp {e f:Exp}(he:okE e)(h:recZ e)(hk:e.kind=7)(hf:f∈e.children):recZ (AA e f):=by
 have ha:=he.1.one.1.2.1 (show ¬e.kind=8 by omega);have hc:(AA e f).children=[f,f]:=by grind[AA,BK]
 rw[Eg,hc];exact⟨fun _=>h.one hk,fun y hy=>by
  have:y=f:=by grind
  exact this▸h.child hf⟩
theorem QY:∀(l:List (Str×Exp))(e:Exp),okE e->recZ e->(∀p∈l,okE p.2/\recZ p.2)->recZ (Ax l e)
 |[],_,_,h,_=>h
 |p::l,e,he,h,hl=>by
  obtain⟨h1,h2⟩:=hl p (by simp);rw[CU];exact QY l _ (Ds he h1) (Kj he h1 h h2) fun q hq=>hl q (by grind)
theorem Pk:∀(n:Nat)(e:Exp)(l:List Exp),recZ e->(∀a∈l,recZ a)->∀a∈(CC n e l).2,recZ a
 |0,_,_,_,hl=>hl
 |n+1,e,l,he,hl=>by
  unfold CC;split
  .split
   .rename_i f a hk
    have hf:f∈e.children:=AO (by grind);have ha:a∈e.children:=AO (by grind);refine Pk n f (a::l) (he.child hf) fun b hb=>?_;rcases qD.1 hb with rfl|hb
    .exact he.child ha
    grind
   omega
  omega
theorem ZbD {e:Exp}{con:Str}{args:List Exp}{p:Exp×Nat}(he:okE e)(hr:recZ e)(ha:∀a∈args,okE a/\recZ a)(h:CK subP Ah e con args=some p):recZ p.1:=by
 unfold CK at h;cases hf:e.arms.find? fun a=>a.1.con==con with
 |none=>grind
 |some a=>
  rw[hf]at h;simp only at h;split at h
  .cases h
   have hm:=BB (List.mem_of_find?_eq_some hf);refine QY _ a.2 (he.child hm) (hr.child hm) fun q hq=>?_;grind[Ef,Ev,WX]
  grind
theorem Rf {e:Exp}{o:Option (Exp×Nat)}{p:Exp×Nat}(he:recZ e)(hc:e.children≠[])(ho:∀q,o=some q->recZ q.1)(h:o.map (fun p=>(AL e (p.1::e.children.tail),p.2))=some p):recZ p.1:=by
 obtain⟨q,hq,rfl⟩:=qo.1 h;refine Vb ?_ he fun c hcm=>?_
 .have:=e.children_len
  cases hcc:e.children<;>grind
 .rcases qD.1 hcm with rfl|hcm
  grind
  .exact he.child (List.mem_of_mem_tail hcm)
theorem M9:∀(n:Nat)(e:Exp)(p:Exp×Nat),okE e->recZ e->AI subP Ah AA n e=some p->recZ p.1
 |0,_,_,_,_,h=>by cases h
 |n+1,e,p,he,hr,h=>by
  unfold AI at h;split at h
  .rename_i f a hk
   have hf:f∈e.children:=AO (by grind);have ha:a∈e.children:=AO (by grind);have hne:e.children≠[]:=fun q=>by grind
   split at h
   .split at h
    .split at h
     .rename_i k hfk
      cases h;have hkf:=AO (e:=f) (x:=k) (by grind);exact Kj ((he.child hf).child hkf) (he.child ha) ((hr.child hf).child hkf) (hr.child ha)
     grind
    .exact Rf hr hne (fun q hq=>M9 n f q (he.child hf) (hr.child hf) hq) h
   .split at h
    .cases h
     exact Kj (he.child ha) (he.child hf) (hr.child ha) (hr.child hf)
    .split at h
     .rename_i h7
      cases h;exact Kj (he.child ha) (IJ he h7 hf) (hr.child ha) (Vp he hr h7 hf)
     grind
  .rename_i k hk
   have hm:k∈e.children:=AO (by grind);have hne:e.children≠[]:=fun q=>by grind
   split at h
   .cases h
    exact hr.child hm
   .split at h
    .cases h
     exact hr.child hm
    .split at h
     .split at h
      .have hs:=(Mo k.weight k [] (he.child hm) (by simp)).2
       have hs2:=Pk k.weight k [] (hr.child hm) (by simp);grind[ZbD]
      .exact Rf hr hne (fun q hq=>M9 n k q (he.child hm) (hr.child hm) hq) h
     grind
  grind
theorem ZI (n:Nat)(e:Exp)(p:Exp×Nat)(he:okE e)(hr:recZ e)(h:AI subP Ah AA n e=some p):okE (Ai p.1)/\recZ (Ai p.1):=
 ⟨Zcu (JB (fun _ _ q k hf=>IJ q k hf) n e p he h),Zbr (M9 n e p he hr h)⟩
variable {A:Ab}
def Cg (e:Exp):Nat->List Str
 |0=>[e.name]
 |i+1=>Cg e i++(match e.children[i]? with | some x=>e.bound i++allP x | none=>[])
theorem L3 {e x:Exp}{i:Nat}(h:e.children[i]?=some x):Cg e (i+1)=Cg e i++e.bound i++allP x:=by
 simp only[Cg,h,qW]
theorem LN (e:Exp):Cg e e.children.length=allP e:=by
 have key:∀i,i<=e.children.length->Cg e i=e.name::(((e.children.map allP).zipIdx.take i).map fun p=>e.bound p.2++p.1).flatten:=by
  intro i
  induction i with
  |zero=>intro _;rfl
  |succ i ih=>
   intro hi;obtain⟨x,hx⟩:=Ag (l:=e.children) (i:=i) (by omega);have hz:((e.children.map allP).zipIdx)[i]?=some (allP x,i):=(by simp[hx]);rw[L3 hx,ih (by omega),Bn hz];simp
 rw[key _ (qg _),qn (by simp),Qo]
def EU (e:Exp):Nat->Nat
 |0=>0
 |i+1=>EU e i+(e.bound i).length
theorem O9 (e:Exp)(hw:e.wf1)(hk:e.kind=8):∀i,i<=e.arms.length->EU e (i+1)<=((e.arms.take i).map fun a=>a.1.vars.length).sum
 |0,_=>by
  simp only[EU];rw[Bk,if_neg (by omega),if_neg (by omega)];simp
 |i+1,hi=>by
  obtain⟨a,ha⟩:=Ag (l:=e.arms) (i:=i) (by omega);have h:=O9 e hw hk i (by omega);have hb:(e.bound (i+1)).length=a.1.vars.length:=by
   rw[Bk,if_neg (by omega),if_pos ⟨hk,by omega⟩,qa7,ha];rfl
  rw[EU,hb,Bn ha];simp only[qaD,qbl,qv,qaf,qad,qbj];omega
theorem O0 (e:Exp)(hk:e.kind≠8):∀i,EU e i<=i
 |0=>qg _
 |i+1=>by
  have h:=O0 e hk i;simp only[EU];rcases UT hk i with hb|hb<;>rw[hb]<;>simp<;>omega
theorem Fv (e:Exp):e.wf->(allP e).length+1<=2*e.weight:=by
 induction e using Exp.ind with
 |h e ih=>
  intro hw;have key:∀i,i<=e.children.length->(Cg e i).length+i<=1+EU e i+2*((e.children.take i).map Exp.weight).sum:=by
   intro i
   induction i with
   |zero=>intro _;simp[Cg,EU]
   |succ i ihi=>
    intro hi;obtain⟨x,hx⟩:=Ag (l:=e.children) (i:=i) (by omega);have h1:=ihi (by omega);have h2:=ih x (qd hx) (hw.child (qd hx));rw[L3 hx,Bn hx];simp only[qI,qaD,qbl,qv,qaf,qad,qbj,EU];omega
  have h:=key _ (qg _);rw[LN,qn (qg _)]at h;rw[e.weight_eq];by_cases hk:e.kind=8
  .have h1:=hw.one.1 hk
   have h2:=O9 e hw.one hk e.arms.length (qg _);rw[qn (qg _)]at h2;rw[e.children_len,h1,Nat.add_comm 1]at h;omega
  .have h2:=O0 e hk e.children.length
   omega
theorem XK {e:Exp}(hw:e.wf):∀i,i<=e.children.length->(Cg e i).length<=(allP e).length:=by
 intro i hi;rw[<-LN];have:∀k,(Cg e i).length<=(Cg e (i+k)).length:=by
  intro k
  induction k with
  |zero=>exact qg _
  |succ k ih=>
   refine qr ih ?_;show _<=(Cg e (i+k)++_).length;rw[qI];omega
 have h:=this (e.children.length-i);rwa[show i+(e.children.length-i)=e.children.length by omega]at h
def nmL (e:Exp):Prop:=∀s∈allP e,s.length<=1000
theorem nmL.child {e x:Exp}{i:Nat}(h:nmL e)(hx:e.children[i]?=some x):nmL x:=fun s hs=>h s (A3.2 (.inr ⟨i,x,hx,.inr hs⟩))
theorem nmL.bound {e x:Exp}{i:Nat}(h:nmL e)(hx:e.children[i]?=some x):∀s∈e.bound i,s.length<=1000:=fun s hs=>h s (A3.2 (.inr ⟨i,x,hx,.inl hs⟩))
theorem Vd (frm to:Str)(e:Exp):∀s∈allP (repl frm to e),s∈allP e\/s=to:=by
 induction e using Exp.ind with
 |h e ih=>
  intro s hs;by_cases hk:e.kind=1
  .rw [EE hk] at hs
   by_cases hf:e.name=frm
   .rw [if_pos hf] at hs
    rcases A3.1 hs with h|⟨i,x,hx,h⟩
    .exact .inr h
    .refine .inl (A3.2 (.inr ⟨i,x,hx,h.imp (fun h => ?_) id⟩))
     rw[Hc,if_neg (by omega)]at h;rw[Bk,if_neg (by omega)];exact h
   .rw [if_neg hf] at hs
    exact .inl hs
  .rw [EM hk] at hs
   rcases A3.1 hs with h|⟨i,y,hy,h⟩
   .exact .inl (A3.2 (.inl h))
   .rw [(BN (replC_len frm to e)).2.2.1] at hy
    rw[IC (replC_len frm to e)]at h;obtain⟨x,hx⟩:=Ag (l:=e.children) (i:=i) (by have:=(qf.1 hy).1;rw[replC_len,<-e.children_len]at this;exact this);rw[D6 hx]at hy;cases hy;rcases h with h|h
    .exact .inl (A3.2 (.inr ⟨i,x,hx,.inl h⟩))
    .split at h
     .exact .inl (A3.2 (.inr ⟨i,x,hx,.inr h⟩))
     .exact(ih x (qd hx) s h).imp (fun h=>A3.2 (.inr ⟨i,x,hx,.inr h⟩)) id
theorem N7 {frm to:Str}{e:Exp}(h:nmL e)(ht:to.length<=1000):nmL (repl frm to e):=fun s hs=>(Vd frm to e s hs).elim (h s) fun q=>q▸ht
theorem Ha (n:Nat)(taken:List Str)(h:n+taken.length<=687194767360):(Av n taken).length<=1000:=by
 have h1:=Nj n taken;have h2:=Gt (Bo n taken) 13 (by omega) (by omega);unfold Av AG;rw[qF];omega
theorem Rz (taken:List Str)(ht:taken.length<=618475290624)(hs:∀s∈taken,s.length<=1000):(K A).call 241 [A1 taken] []=some (strV (Av 0 taken),[]):=by
 refine fnO v241 ?_;have h:=Ox (A:=A) 0 0 (by omega) (by omega) taken (by omega) ht (fun s h=>by have:=hs s h;omega);unfold v241;simp(maxSteps:=9^7) (disch:=try exact zd) [h,-getElem?_pos]
theorem SL (e:Exp):e.wf->e.weight<=584115552256->(K A).call 242 [expV e] []=some (.sc (.arr 0 (allP e).length),[.arr 1 (wr (Ao (allP e))) 0]):=by
 induction e using Exp.ind with
 |h e ih=>
 intro hwf hl;refine fnO v242 ?_;have hle:=e.children_le;rw[e.children_len]at hle;have hpl:=Fv e hwf;have hend:=LN e;by_cases hkids:e.kids=[]
 .have harms:e.arms=[]:=qP fun h=>by
   have h8:e.kind=8:=qP fun h8=>h (hwf.one.2.1 h8);have:=hwf.one.1 h8;rw[hkids]at this;simp at this
  have hc:=DS (A:=A) e hkids harms;have hch:e.children=[]:=by simp[Exp.children,hkids,harms]
  rw[hch]at hend;simp only[qR,Cg]at hend;rw[<-hend];have hr:wr (Ao [e.name])=[[W.c (.str e.name)]]:=rfl;unfold v242;simp(maxSteps:=9^7) (disch:=try exact zd) [hc,hr,-getElem?_pos];refine Aq (fun i=>⟨[(1,.sc (.ptr 64 0)),(3,.sc (.arr 320 1)),(10,.sc (.full [])),(11,intV 0),(12,intV i)],[(64,some (.box (wc e.row))),(320,some (.arr 1 [[W.c (.str e.name)]] 0))]⟩) 0 ?_ (fun i hi=>by omega) ?_
  .simp
  .unfold KG
   simp(maxSteps:=9^7) (disch:=try exact zd) [hr,-getElem?_pos]
 .have hc:=BQ (A:=A) e hkids (by omega)
  rw[e.children_len]at hc hend;have h0:Cg e 0=[e.name]:=rfl;have hr:wr (Ao [e.name])=[[W.c (.str e.name)]]:=rfl;unfold v242;simp(maxSteps:=9^7) (disch:=try exact zd) [hc,-getElem?_pos];refine Aq (fun i=>⟨[(1,.sc (.ptr 64 0)),(3,.sc (.arr 320 (Cg e i).length)),(10,.sc (.arr 544 (e.kids.length+e.arms.length))),(11,intV ((e.kids.length:Int)+e.arms.length)),(12,intV i)],
   [(64,some (.box (wc e.row))),(320,some (.arr 1 (wr (Ao (Cg e i))) 0)),(544,some (.arr 11 (wr (Exp.rows e.children)) 0))]⟩) (e.kids.length+e.arms.length) ?_ ?_ ?_
  .simp[h0,hr]
  .intro i hi
   have hi1:i<e.children.length:=(by rw[e.children_len];exact hi);obtain⟨x,hx⟩:=Ag hi1;have hm:=qd hx;have hrec:=ih x hm (hwf.child hm) (by have:=Exp.child_lt hm;omega);have hb:=HI (A:=A) e i hwf.one hi1 (by omega);have hs:=L3 hx;have hlen:=XK hwf (i+1) hi1;rw[hs]at hlen;rw[hs];simp only[qI]at hlen;have hi2:(i:Int)<(e.kids.length:Int)+e.arms.length:=(by omega);generalize Cg e i=ai at *
   generalize e.bound i=bi at *
   generalize allP x=ax at *
   unfold KG;simp(maxSteps:=9^7) (disch:=try exact zd) [hi,hi2,hx,hb,hrec,qaP,-getElem?_pos]
  .rw [hend]
   unfold KG;simp(maxSteps:=9^7) (disch:=try exact zd) [-getElem?_pos]
theorem Qt (frm to:Str)(e:Exp):e.wf->e.weight<=687194767360->(K A).call 243 [expV e,strV frm,strV to] []=some (expV (repl frm to e),[]):=by
 induction e using Exp.ind with
 |h e ih=>
 intro hwf hl;refine fnO v243 ?_;have hle:=e.children_le;rw[e.children_len]at hle;by_cases hk:e.kind=1
 .have hrow:wc (Exp.mk e.kind e.pos to e.num e.kids e.arms e.ty).row=[.c (.int .i64 e.kind),.c (.int .i64 e.pos),.c (.str to),.c (.int .i64 e.num),.c (.sl (Exp.rows e.kids)),.c (.sl (Exp.armRows e.arms)),.c (.int .i64 e.ty.kind),.c (.str e.ty.name),.c (.int .i64 e.ty.id),.c (.int .i64 e.ty.home),.c (.sl (Ty.rows e.ty.args))]:=by rw [Exp.row_eq];rfl
  have hrow0:wc e.row=[.c (.int .i64 e.kind),.c (.int .i64 e.pos),.c (.str e.name),.c (.int .i64 e.num),.c (.sl (Exp.rows e.kids)),.c (.sl (Exp.armRows e.arms)),.c (.int .i64 e.ty.kind),.c (.str e.ty.name),.c (.int .i64 e.ty.id),.c (.int .i64 e.ty.home),.c (.sl (Ty.rows e.ty.args))]:=by rw[Exp.row_eq];rfl
  rw[EE hk];unfold v243;by_cases hf:e.name=frm
  .rw [if_pos hf]
   rw[hk]at hrow hrow0 |-;simp(maxSteps:=9^7) (disch:=try exact zd) [hk,hf,hrow,hrow0,-getElem?_pos]
  .rw [if_neg hf]
   simp(maxSteps:=9^7) (disch:=try exact zd) [hk,hf,-getElem?_pos]
 .rw [EM hk]
  have hCl:=replC_len frm to e;have hcg:=fun {i:Nat} {x:Exp} (h:e.children[i]?=some x)=>D6 (frm:=frm) (to:=to) h;have hw:=Gg (A:=A) e (CD frm to e) hCl (by omega);by_cases hkids:e.kids=[]
  .have harms:e.arms=[]:=qP fun h=>by
    have h8:e.kind=8:=qP fun h8=>h (hwf.one.2.1 h8);have:=hwf.one.1 h8;rw[hkids]at this;simp at this
   have hc:=DS (A:=A) e hkids harms;have hC0:CD frm to e=[]:=qS.1 (by rw[hCl,hkids,harms];rfl);rw[hC0]at hw |-;have hr1:Exp.rows []=[]:=(by rw[Exp.rows]);have hr2:Exp.armRows []=[]:=(by rw[Exp.armRows]);have hz:AV [] []=[]:=rfl
   have hrow:wc (AL e []).row=[.c (.int .i64 e.kind),.c (.int .i64 e.pos),.c (.str e.name),.c (.int .i64 e.num),.c (.sl []),.c (.sl []),.c (.int .i64 e.ty.kind),.c (.str e.ty.name),.c (.int .i64 e.ty.id),.c (.int .i64 e.ty.home),.c (.sl (Ty.rows e.ty.args))]:=by
    rw[Exp.row_eq];simp[AL,harms,AV,hr1,hr2,Exp.kind,Exp.pos,Exp.name,Exp.num,Exp.kids,Exp.arms,Exp.ty,wc]
   simp only[exsV,hr1,hkids,harms,qR,List.take_nil,List.drop_nil,hz,hr2]at hw;unfold v243;simp(maxSteps:=9^7) (disch:=try exact zd) [hk,hc,-getElem?_pos];refine Aq (fun i=>⟨[(1,strV frm),(2,strV to),(3,.sc (.ptr 64 0)),(6,.sc (.ptr 128 0)),(7,.sc (.full [])),(22,.sc (.full [])),(23,intV 0),(24,intV i)],[(64,some (.box (wc e.row))),(128,some BL)]⟩) 0 ?_ (fun i hi=>by omega) ?_
   .simp
   .unfold KA
    simp(maxSteps:=9^7) (disch:=try exact zd) [hw,hrow,-getElem?_pos]
  .have hc:=BQ (A:=A) e hkids (by omega)
   rw[e.children_len]at hc;have hC2:(CD frm to e).length=e.children.length:=(by rw[hCl,e.children_len]);have hkl:((CD frm to e).take e.kids.length).length=e.kids.length:=(by rw[qY,hCl];omega);have hal:(AV e.arms ((CD frm to e).drop e.kids.length)).length=e.arms.length:=(by rw[armsW_len,qaa,hCl];omega)
   have hrow:wc (AL e (CD frm to e)).row=[.c (.int .i64 e.kind),.c (.int .i64 e.pos),.c (.str e.name),.c (.int .i64 e.num),.c (.sl (Exp.rows ((CD frm to e).take e.kids.length))),.c (.sl (Exp.armRows (AV e.arms ((CD frm to e).drop e.kids.length)))),.c (.int .i64 e.ty.kind),.c (.str e.ty.name),.c (.int .i64 e.ty.id),.c (.int .i64 e.ty.home),.c (.sl (Ty.rows e.ty.args))]:=(by rw[Exp.row_eq];rfl)
   generalize AL e (CD frm to e)=we at *
   generalize CD frm to e=cc at *
   unfold v243;simp(maxSteps:=9^7) (disch:=try exact zd) [hk,hc,-getElem?_pos];refine Aq (fun i=>⟨[(1,strV frm),(2,strV to),(3,.sc (.ptr 64 0)),(6,.sc (.ptr 128 0)),(7,.sc (.arr 1056 (e.kids.length+e.arms.length))),(22,.sc (.arr 1056 (e.kids.length+e.arms.length))),(23,intV ((e.kids.length:Int)+e.arms.length)),(24,intV i)],
    [(64,some (.box (wc e.row))),(128,some BL),(1056,some (.arr 11 (wr (Exp.rows (cc.take i++e.children.drop i))) 0))]⟩) (e.kids.length+e.arms.length) ?_ ?_ ?_
   .simp
   .intro i hi
    have hi1:i<e.children.length:=(by rw[e.children_len];exact hi);obtain⟨x,hx⟩:=Ag hi1;have hm:=qd hx;have hrec:=ih x hm (hwf.child hm) (by have:=Exp.child_lt hm;omega);have hb:=HI (A:=A) e i hwf.one hi1 (by omega);have hbl:=qr (e.bound_le i) hl;have hco:=ES (A:=A) (e.bound i) frm (by omega);have hcx:=hcg hx;have hg:=EP (i:=i) hC2 hi1;rw[hx]at hg;have hst:=EJ hC2 hcx;have hln:=EN (i:=i) hC2
    rw[e.children_len]at hln;have hi2:(i:Int)<(e.kids.length:Int)+e.arms.length:=(by omega);have hset:=fun y=>Fu (cc.take i++e.children.drop i) i y;rw[<-hst];generalize cc.take i++e.children.drop i=zr at *
    unfold KA;by_cases hf:frm∈e.bound i
    .have hsame:zr.set i x=zr:=by
      refine qE fun m=>?_;rw[qaJ];split
      .rename_i h
       subst h;rw[hg];split
       .rfl
       .omega
      .rfl
     rw[if_pos hf,hsame];simp(maxSteps:=9^7) (disch:=try exact zd) [hi,hi2,hg,hln,hb,hco,hf,BY,-getElem?_pos]
    .rw [if_neg hf]
     simp(maxSteps:=9^7) (disch:=try exact zd) [hi,hi2,hg,hln,hb,hco,hf,hrec,hset,BY,-getElem?_pos]
   .have htk:cc.take (e.kids.length+e.arms.length)++e.children.drop (e.kids.length+e.arms.length)=cc:=by
     rw[qag (by rw[e.children_len];omega),qJ,qn (by omega)]
    rw[htk];unfold KA;simp(maxSteps:=9^7) (disch:=try exact zd) [hw,hrow,hkl,hal,hCl,-getElem?_pos]
end Go.Vs.Tryz
namespace Go.Vs
open Go
section
variable {L:Nat->Option Obj}
@[simp] theorem toC_vw {d k N lo n:Nat}:W.toC L (d+1) (.vw k N lo n)=arrK (L k) fun _ rows _=>bif rows.length==N&&Nat.ble (lo+n) N then (Ad (Ad (W.toC L d)) ((rows.drop lo).take n)).map .sl else none:=by
 simp only[W.toC,arrK];cases L k with
 |none=>rfl
 |some o=>cases o<;>rfl
@[simp] theorem ids_vw {d k N lo n:Nat}:W.ids L (d+1) (.vw k N lo n)=k::(match L k with | some (.arr _ rows _)=>rows.flatMap (·.flatMap (W.ids L d)) | _=>[]):=rfl
end
theorem P3 (rows:List (List Cell))(i n:Nat)(h:n=rows.length):((wr rows).drop i).take (n-i)=wr (rows.drop i):=by
 subst h;unfold wr;rw[<-List.map_drop,qn (by simp)]
end Go.Vs
namespace Go.Vs.Tryz
open Go Go.Vs
variable {A:Ab}
abbrev Bf (x:Str)(b:Exp)(free:List Str):List W:=[.c (.str x),.c (.int .i64 b.kind),.c (.int .i64 b.pos),.c (.str b.name),.c (.int .i64 b.num),.c (.sl (Exp.rows b.kids)),.c (.sl (Exp.armRows b.arms)),.c (.int .i64 b.ty.kind),.c (.str b.ty.name),.c (.int .i64 b.ty.id),.c (.int .i64 b.ty.home),.c (.sl (Ty.rows b.ty.args)),.c (.sl (Ao free))]
theorem ZbM (x:Str)(b:Exp)(free:List Str)(e:Exp)(hw:e.wf)(hl:e.weight<=687194767360):(K A).call 258 [expV e,.sc (.ptr 0 0)] [.box (Bf x b free)]=some (Aa (decide (x∈Ac e)),[.box (Bf x b free)]):=by
 refine fnO v258 ?_;have h1:=SN (A:=A) e hw hl;have h2:=ES (A:=A) (Ac e) x (by have:=G7 e;omega);unfold v258;simp(disch:=try exact zd) [h1,h2]
theorem ZaQ (x:Str)(b:Exp)(free:List Str)(l:List Exp)(hn:l.length<=687194767360)(hw:∀e∈l,e.wf/\e.weight<=687194767360):
 ∃r,(∃z:Int,(0<=z↔∃e∈l,x∈Ac e)/\r=(intV z,[Obj.box (Bf x b free)]))/\(K A).call 148 [exsV l,.sc (.clo 258 [true] [[.ptr 0 0]])] [.box (Bf x b free)]=some r:=by
 refine fnE v148 ?_;unfold v148;simp(disch:=try exact zd);refine AW (fun i s=>(∀(j:Nat) e,j<i->l[j]?=some e->x∉Ac e)/\s=⟨[(0,exsV l),(1,.sc (.clo 258 [true] [[.ptr 0 0]])),(7,intV l.length),(8,intV i)],[(0,some (.box (Bf x b free)))]⟩) l.length ⟨by omega,by simp⟩ ?_ ?_
 .rintro i s hi ⟨hs,rfl⟩
  obtain⟨e,he⟩:=Ag hi;have hm:=qd he;have hc:=ZbM (A:=A) x b free e (hw e hm).1 (hw e hm).2;unfold Iv;by_cases hx:x∈Ac e
  .simp (maxSteps:=9^7) (disch:=try exact zd) [hi,he,hc,hx,-getElem?_pos]
   exact⟨e,hm,hx⟩
  .simp (maxSteps:=9^7) (disch:=try exact zd) [hi,he,hc,hx,-getElem?_pos]
   intro j e' hj he';by_cases hji:j=i
   .subst hji
    rw[he]at he';cases he';exact hx
   .exact hs j e' (by omega) he'
 .rintro s ⟨hs,rfl⟩
  unfold Iv;simp(maxSteps:=9^7) (disch:=try exact zd);intro e he;obtain⟨j,hj⟩:=qj.1 he;exact hs j e (qf.1 hj).1 hj
theorem Yh (x:Str)(b:Exp)(free:List Str)(l:List Exp)(hn:l.length<=687194767360)(hw:∀e∈l,e.wf/\e.weight<=687194767360):
 (K A).call 98 [exsV l,.sc (.clo 258 [true] [[.ptr 0 0]])] [.box (Bf x b free)]=some (Aa (decide (∃e∈l,x∈Ac e)),[.box (Bf x b free)]):=by
 refine fnO v98 ?_;obtain⟨_,⟨z,hz,rfl⟩,hc⟩:=ZaQ (A:=A) x b free l hn hw;have hd:decide (∃e∈l,x∈Ac e)=decide (0<=z):=by rw[decide_eq_decide];exact hz.symm
 rw[hd];unfold v98;simp(disch:=try exact zd) [hc]
theorem T1 (x:Str)(b:Exp)(free:List Str)(n:Str)(l:List Exp)(hf:free.length<=1649267441664)(hn:l.length<=687194767360)(hw:∀e∈l,e.wf/\e.weight<=687194767360):
 (K A).call 240 [.ag (Bf x b free),strV n,exsV l] []=some (Aa (decide (hitP x free n l)),[]):=by
 refine fnO v240 ?_;have h1:=ES (A:=A) free n hf;have h2:=Yh (A:=A) x b free l hn hw;unfold v240;by_cases hm:n∈free
 .have hd:decide (hitP x free n l)=decide (∃e∈l,x∈Ac e):=by
   rw[decide_eq_decide];exact⟨fun h=>h.2,fun h=>⟨hm,h⟩⟩
  rw[hd];generalize decide (∃e∈l,x∈Ac e)=v at *
  simp(disch:=try exact zd) [h1,h2,hm]
 .have hd:decide (hitP x free n l)=false:=by
   rw[decide_eq_false_iff_not];exact fun h=>hm h.1
  rw[hd];simp(disch:=try exact zd) [h1,hm]
def Fk (x:Str)(free:List Str)(e:Exp):List Exp:=e.kids.zipIdx.map fun p=>if p.2<AB e then p.1 else repl e.name (Av 0 (allP e++free++[x])) p.1
theorem Zbt (x:Str)(b:Exp)(free:List Str)(e:Exp)(hs:shp e)(hk:e.kind=4\/e.kind=6\/e.kind=7)(hl:e.weight<=100000000000)(hfl:free.length<=100000000000)(hn:nmL e)(hnf:∀s∈free,s.length<=1000)(hx:x.length<=1000):
 (K A).call 222 [.ag (Bf x b free),expV e] []=some (expV (BM x free e),[]):=by
 refine fnO v222 ?_;obtain⟨ha,hch⟩:=EH (by omega) hs.one;have hkl:AB e<e.kids.length/\e.kids.length<=2:=by
  have h:=hs.one.2.2;unfold CO at h;unfold AB;rcases hk with k|k|k
  .rw [if_neg (by omega),if_pos (by omega)] at h
   rw[if_neg (by omega),h];decide
  .rw [if_pos (by omega)] at h
   rw[if_pos (by omega),h];decide
  .rw [if_pos (by omega)] at h
   rw[if_neg (by omega),h];decide
 obtain⟨hk1,hk2⟩:=hkl;have hkw:∀y∈e.kids,y.wf/\y.weight<=100000000000:=fun y hy=>⟨(hs.child (AO hy)).wf,by have:=Exp.child_lt (AO hy);omega⟩;have hkne:e.kids≠[]:=fun h=>by rw[h]at hk1;simp at hk1
 have hc:=R8 (A:=A) e.kids hkne (by omega);have hhit:=T1 (A:=A) x b free e.name (e.kids.drop (AB e)) (by omega) (by rw[qaa];omega) (fun y hy=>by have:=hkw y (List.mem_of_mem_drop hy);exact⟨this.1,by omega⟩);have hall:=SL (A:=A) e hs.wf (by omega);have hal:=Fv e hs.wf;have hfr:=Rz (A:=A) (allP e++free++[x]) (by simp;omega) (fun s h=>by
  simp only[qz,qy]at h;rcases h with (h|h)|h
  .exact hn s h
  .exact hnf s h
  .exact h▸hx)
 have hrow0:wc e.row=[.c (.int .i64 e.kind),.c (.int .i64 e.pos),.c (.str e.name),.c (.int .i64 e.num),.c (.sl (Exp.rows e.kids)),.c (.sl (Exp.armRows e.arms)),.c (.int .i64 e.ty.kind),.c (.str e.ty.name),.c (.int .i64 e.ty.id),.c (.int .i64 e.ty.home),.c (.sl (Ty.rows e.ty.args))]:=by rw[Exp.row_eq];rfl
 have hvw:∀i,((wr (Exp.rows e.kids)).drop i).take (e.kids.length-i)=wr (Exp.rows (e.kids.drop i)):=fun i=>by
  rw[P3 _ _ _ (by simp),Exp.rows_map,Exp.rows_map,List.map_drop]
 have hbin:BM x free e=if e.name=x\/¬hitP x free e.name (e.kids.drop (AB e)) then e else .mk e.kind e.pos (Av 0 (allP e++free++[x])) e.num (Fk x free e) e.arms e.ty:=by
  unfold BM;by_cases h1:e.name=x
  .rw[if_pos (.inl h1),if_pos (.inl h1)]
  .by_cases h2:hitP x free e.name (e.kids.drop (AB e))
   .rw [if_neg (fun q=>q.elim h1 fun q=>q.elim (fun q=>by omega) fun q=>q h2),if_neg (fun q=>q.elim h1 fun q=>q h2)]
    rfl
   .rw[if_pos (.inr (.inr h2)),if_pos (.inr h2)]
 have hsc:(AB e:Int)=if e.kind=6 then 1 else 0:=by unfold AB;split<;>rfl
 have hge:¬(e.kids.length:Int)<=AB e:=by omega
 have hKl:(Fk x free e).length=e.kids.length:=by simp[Fk]
 have hKg:∀(i:Nat) y,e.kids[i]?=some y->(Fk x free e)[i]?=some (if i<AB e then y else repl e.name (Av 0 (allP e++free++[x])) y):=fun i y h=>by simp[Fk,h]
 have hK0:(Fk x free e).take (AB e)++e.kids.drop (AB e)=e.kids:=by
  refine qE fun i=>?_;by_cases hi:i<AB e
  .obtain ⟨y,hy⟩:=Ag (l:=e.kids) (i:=i) (by omega)
   rw[qK (by rw[qY];omega),qX,if_pos hi,hKg i y hy,if_pos hi,hy]
  .rw[qH (by rw[qY];omega),qY,qac,show AB e+(i-min (AB e) (Fk x free e).length)=i by omega]
 have hrowR:∀to ks,wc (Exp.mk e.kind e.pos to e.num ks e.arms e.ty).row=[.c (.int .i64 e.kind),.c (.int .i64 e.pos),.c (.str to),.c (.int .i64 e.num),.c (.sl (Exp.rows ks)),.c (.sl (Exp.armRows e.arms)),.c (.int .i64 e.ty.kind),.c (.str e.ty.name),.c (.int .i64 e.ty.id),.c (.int .i64 e.ty.home),.c (.sl (Ty.rows e.ty.args))]:=fun to ks=>by rw[Exp.row_eq];rfl
 rw[hbin];clear hbin;have hv0:=hvw 0;have hv1:=hvw 1;simp only[Nat.sub_zero,List.drop_zero]at hv0;generalize hS:AB e=sc at *
 unfold v222;refine Nr ⟨[(2,.sc (.ptr 64 0)),(3,.sc (.ptr 128 0)),(4,.sc (.ptr 192 0))],[(64,some (.box (Bf x b free))),(128,some (.box (wc e.row))),(192,some BL)]⟩ (by simp) ?_
 refine Nr ⟨[(2,.sc (.ptr 64 0)),(3,.sc (.ptr 128 0)),(4,.sc (.ptr 192 0)),(5,.sc (.arr 416 e.kids.length))],[(64,some (.box (Bf x b free))),(128,some (.box (wc e.row))),(192,some BL),(416,some (.arr 11 (wr (Exp.rows e.kids)) 0))]⟩ (by simp(disch:=try exact zd) [hc]) ?_
 refine Nr ⟨[(2,.sc (.ptr 64 0)),(3,.sc (.ptr 128 0)),(4,.sc (.ptr 192 0)),(5,.sc (.arr 416 e.kids.length)),(6,intV 0)],[(64,some (.box (Bf x b free))),(128,some (.box (wc e.row))),(192,some BL),(416,some (.arr 11 (wr (Exp.rows e.kids)) 0))]⟩ (by simp) ?_;by_cases h1:e.name=x
 .rw [if_pos (.inl h1)]
  subst h1;by_cases h6:e.kind=6
  .simp(disch:=try exact zd) [h6,hrow0]
  .simp(disch:=try exact zd) [h6,hrow0]
 .by_cases h2:hitP x free e.name (e.kids.drop sc)
  .rw [if_neg (fun q=>q.elim h1 fun q=>q h2)]
   refine UD ⟨[(2,.sc (.ptr 64 0)),(3,.sc (.ptr 128 0)),(4,.sc (.ptr 192 0)),(5,.sc (.arr 416 e.kids.length)),(6,intV (sc:Int)),(35,Aa false)],[(64,some (.box (Bf x b free))),(128,some (.box (wc e.row))),(192,some BL),(416,some (.arr 11 (wr (Exp.rows e.kids)) 0))]⟩ (by
    by_cases h6:e.kind=6
    .rw [if_pos h6] at hsc
     have hsc1:sc=1:=(by omega);subst hsc1;have hg1:¬(e.kids.length:Int)<=1:=(by omega);have hsl:∀L:Nat->Option Obj,Bj L 11 (.sc (.arr 416 e.kids.length)) (some (.sc (.c (.int .i64 1)))) none none=arrK (L 416) fun s' rows _=>bif rows.length==e.kids.length&&s'==11 then some (.sc (.vw 416 e.kids.length 1 (e.kids.length-1)),[]) else none:=fun L=>slice_arr_from (i:=1) (by omega)
     have hle1:1+(e.kids.length-1)=e.kids.length:=(by omega);simp(disch:=try exact zd) [h1,h2,h6,hg1,hsl,hle1,hkne,hhit,hv1,-List.drop_one]
    .rw [if_neg h6] at hsc
     have hsc0:sc=0:=(by omega);subst hsc0;rw[List.drop_zero]at hhit h2;have hsl:∀L:Nat->Option Obj,Bj L 11 (.sc (.arr 416 e.kids.length)) (some (.sc (.c (.int .i64 0)))) none none=arrK (L 416) fun s' rows _=>bif rows.length==e.kids.length&&s'==11 then some (.sc (.vw 416 e.kids.length 0 (e.kids.length-0)),[]) else none:=fun L=>slice_arr_from (i:=0) (by omega)
     simp(maxSteps:=9^7) (disch:=try exact zd) [h1,h2,h6,hsl,hkne,hhit,hv0,-getElem?_pos]) ?_
   generalize allP e=ap at *
   generalize Av 0 (ap++free++[x])=to at *
   generalize Fk x free e=kr at *
   rw[qW]at hfr;simp(maxSteps:=9^7) (disch:=try exact zd) [hall,hfr,qaP,-getElem?_pos]
   refine Aq (fun j=>⟨[(3,.sc (.ptr 128 0)),(4,.sc (.ptr 192 0)),(5,.sc (.arr 416 e.kids.length)),(7,strV to),(8,intV ((sc+j:Nat):Int))],[(128,some (.box (wc e.row))),(192,some BL),(416,some (.arr 11 (wr (Exp.rows (kr.take (sc+j)++e.kids.drop (sc+j)))) 0)),(2400,some (.arr 1 (wr (Ao (ap++(free++[x])))) 0))]⟩) (e.kids.length-sc) ?_ ?_ ?_
   .simp[hK0]
   .intro j hj
    obtain⟨y,hy⟩:=Ag (l:=e.kids) (i:=sc+j) (by omega);have hyw:=hkw y (qd hy);have hz:=hKg (sc+j) y hy;rw[if_neg (by omega)]at hz;have hg:=EP (i:=sc+j) hKl (by omega);rw[hy]at hg;have hst:=EJ hKl hz;have hln:=EN (i:=sc+j) hKl;have hrep:=Qt (A:=A) e.name to y hyw.1 (by omega);rw[show sc+(j+1)=sc+j+1 from rfl,<-hst];generalize kr.take (sc+j)++e.kids.drop (sc+j)=zr at *
    have hset:=Fu zr (sc+j) (repl e.name to y);have hlt:((sc+j:Nat):Int)<e.kids.length:=(by omega);have hltn:sc+j<e.kids.length:=(by omega);have hcast:((sc+j+1:Nat):Int)=((sc+j:Nat):Int)+1:=(by omega);rw[hcast];generalize sc+j=q at *
    unfold Ml;simp(maxSteps:=9^7) (disch:=try exact zd) [hlt,hltn,hg,hln,hrep,hset,BY,-getElem?_pos]
   .have htk:kr.take (sc+(e.kids.length-sc))++e.kids.drop (sc+(e.kids.length-sc))=kr:=by
     rw[show sc+(e.kids.length-sc)=e.kids.length by omega,qag (by omega),qJ,qn (by omega)]
    have hlt:¬((sc+(e.kids.length-sc):Nat):Int)<e.kids.length:=(by omega);rw[htk];generalize sc+(e.kids.length-sc)=q at *
    unfold Ml;simp(disch:=try exact zd) [hlt,hrow0,hrowR,hKl,BY]
  .rw [if_pos (.inr h2)]
   by_cases h6:e.kind=6
   .rw [if_pos h6] at hsc
    have hsc1:sc=1:=(by omega);subst hsc1;have hg1:¬(e.kids.length:Int)<=1:=(by omega);have hsl:∀L:Nat->Option Obj,Bj L 11 (.sc (.arr 416 e.kids.length)) (some (.sc (.c (.int .i64 1)))) none none=arrK (L 416) fun s' rows _=>bif rows.length==e.kids.length&&s'==11 then some (.sc (.vw 416 e.kids.length 1 (e.kids.length-1)),[]) else none:=fun L=>slice_arr_from (i:=1) (by omega)
    have hle1:1+(e.kids.length-1)=e.kids.length:=(by omega);simp(disch:=try exact zd) [h1,h2,h6,hg1,hsl,hle1,hkne,hhit,hv1,-List.drop_one,hrow0]
   .rw [if_neg h6] at hsc
    have hsc0:sc=0:=(by omega);subst hsc0;rw[List.drop_zero]at hhit h2;have hsl:∀L:Nat->Option Obj,Bj L 11 (.sc (.arr 416 e.kids.length)) (some (.sc (.c (.int .i64 0)))) none none=arrK (L 416) fun s' rows _=>bif rows.length==e.kids.length&&s'==11 then some (.sc (.vw 416 e.kids.length 0 (e.kids.length-0)),[]) else none:=fun L=>slice_arr_from (i:=0) (by omega)
    simp(disch:=try exact zd) [h1,h2,h6,hsl,hkne,hhit,hv0,hrow0]
variable {A:Ab}
theorem KL {x:Str}{free vars:List Str}{b:Exp}(hn:inj vars)(hx:x∉vars)(hs:shp b)(hp:properP b)(hl:b.weight+vars.length+free.length<=300000000000)(hb:nmL b)(hv:∀s∈vars,s.length<=1000):
 ∀k,k<=vars.length->nmL (Bi x free vars b k).2/\∀s∈(Bi x free vars b k).1,s.length<=1000
 |0,_=>⟨hb,hv⟩
 |k+1,hk=>by
  obtain⟨h1,h2⟩:=KL (free:=free) hn hx hs hp hl hb hv k (by omega);have ho:=Hw (free:=free) hn hx hs hp k (by omega);rw[EI];generalize Bi x free vars b k=p at *
  obtain⟨vs,bk⟩:=p;simp only at *
  unfold CL;simp only;cases hv2:vs[k]? with
  |none=>exact⟨h1,h2⟩
  |some v=>
   simp only;split
   .exact⟨h1,h2⟩
   .have hal:=Fv bk ho.shape.wf
    have hf:=Ha 0 (allP bk++vs++free++[x]) (by have:=ho.weight;have:=ho.len;simp;omega);refine⟨N7 h1 hf,fun s hs=>?_⟩;rcases L5 hs with hs|hs
    .exact h2 s hs
    .exact hs▸hf
theorem YG (x:Str)(b:Exp)(free:List Str)(a:ArmH×Exp)(hi:inj a.1.vars)(hs:shp a.2)(hp:properP a.2)(hl:a.2.weight+a.1.vars.length+free.length<=300000000000)(hn:nmL a.2)(hv:∀s∈a.1.vars,s.length<=1000)(hnf:∀s∈free,s.length<=1000)(hxl:x.length<=1000):
 (K A).call 224 [.ag (Bf x b free),armV a] []=some (armV (armP x free a),[]):=by
 refine fnO v224 ?_;have hc0:=ES (A:=A) a.1.vars x (by omega);unfold armP;unfold v224;by_cases hx:x∈a.1.vars
 .rw [if_pos hx]
  have hrow:wc (AM a)=[.c (.int .i64 a.1.pos),.c (.str a.1.con),.c (.sl (Ao a.1.vars)),.c (.int .i64 a.2.kind),.c (.int .i64 a.2.pos),.c (.str a.2.name),.c (.int .i64 a.2.num),.c (.sl (Exp.rows a.2.kids)),.c (.sl (Exp.armRows a.2.arms)),.c (.int .i64 a.2.ty.kind),.c (.str a.2.ty.name),.c (.int .i64 a.2.ty.id),.c (.int .i64 a.2.ty.home),.c (.sl (Ty.rows a.2.ty.args))]:=by rw[AM,Exp.row_eq];rfl
  simp(maxSteps:=9^7) (disch:=try exact zd) [hc0,hx,hrow,-getElem?_pos]
 .rw [if_neg hx]
  have hok:=Hw (free:=free) hi hx hs hp;have hnm:=KL (free:=free) hi hx hs hp hl hn hv;have hst:=EI x free a.1.vars a.2;have h0:Bi x free a.1.vars a.2 0=(a.1.vars,a.2):=rfl;have hcl:=VS (A:=A) a.1.vars (by omega);obtain⟨⟨ap,ac,vars⟩,ab⟩:=a;simp only at *
  have hsp0:splice (wc (AM ((⟨ap,ac,vars⟩:ArmH),ab))) 2 [W.arr 864 vars.length]=some (W.c (.int .i64 ap)::W.c (.str ac)::W.arr 864 vars.length::wc ab.row):=by
   rw[AM,Exp.row_eq ab];rfl
  have hcu2:∀y:Exp,cut (W.c (.int .i64 ap)::W.c (.str ac)::W.arr 864 vars.length::wc y.row) 2 1=some [W.arr 864 vars.length]:=by
   intro y;rw[Exp.row_eq y];rfl
  have hcu3:∀y:Exp,cut (W.c (.int .i64 ap)::W.c (.str ac)::W.arr 864 vars.length::wc y.row) 3 11=some (wc y.row):=by
   intro y;rw[Exp.row_eq y];rfl
  have hsp3:∀y z:Exp,splice (W.c (.int .i64 ap)::W.c (.str ac)::W.arr 864 vars.length::wc y.row) 3 (wc z.row)=some (W.c (.int .i64 ap)::W.c (.str ac)::W.arr 864 vars.length::wc z.row):=by
   intro y z;rw[Exp.row_eq y,Exp.row_eq z];rfl
  simp(maxSteps:=9^7) (disch:=try exact zd) [hc0,hx,hcl,hsp0,hcu2,-getElem?_pos];refine Aq (fun k=>⟨[(2,.sc (.ptr 64 0)),(3,.sc (.ptr 128 0)),(4,.sc (.ptr 192 0)),(19,.sc (.arr 864 vars.length)),(20,intV vars.length),(21,intV k)],
   [(64,some (.box (Bf x b free))),(128,some (.box (W.c (.int .i64 ap)::W.c (.str ac)::W.arr 864 vars.length::wc (Bi x free vars ab k).2.row))),(192,some (.box [zi,zs,.nil,zi,zi,zs,zi,.nil,.nil,zi,zs,zi,zi,.nil])),(864,some (.arr 1 (wr (Ao (Bi x free vars ab k).1)) 0))]⟩) vars.length ?_ ?_ ?_
  .simp[h0]
  .intro k hk
   have ho:=hok k (by omega);obtain⟨hn1,hn2⟩:=hnm k (by omega);rw[hst k];generalize Bi x free vars ab k=p at *
   obtain⟨vs,bk⟩:=p;simp only at *
   have hvl:=ho.len;have hw:=ho.weight;obtain⟨v,hvk⟩:=Ag (l:=vs) (i:=k) (by omega);have hct:=ES (A:=A) (vs.drop (k+1)) v (by rw[qaa];omega);have hhit:=T1 (A:=A) x b free v [bk] (by omega) (by simp) (fun y hy=>by rw[qy.1 hy];exact⟨ho.shape.wf,by omega⟩);have hex:Exp.rows [bk]=[bk.row]:=(by rw[Exp.rows,Exp.rows]);simp only[exsV,hex]at hhit;have hall:=SL (A:=A) bk ho.shape.wf (by omega)
   have hal:=Fv bk ho.shape.wf;have hfr:=Rz (A:=A) (allP bk++vs++free++[x]) (by simp;omega) (fun s h=>by
    simp only[qz,qy]at h;rcases h with ((h|h)|h)|h
    .exact hn1 s h
    .exact hn2 s h
    .exact hnf s h
    .exact h▸hxl)
   have hkI:(k:Int)<vars.length:=(by omega);have hsl:∀L:Nat->Option Obj,Bj L 1 (.sc (.arr 864 vars.length)) (some (.sc (.c (.int .i64 ((k:Int)+1))))) none none=arrK (L 864) fun s' rows _=>bif rows.length==vars.length&&s'==1 then some (.sc (.vw 864 vars.length (k+1) (vars.length-(k+1))),[]) else none:=fun L=>slice_arr_from (i:=k+1) (by omega)
   have hvw:((wr (Ao vs)).drop (k+1)).take (vars.length-(k+1))=wr (Ao (vs.drop (k+1))):=by
    rw[P3 _ _ _ (by simp;omega)];simp[Ao]
   have hkle:k+1+(vars.length-(k+1))=vars.length:=(by omega);unfold CL;simp only[hvk];have wbk:∀L d,Ad (W.toC L d) (wc bk.row)=some bk.row:=fun L d=>by simp
   unfold K9;by_cases hd:v∈vs.drop (k+1)
   .rw [if_pos (.inl hd)]
    simp(maxSteps:=9^7) (disch:=try exact zd) [hkI,hvk,hvl,hcu2,hsl,hvw,hkle,hct,hd,-getElem?_pos]
   .by_cases hh:hitP x free v [bk]
    .rw [if_neg (fun q=>q.elim hd fun q=>q hh)]
     have hrep:=fun to=>Qt (A:=A) v to bk ho.shape.wf (by omega);generalize allP bk=al at *
     generalize Av 0 (al++vs++free++[x])=to at *
     simp only[qW]at hfr;have hset:=Zav vs k to;simp(maxSteps:=9^7) (disch:=try exact zd) [hk,hkI,hvk,hvl,hcu2,hcu3,hsp3,hsl,hvw,hkle,hct,hd,hhit,hh,hall,hfr,hrep,hset,qaP,-getElem?_pos]
    .rw [if_pos (.inr hh)]
     simp(maxSteps:=9^7) (disch:=try exact zd) [hkI,hvk,hvl,hcu2,hcu3,hsl,hvw,hkle,hct,hd,hhit,hh,-getElem?_pos]
  .have ho:=hok vars.length (qg _)
   generalize Bi x free vars ab vars.length=p at *
   obtain⟨vs,bk⟩:=p;simp only at *
   have hvl:=ho.len
   have hrow:wc (AM ((⟨ap,ac,vs⟩:ArmH),bk))=[.c (.int .i64 ap),.c (.str ac),.c (.sl (Ao vs)),.c (.int .i64 bk.kind),.c (.int .i64 bk.pos),.c (.str bk.name),.c (.int .i64 bk.num),.c (.sl (Exp.rows bk.kids)),.c (.sl (Exp.armRows bk.arms)),.c (.int .i64 bk.ty.kind),.c (.str bk.ty.name),.c (.int .i64 bk.ty.id),.c (.int .i64 bk.ty.home),.c (.sl (Ty.rows bk.ty.args))]:=(by rw[AM,Exp.row_eq];rfl)
   have hrowb:wc bk.row=[.c (.int .i64 bk.kind),.c (.int .i64 bk.pos),.c (.str bk.name),.c (.int .i64 bk.num),.c (.sl (Exp.rows bk.kids)),.c (.sl (Exp.armRows bk.arms)),.c (.int .i64 bk.ty.kind),.c (.str bk.ty.name),.c (.int .i64 bk.ty.id),.c (.int .i64 bk.ty.home),.c (.sl (Ty.rows bk.ty.args))]:=(by rw[Exp.row_eq];rfl);unfold K9;simp(maxSteps:=9^7) (disch:=try exact zd) [hrow,hrowb,hvl,-getElem?_pos]
variable {A:Ab}
theorem XX {x:Str}{b e e':Exp}(h:PrepOk x b e e'):e'.weight=e.weight:=by
 rw[e'.weight_eq,e.weight_eq,h.sum];congr 2;refine qE fun i=>?_;rw[qq,qq];by_cases hi:i<e.children.length
 .obtain ⟨x0,h0⟩:=Ag hi
  obtain⟨x1,h1⟩:=Ag (l:=e'.children) (i:=i) (by rw[El h];exact hi);rw[h0,h1];simp only[qp,(h.kids i x0 x1 h0 h1).weight]
 .have h1:e'.children[i]?=none:=qaj (by rw [El h];omega)
  have h2:e.children[i]?=none:=qaj (by omega);rw[h1,h2]
theorem Wj {x:Str}{b e:Exp}(hs:shp e)(hp:properP e)(hn:nmL e)(hl:e.weight<=100000000000/\(Ac b).length<=100000000000):∀y∈(AT x (Ac b) e).children,nmL y:=by
 intro y hy;obtain⟨i,hi⟩:=qj.1 hy;have hal:=Fv e hs.wf;unfold AT at hi;by_cases h:e.kind=4\/e.kind=6\/e.kind=7
 .rw [if_pos h] at hi
  obtain⟨ha,hc⟩:=EH (by omega) hs.one;unfold BM at hi;split at hi
  .exact hn.child hi
  .have hc':∀ to ks,(Exp.mk e.kind e.pos to e.num ks e.arms e.ty).children=ks:=fun to ks=>by rw [BK,ha];simp
   rw[hc']at hi;have hlt:=(qf.1 hi).1;simp only[qba,List.length_zipIdx]at hlt;obtain⟨z,hz⟩:=Ag hlt;simp only[qq,qaz,hz,qp,qaw,qc]at hi;subst hi;have hnz:nmL z:=hn.child (i:=i) (by rw[hc];exact hz);split
   .exact hnz
   .exact N7 hnz (Ha _ _ (by simp;omega))
 .rw [if_neg h] at hi
  by_cases h8:e.kind=8
  .rw [if_pos h8,BK] at hi
   rcases qbf i e.kids.length with hk|hk
   .rw [qK hk] at hi
    exact hn.child (i:=i) (PV hi)
   .rw [qH hk,qq] at hi
    obtain⟨q,hq,rfl⟩:=qo.1 hi;rw[qq]at hq;obtain⟨p,hp',rfl⟩:=qo.1 hq;have hm:=qd hp';have hnp:nmL p.2:=hn.child (D3 hp');have hvl:=Exp.vars_le hm;have hwl:=Exp.child_lt (BB hm);unfold armP;split
    .exact hnp
    .rename_i hx
     refine(KL (free:=Ac b) (hp.one p hm) hx (hs.child (BB hm)) (hp.child (BB hm)) (by omega) hnp (fun s hs'=>?_) p.1.vars.length (qg _)).1;refine hn s (A3.2 (.inr ⟨e.kids.length+(i-e.kids.length),p.2,D3 hp',.inl ?_⟩));have hk1:=hs.one.1.1 h8;rw[Bk,if_neg (by omega),if_pos ⟨h8,by omega⟩,hk1,show 1+(i-1)-1=i-1 by omega,<-hk1,hp'];exact hs'
  .rw [if_neg h8] at hi
   exact hn.child hi
theorem UO {l:List (ArmH×Exp)}(h:l≠[]):∃c rows,Exp.armRows l=c::rows:=by
 cases l with
 |nil=>exact absurd rfl h
 |cons e r=>obtain⟨a,b⟩:=e;exact⟨_,Exp.armRows r,by rw[Exp.armRows]⟩
theorem ZcH (l:List (ArmH×Exp))(hl:l.length<=549755813888):(K A).call 223 [Rc l] []=some (.sc (.arr 0 l.length),[.arr 14 (wr (Exp.armRows l)) 0]):=by
 by_cases h:l=[]
 .subst h
  have hr:Exp.armRows []=[]:=by rw[Exp.armRows]
  rw[hr];exact RX (by kernel_rfl) (by kernel_rfl) (by kernel_rfl) (by kernel_rfl)
 .obtain ⟨c,rows,hr⟩:=UO h
  have hlen:rows.length+1=l.length:=by
   have:=Exp.armRows_len l;rw[hr]at this;simpa using this
  have hok:AP 14 (wr (c::rows))=true:=hr▸okRows_arm l;have hp:Rc l=V.sc (.c (.sl (c::rows))):=by rw[<-hr]
  rw[hr,hp,NS (by kernel_rfl) (by kernel_rfl)];refine Me (vf:=v223) (by kernel_rfl) rfl (by decide) ?_;unfold v223;rw[wr_cons]at hok;simp(disch:=try exact zd) [hok];omega
theorem DR (e:Exp):wc e.row=[.c (.int .i64 e.kind),.c (.int .i64 e.pos),.c (.str e.name),.c (.int .i64 e.num),.c (.sl (Exp.rows e.kids)),.c (.sl (Exp.armRows e.arms)),.c (.int .i64 e.ty.kind),.c (.str e.ty.name),.c (.int .i64 e.ty.id),.c (.int .i64 e.ty.home),.c (.sl (Ty.rows e.ty.args))]:=by rw[Exp.row_eq];rfl
theorem JX (x:Str)(b:Exp)(free:List Str)(n:Nat)(e:Exp)(hw:e.wf1)(hl:e.weight<=200000000000)(hrec:∀y∈e.children,(K A).call 202 [.ag (Bf x b free),expV y] []=some (expV (subN n y x b),[])):
 wp (K A) (.loop Fn) (fun ex s=>ex=.exit 3/\s=⟨[(2,.sc (.ptr 64 0)),(3,.sc (.ptr 128 0)),(4,.sc (.ptr 192 0)),(7,.sc (.arr 3680 (e.kids.length+e.arms.length))),(53,.sc (.arr 3680 (e.kids.length+e.arms.length))),(54,intV ((e.kids.length:Int)+e.arms.length)),(55,intV ((e.kids.length:Int)+e.arms.length)),(56,Aa false)],
     [(64,some (.box (Bf x b free))),(128,some (.box [.c (.int .i64 e.kind),.c (.int .i64 e.pos),.c (.str e.name),.c (.int .i64 e.num),.c (.sl (Exp.rows e.kids)),.c (.sl (Exp.armRows e.arms)),.c (.int .i64 e.ty.kind),.c (.str e.ty.name),.c (.int .i64 e.ty.id),.c (.int .i64 e.ty.home),.c (.sl (Ty.rows e.ty.args))])),(192,some BL),(3680,some (.arr 11 (wr (Exp.rows (subC n e x b))) 0))]⟩)
  ⟨[(2,.sc (.ptr 64 0)),(3,.sc (.ptr 128 0)),(4,.sc (.ptr 192 0)),(7,.sc (.arr 3680 (e.kids.length+e.arms.length))),(53,.sc (.arr 3680 (e.kids.length+e.arms.length))),(54,intV ((e.kids.length:Int)+e.arms.length)),(55,intV 0)],
    [(64,some (.box (Bf x b free))),(128,some (.box [.c (.int .i64 e.kind),.c (.int .i64 e.pos),.c (.str e.name),.c (.int .i64 e.num),.c (.sl (Exp.rows e.kids)),.c (.sl (Exp.armRows e.arms)),.c (.int .i64 e.ty.kind),.c (.str e.ty.name),.c (.int .i64 e.ty.id),.c (.int .i64 e.ty.home),.c (.sl (Ty.rows e.ty.args))])),(192,some BL),(3680,some (.arr 11 (wr (Exp.rows e.children)) 0))]⟩:=by
 have hle:=e.children_le;rw[e.children_len]at hle;have hCl:=subC_len n e x b;have hC2:(subC n e x b).length=e.children.length:=by rw[hCl,e.children_len]
 have hcg:=fun {i:Nat} {y:Exp} (h:e.children[i]?=some y)=>Ej (n:=n) (x:=x) (b:=b) h;generalize subC n e x b=cc at *
 refine Aq (fun i=>⟨[(2,.sc (.ptr 64 0)),(3,.sc (.ptr 128 0)),(4,.sc (.ptr 192 0)),(7,.sc (.arr 3680 (e.kids.length+e.arms.length))),(53,.sc (.arr 3680 (e.kids.length+e.arms.length))),(54,intV ((e.kids.length:Int)+e.arms.length)),(55,intV i)],
  [(64,some (.box (Bf x b free))),(128,some (.box [.c (.int .i64 e.kind),.c (.int .i64 e.pos),.c (.str e.name),.c (.int .i64 e.num),.c (.sl (Exp.rows e.kids)),.c (.sl (Exp.armRows e.arms)),.c (.int .i64 e.ty.kind),.c (.str e.ty.name),.c (.int .i64 e.ty.id),.c (.int .i64 e.ty.home),.c (.sl (Ty.rows e.ty.args))])),(192,some BL),(3680,some (.arr 11 (wr (Exp.rows (cc.take i++e.children.drop i))) 0))]⟩) (e.kids.length+e.arms.length) ?_ ?_ ?_
 .simp
 .intro i hi
  have hi1:i<e.children.length:=by rw[e.children_len];exact hi
  obtain⟨y,hy⟩:=Ag hi1;have hm:=qd hy;have hr:=hrec y hm;have hb:=HI (A:=A) e i hw hi1 (by omega);simp only[expV,DR e]at hb;have hbl:=qr (e.bound_le i) hl;have hco:=ES (A:=A) (e.bound i) x (by omega);have hcx:=hcg hy;have hg:=EP (i:=i) hC2 hi1;rw[hy]at hg;have hst:=EJ hC2 hcx;have hln:=EN (i:=i) hC2;rw[e.children_len]at hln;have hi2:(i:Int)<(e.kids.length:Int)+e.arms.length:=by omega
  have hset:=fun z=>Fu (cc.take i++e.children.drop i) i z;rw[<-hst];generalize cc.take i++e.children.drop i=zr at *
  unfold Fn;by_cases hf:x∈e.bound i
  .have hsame:zr.set i y=zr:=by
    refine qE fun m=>?_;rw[qaJ];split
    .rename_i h
     subst h;rw[hg];split
     .rfl
     .omega
    .rfl
   rw[if_pos hf,hsame];simp(maxSteps:=9^7) (disch:=try exact zd) [hi,hi2,hg,hln,hb,hco,hf,BY,-getElem?_pos]
  .rw [if_neg hf]
   simp(maxSteps:=9^7) (disch:=try exact zd) [hi,hi2,hg,hln,hb,hco,hf,hr,hset,BY,-getElem?_pos]
 .have htk:cc.take (e.kids.length+e.arms.length)++e.children.drop (e.kids.length+e.arms.length)=cc:=by
   rw[qag (by rw[e.children_len];omega),qJ,qn (by omega)]
  rw[htk];unfold Fn;simp(maxSteps:=9^7) (disch:=try exact zd) [-getElem?_pos]
theorem XB (x:Str)(b:Exp)(free:List Str)(n:Nat)(e:Exp)(hw:e.wf1)(hl:e.weight<=200000000000)(hrec:∀y∈e.children,(K A).call 202 [.ag (Bf x b free),expV y] []=some (expV (subN n y x b),[])):
 wp (K A) (.loop Fn) (fun ex s=>ex=.exit 3/\s=⟨[(2,.sc (.ptr 64 0)),(3,.sc (.ptr 128 0)),(4,.sc (.ptr 192 0)),(7,.sc (.arr 3680 (e.kids.length+e.arms.length))),(53,.sc (.arr 3680 (e.kids.length+e.arms.length))),(54,intV ((e.kids.length:Int)+e.arms.length)),(55,intV ((e.kids.length:Int)+e.arms.length)),(56,Aa false)],
     [(64,some (.box (Bf x b free))),(128,some (.box [.c (.int .i64 e.kind),.c (.int .i64 e.pos),.c (.str e.name),.c (.int .i64 e.num),.c (.sl (Exp.rows e.kids)),.arr 2080 e.arms.length,.c (.int .i64 e.ty.kind),.c (.str e.ty.name),.c (.int .i64 e.ty.id),.c (.int .i64 e.ty.home),.c (.sl (Ty.rows e.ty.args))])),(192,some BL),(2080,some (.arr 14 (wr (Exp.armRows e.arms)) e.arms.length)),(3680,some (.arr 11 (wr (Exp.rows (subC n e x b))) 0))]⟩)
  ⟨[(2,.sc (.ptr 64 0)),(3,.sc (.ptr 128 0)),(4,.sc (.ptr 192 0)),(7,.sc (.arr 3680 (e.kids.length+e.arms.length))),(53,.sc (.arr 3680 (e.kids.length+e.arms.length))),(54,intV ((e.kids.length:Int)+e.arms.length)),(55,intV 0)],
    [(64,some (.box (Bf x b free))),(128,some (.box [.c (.int .i64 e.kind),.c (.int .i64 e.pos),.c (.str e.name),.c (.int .i64 e.num),.c (.sl (Exp.rows e.kids)),.arr 2080 e.arms.length,.c (.int .i64 e.ty.kind),.c (.str e.ty.name),.c (.int .i64 e.ty.id),.c (.int .i64 e.ty.home),.c (.sl (Ty.rows e.ty.args))])),(192,some BL),(2080,some (.arr 14 (wr (Exp.armRows e.arms)) e.arms.length)),(3680,some (.arr 11 (wr (Exp.rows e.children)) 0))]⟩:=by
 have hle:=e.children_le;rw[e.children_len]at hle;have hCl:=subC_len n e x b;have hC2:(subC n e x b).length=e.children.length:=by rw[hCl,e.children_len]
 have hcg:=fun {i:Nat} {y:Exp} (h:e.children[i]?=some y)=>Ej (n:=n) (x:=x) (b:=b) h;generalize subC n e x b=cc at *
 refine Aq (fun i=>⟨[(2,.sc (.ptr 64 0)),(3,.sc (.ptr 128 0)),(4,.sc (.ptr 192 0)),(7,.sc (.arr 3680 (e.kids.length+e.arms.length))),(53,.sc (.arr 3680 (e.kids.length+e.arms.length))),(54,intV ((e.kids.length:Int)+e.arms.length)),(55,intV i)],
  [(64,some (.box (Bf x b free))),(128,some (.box [.c (.int .i64 e.kind),.c (.int .i64 e.pos),.c (.str e.name),.c (.int .i64 e.num),.c (.sl (Exp.rows e.kids)),.arr 2080 e.arms.length,.c (.int .i64 e.ty.kind),.c (.str e.ty.name),.c (.int .i64 e.ty.id),.c (.int .i64 e.ty.home),.c (.sl (Ty.rows e.ty.args))])),(192,some BL),(2080,some (.arr 14 (wr (Exp.armRows e.arms)) e.arms.length)),(3680,some (.arr 11 (wr (Exp.rows (cc.take i++e.children.drop i))) 0))]⟩) (e.kids.length+e.arms.length) ?_ ?_ ?_
 .simp
 .intro i hi
  have hi1:i<e.children.length:=by rw[e.children_len];exact hi
  obtain⟨y,hy⟩:=Ag hi1;have hm:=qd hy;have hr:=hrec y hm;have hb:=HI (A:=A) e i hw hi1 (by omega);simp only[expV,DR e]at hb;have hbl:=qr (e.bound_le i) hl;have hco:=ES (A:=A) (e.bound i) x (by omega);have hcx:=hcg hy;have hg:=EP (i:=i) hC2 hi1;rw[hy]at hg;have hst:=EJ hC2 hcx;have hln:=EN (i:=i) hC2;rw[e.children_len]at hln;have hi2:(i:Int)<(e.kids.length:Int)+e.arms.length:=by omega
  have hset:=fun z=>Fu (cc.take i++e.children.drop i) i z;rw[<-hst];generalize cc.take i++e.children.drop i=zr at *
  unfold Fn;by_cases hf:x∈e.bound i
  .have hsame:zr.set i y=zr:=by
    refine qE fun m=>?_;rw[qaJ];split
    .rename_i h
     subst h;rw[hg];split
     .rfl
     .omega
    .rfl
   rw[if_pos hf,hsame];simp(maxSteps:=9^7) (disch:=try exact zd) [hi,hi2,hg,hln,hb,hco,hf,BY,-getElem?_pos]
  .rw [if_neg hf]
   simp(maxSteps:=9^7) (disch:=try exact zd) [hi,hi2,hg,hln,hb,hco,hf,hr,hset,BY,-getElem?_pos]
 .have htk:cc.take (e.kids.length+e.arms.length)++e.children.drop (e.kids.length+e.arms.length)=cc:=by
   rw[qag (by rw[e.children_len];omega),qJ,qn (by omega)]
  rw[htk];unfold Fn;simp(maxSteps:=9^7) (disch:=try exact zd) [-getElem?_pos]
end Go.Vs.Tryz
