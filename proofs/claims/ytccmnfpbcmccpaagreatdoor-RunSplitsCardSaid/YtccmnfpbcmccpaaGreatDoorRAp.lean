/- Substitution as the program does it (plain): what comes of it is an instance. -/
import Derived.Test.YtccmnfpbcmccpaaGreatDoorR9p
set_option linter.unusedSimpArgs false
set_option linter.unusedVariables false
set_option linter.deprecated false
set_option maxHeartbeats 16000000
set_option maxRecDepth 10000
namespace Go.Vs.Tryz
open Go Go.Vs
def hitP (x:Str)(free:List Str)(n:Str)(inside:List Exp):Prop:=n∈free/\∃e∈inside,x∈Ag e
instance (x:Str) (free:List Str) (n:Str) (inside:List Exp):Decidable (hitP x free n inside):=inferInstanceAs (Decidable (_/\_))
def AB (e:Exp):Nat:=if e.kind=6 then 1 else 0
def CG (x:Str)(free:List Str)(e:Exp):Exp:=
 if e.name=x\/e.kids.length<=AB e\/¬hitP x free e.name (e.kids.drop (AB e)) then e else
  .mk e.kind e.pos (AI 0 (allP e++free++[x])) e.num (e.kids.zipIdx.map fun p=>if p.2<AB e then p.1 else repl e.name (AI 0 (allP e++free++[x])) p.1) e.arms e.ty
def D3 (x:Str)(free:List Str)(p:List Str×Exp)(i:Nat):List Str×Exp:=match p.1[i]? with
 |none=>p
 |some v=>if v∈p.1.drop (i+1)\/¬hitP x free v [p.2] then p else (p.1.set i (AI 0 (allP p.2++p.1++free++[x])),repl v (AI 0 (allP p.2++p.1++free++[x])) p.2)
def BF (x:Str)(free:List Str)(vs:List Str)(b:Exp)(k:Nat):List Str×Exp:=(List.range k).foldl (D3 x free) (vs,b)
theorem GM (x:Str)(free vs:List Str)(b:Exp)(k:Nat):BF x free vs b (k+1)=D3 x free (BF x free vs b k) k:=by
 grind[BF,List.range_succ]
def armP (x:Str)(free:List Str)(a:ArmH×Exp):ArmH×Exp:=
 if x∈a.1.vars then a else (⟨a.1.pos,a.1.con,(BF x free a.1.vars a.2 a.1.vars.length).1⟩,(BF x free a.1.vars a.2 a.1.vars.length).2)
def Bd (x:Str)(free:List Str)(e:Exp):Exp:=
 if e.kind=4\/e.kind=6\/e.kind=7 then CG x free e else if e.kind=8 then .mk e.kind e.pos e.name e.num e.kids (e.arms.map (armP x free)) e.ty else e
def subN:Nat->Exp->Str->Exp->Exp
 |0,e,_,_=>e
 |n+1,e,x,b=>if e.kind=1 then (if e.name=x then b else e) else
  AN (Bd x (Ag b) e) ((Bd x (Ag b) e).children.zipIdx.map fun p=>if x∈(Bd x (Ag b) e).bound p.2 then p.1 else subN n p.1 x b)
def subC (n:Nat)(e:Exp)(x:Str)(b:Exp):List Exp:=e.children.zipIdx.map fun p=>if x∈e.bound p.2 then p.1 else subN n p.1 x b
@[simp] theorem subC_len (n:Nat) (e:Exp) (x:Str) (b:Exp):(subC n e x b).length=e.kids.length+e.arms.length:=by simp[subC]
theorem Eu {n:Nat}{e y:Exp}{x:Str}{b:Exp}{i:Nat}(h:e.children[i]?=some y):(subC n e x b)[i]?=some (if x∈e.bound i then y else subN n y x b):=by
 simp[subC,h]
theorem Fq (n:Nat)(e:Exp)(x:Str)(b:Exp):subN (n+1) e x b=if e.kind=1 then (if e.name=x then b else e) else AN (Bd x (Ag b) e) (subC n (Bd x (Ag b) e) x b):=rfl
def inj (l:List Str):Prop:=∀(i j:Nat) s,l[i]?=some s->l[j]?=some s->i=j
def properP (e:Exp):Prop:=e.fold fun e l=>(∀a∈e.arms,inj a.1.vars)/\∀p∈l,p
theorem D1 (e:Exp):properP e=((∀a∈e.arms,inj a.1.vars)/\∀x∈e.children,properP x):=by
 have:=Exp.fold_eq (fun e (l:List Prop)=>(∀a∈e.arms,inj a.1.vars)/\∀p∈l,p) e;unfold properP;rw[this];simp only[qU]
theorem properP.one {e:Exp}(h:properP e):∀a∈e.arms,inj a.1.vars:=by grind[D1]
theorem properP.child {e x:Exp}(h:properP e)(hx:x∈e.children):properP x:=by grind[D1]
theorem Lh {e c:Exp}(h:∀i:Nat,(c.arms[i]?).map (·.1)=(e.arms[i]?).map (·.1))(he:∀a∈e.arms,inj a.1.vars):∀a∈c.arms,inj a.1.vars:=by
 grind[qn]
theorem QO (frm to:Str)(e:Exp):e.wf->properP e->properP (repl frm to e):=by
 induction e using Exp.ind with
 |h e ih=>
  intro hw h;by_cases hk:e.kind=1
  .rw [EF hk]
   split
   .rw [D1]
    exact⟨h.one,fun x hx=>h.child hx⟩
   omega
  .rw [Eg hk,D1]
   obtain⟨_,_,h3,h4⟩:=BX (replC_len frm to e);refine⟨Lh h4 h.one,fun c hc=>?_⟩;rw[h3]at hc;obtain⟨i,hi⟩:=qn.1 hc;obtain⟨x,hx⟩:=Ae (l:=e.children) (i:=i) (by have:=(qf.1 hi).1;simp_all);rw[DO hx]at hi;cases hi;have hm:=qc hx;split
   .exact h.child hm
   .exact ih x hm (hw.child hm) (h.child hm)
def subV (x:Str)(b:Exp):Rep:=fun s c=>if s=x then c=b else isVar s c
theorem ER {s:Str}{c:Exp}:idV s c↔isVar s c:=⟨fun⟨_,h,hv⟩=>h▸hv,fun h=>⟨s,rfl,h⟩⟩
theorem id_ok:idV.ok:=fun _ _ h=>(ER.1 h).shp
theorem Zb6 {x0 x1 y b:Exp}{x:Str}{bs cs:List Str}(h0:instR x0 x1 (idV.ext bs cs))(h1:instR x1 y (subV x b))(hx:x∉cs)(hf:x∈Ag x1->∀u∈Ag b,u∉cs):instR x0 y ((subV x b).ext bs cs):=by
 refine(h0.comp _ _ _ _ _ (id_ok.ext bs cs) h1).mono _ _ _ _ fun s hs d hd=>?_;obtain⟨c,hc,_,hcd⟩:=hd;rcases hc with ⟨hb,t,ht,hr,hv⟩|⟨hb,hv,hfc⟩
 .rw [hv.inst] at hcd
  unfold subV at hcd;rw[if_neg (fun h:t=x=>hx (h▸ht))]at hcd;exact .inl ⟨hb,t,ht,hr,hcd⟩
 .rw [ER] at hv
  have hsc:s∉cs:=hfc s (by rw[hv.free];simp);have hsf:s∈Ag x1:=by
   obtain⟨d',hd',hf'⟩:=instR.free_to x0 x1 _ h0 s hs;rcases hd' with ⟨q,_⟩|⟨_,q,_⟩
   grind
   .exact hf' s (by rw[(ER.1 q).free];simp)
  rw[hv.inst]at hcd;refine .inr ⟨hb,hcd,fun u hu=>?_⟩;unfold subV at hcd;split at hcd;grind
  .rw [hcd.free,qk] at hu
   grind
theorem Zdo {x0 b:Exp}{x:Str}{bs:List Str}(hs:shp x0)(hx:x∈bs):instR x0 x0 ((subV x b).ext bs bs):=by
 refine .refl x0 _ hs fun s _ c hc=>?_;by_cases hb:s∈bs
 .exact .inl ⟨hb,s,hb,rfl,hc⟩
 .refine .inr ⟨hb,?_,fun u hu => ?_⟩
  grind[subV]
  .rw [hc.free,qk] at hu
   grind
theorem Ip {x0:Exp}{bs:List Str}(hs:shp x0):instR x0 x0 (idV.ext bs bs):=by
 refine .refl x0 _ hs fun s _ c hc=>?_;by_cases hb:s∈bs
 .exact .inl ⟨hb,s,hb,rfl,hc⟩
 .refine .inr ⟨hb,ER.2 hc,fun u hu => ?_⟩
  rw[hc.free,qk]at hu;grind
structure KidOk (x:Str)(b x0 x1:Exp)(bs cs:List Str):Prop where
 len:bs.length=cs.length
 skip:x∈bs->x1=x0/\cs=bs
 notin:x∉bs->x∉cs
 inst:instR x0 x1 (idV.ext bs cs)
 apart:x∉cs->x∈Ag x1->∀u∈Ag b,u∉cs
 weight:x1.weight=x0.weight
 shape:shp x1
 proper:properP x1
theorem Zbw {l:List Str}(h:l.Nodup):inj l:=fun i j s hi hj=>by
 grind[List.getElem?_inj]
theorem inj.rlast {l:List Str}(h:inj l){i:Nat}{s:Str}(hi:l[i]?=some s):rlast l s=i:=P2 hi fun j x hij hx e=>by
 have:=h i j s hi (e▸hx);omega
theorem inj.set {l:List Str}(h:inj l){k:Nat}{t:Str}(ht:t∉l):inj (l.set k t):=by
 intro i j s hi hj;rw[qaM]at hi hj;split at hi<;>split at hj
 .omega
 grind;grind
 .exact h i j s hi hj
theorem KM {l:List Str}{k:Nat}{t u:Str}(h:u∈l.set k t):u∈l\/u=t:=List.mem_or_eq_of_mem_set h
structure ArmOk (x:Str)(free vars:List Str)(b0:Exp)(k:Nat)(vs:List Str)(b:Exp):Prop where
 len:vs.length=vars.length
 inj:inj vs
 notin:x∉vs
 inst:instR b0 b (idV.ext vars vs)
 weight:b.weight=b0.weight
 shape:shp b
 proper:properP b
 done:∀j v,j<k->vs[j]?=some v->¬(v∈free/\x∈Ag b)
theorem WQ {x:Str}{free vars:List Str}{b0:Exp}{k:Nat}{vs:List Str}{b:Exp}(h:ArmOk x free vars b0 k vs b)(hk:k<vars.length):ArmOk x free vars b0 (k+1) (D3 x free (vs,b) k).1 (D3 x free (vs,b) k).2:=by
 obtain⟨v,hv⟩:=Ae (l:=vs) (i:=k) (by rw[h.len];exact hk);have hdrop:v∉vs.drop (k+1):=by
  intro hm;obtain⟨j,hj⟩:=qn.1 hm;rw[qag]at hj;have:=h.inj k _ v hv hj;omega
 unfold D3;simp only[hv];by_cases hh:hitP x free v [b]
 .rw [if_neg (fun q=>q.elim hdrop fun q=>q hh)]
  have hfresh:=FY 0 (allP b++vs++free++[x]);generalize AI 0 (allP b++vs++free++[x])=to at hfresh |-;simp only[qp,qk,not_or]at hfresh;obtain⟨⟨⟨f1,f2⟩,f3⟩,f4⟩:=hfresh;have hxv:x≠v:=fun e=>h.notin (e▸qc hv);have hfx:x∈Ag (repl v to b)->x∈Ag b:=by
   intro hx;obtain⟨s,hs,he⟩:=(ZfK h.shape f1 x).1 hx;grind
  refine⟨by rw[List.length_set];exact h.len,h.inj.set f2,fun hm=>?_,?_,(QD _ _ _).trans h.weight,Rg _ _ _ h.shape,QO _ _ _ h.shape.wf h.proper,fun j w hj hw=>?_⟩
  .rcases KM hm with hm|hm
   .exact h.notin hm
   grind
  .refine (h.inst.comp _ _ _ _ _ (id_ok.ext _ _) (Lg v to b h.shape f1)).mono _ _ _ _ fun s hs d hd => ?_
   obtain⟨c,hc,_,hcd⟩:=hd;rcases hc with ⟨hb,t,ht,hr,hvc⟩|⟨hb,hvc,hfc⟩
   .rw [hvc.inst] at hcd
    obtain⟨u,hu,hvu⟩:=hcd;obtain⟨j,hj⟩:=qn.1 ht;have hrj:=h.inj.rlast hj;have hset:(vs.set k to)[j]?=some u:=by
     rw[qaM];by_cases htv:t=v
     .have hkj:k=j:=h.inj k j v hv (htv▸hj)
      grind
     grind
    exact .inl ⟨hb,u,qc hset,by rw[hr,hrj,(h.inj.set f2).rlast hset],hvu⟩
   .rw [ER] at hvc
    have hsv:s∉vs:=hfc s (by rw[hvc.free];simp);rw[hvc.inst]at hcd;obtain⟨u,hu,hvu⟩:=hcd;rw[if_neg (fun e=>hsv (by grind))]at hu;subst hu;refine .inr ⟨hb,ER.2 hvu,fun w hw=>?_⟩;rw[hvu.free,qk]at hw;subst hw;intro hm;rcases KM hm with hm|hm
    grind
    .obtain ⟨d',hd',hf'⟩:=instR.free_to b0 b _ h.inst w hs
     rcases hd' with ⟨q,_⟩|⟨_,q,_⟩
     grind
     .exact f1 (hm▸MY b w (hf' w (by rw[(ER.1 q).free];simp)))
  .rintro ⟨g1,g2⟩
   rw[qaM]at hw;split at hw;grind
   .exact h.done j w (by omega) hw ⟨g1,hfx g2⟩
 .rw [if_pos (.inr hh)]
  refine⟨h.len,h.inj,h.notin,h.inst,h.weight,h.shape,h.proper,fun j w hj hw hg=>?_⟩;by_cases hjk:j=k
  .subst hjk
   rw[hv]at hw;cases hw;exact hh ⟨hg.1,b,by simp,hg.2⟩
  .exact h.done j w (by omega) hw hg
theorem GW {x:Str}{free vars:List Str}{b:Exp}(hn:inj vars)(hx:x∉vars)(hs:shp b)(hp:properP b):∀k,k<=vars.length->ArmOk x free vars b k (BF x free vars b k).1 (BF x free vars b k).2
 |0,_=>⟨rfl,hn,hx,Ip hs,rfl,hs,hp,fun _ _ h=>by omega⟩
 |k+1,hk=>by
  rw[GM];exact WQ (GW hn hx hs hp k (by omega)) (by omega)
theorem Xi {x:Str}{b:Exp}{a:ArmH×Exp}(hn:inj a.1.vars)(hs:shp a.2)(hp:properP a.2):(armP x (Ag b) a).1.con=a.1.con/\inj (armP x (Ag b) a).1.vars/\KidOk x b a.2 (armP x (Ag b) a).2 a.1.vars (armP x (Ag b) a).1.vars:=by
 unfold armP;by_cases hx:x∈a.1.vars
 .rw [if_pos hx]
  exact⟨rfl,hn,rfl,fun _=>⟨rfl,rfl⟩,fun h=>h,Ip hs,fun h=>absurd hx h,rfl,hs,hp⟩
 .rw [if_neg hx]
  have h:=GW (free:=Ag b) hn hx hs hp a.1.vars.length (qg _);refine⟨rfl,h.inj,h.len.symm,fun q=>absurd q hx,fun _=>h.notin,h.inst,fun _ hf u hu hm=>?_,h.weight,h.shape,h.proper⟩;obtain⟨j,hj⟩:=qn.1 hm;exact h.done j u (by have:=(qf.1 hj).1;rw[h.len]at this;omega) hj ⟨hu,hf⟩
structure PrepOk (x:Str)(b e e':Exp):Prop where
 head:headEq e e'
 con:e.kind=2->e.name=e'.name
 arms:Fz e e'
 kids:∀(i:Nat) x0 x1,e.children[i]?=some x0->e'.children[i]?=some x1->KidOk x b x0 x1 (e.bound i) (e'.bound i)
 sum:(e'.arms.map fun a=>a.1.vars.length).sum=(e.arms.map fun a=>a.1.vars.length).sum
 vars:∀a∈e'.arms,inj a.1.vars
theorem TB {e e':Exp}(hl:e'.arms.length=e.arms.length)(h:∀(i:Nat) p q,e.arms[i]?=some p->e'.arms[i]?=some q->p.1.vars.length=q.1.vars.length):
 (e'.arms.map fun a=>a.1.vars.length).sum=(e.arms.map fun a=>a.1.vars.length).sum:=by
 congr 1;refine qJ fun i=>?_;grind
theorem Uq {x:Str}{b e:Exp}(hs:shp e)(hp:properP e)(h:∀(i:Nat) x0,e.children[i]?=some x0->x∉e.bound i->x∈Ag x0->∀u∈Ag b,u∉e.bound i):PrepOk x b e e:=by
 refine⟨⟨rfl,rfl,rfl,rfl,rfl⟩,fun _=>rfl,fun i p q hp hq=>?_,fun i x0 x1 h0 h1=>?_,rfl,hp.one⟩;grind
 .rw [h0] at h1
  cases h1;have hm:=qc h0;exact⟨rfl,fun _=>⟨rfl,rfl⟩,fun q=>q,Ip (hs.child hm),h i x0 h0,rfl,hs.child hm,hp.child hm⟩
theorem Ef {e:Exp}(h:e.kind≠8)(hs:shp1 e):e.arms=[]/\e.children=e.kids:=by
 have:=hs.1.2.1 h;grind[Exp.children]
theorem LS {e:Exp}(h:e.kind=4\/e.kind=6\/e.kind=7)(hs:shp1 e){i:Nat}(hi:i<e.children.length):e.bound i=if i<AB e then [] else [e.name]:=by
 have hc:=(Ef (by omega) hs).2;have hk:=hs.2.2;grind[DN,Exp.bound,AB]
theorem Zbk {x:Str}{b e:Exp}(hs:shp e)(hp:properP e)(hk:e.kind=4\/e.kind=6\/e.kind=7):PrepOk x b e (CG x (Ag b) e):=by
 obtain⟨ha,hc⟩:=Ef (by omega) hs.one;have hkl:AB e<e.kids.length:=by
  have h:=hs.one.2.2;grind[DN,AB]
 unfold CG;split
 .rename_i hc1
  refine Uq hs hp fun i x0 h0 hxb hxf u hu hub=>?_;have hi:=(qf.1 h0).1;rw[LS hk hs.one hi]at hxb hub;by_cases his:i<AB e;grind
  .rw [if_neg his] at hxb hub
   rw[qk]at hxb hub;rcases hc1 with h1|h1|h1
   grind
   .omega
   .refine h1 ⟨hub▸hu,x0,?_,hxf⟩
    refine qc (i:=i-AB e) ?_;grind
 .rename_i hc1
  simp only[not_or,Classical.not_not]at hc1;obtain⟨hxn,_,hhit⟩:=hc1;have hfresh:=FY 0 (allP e++Ag b++[x]);generalize AI 0 (allP e++Ag b++[x])=to at hfresh |-;simp only[qp,qk,not_or]at hfresh;obtain⟨⟨f1,f2⟩,f3⟩:=hfresh
  have hkid:∀(i:Nat) x0,e.kids[i]?=some x0->(e.kids.zipIdx.map fun p=>if p.2<AB e then p.1 else repl e.name to p.1)[i]?=some (if i<AB e then x0 else repl e.name to x0):=fun i x0 h=>by simp[h]
  have hkn:(e.kids.zipIdx.map fun p=>if p.2<AB e then p.1 else repl e.name to p.1).length=e.kids.length:=by simp
  generalize (e.kids.zipIdx.map fun p=>if p.2<AB e then p.1 else repl e.name to p.1)=ks at hkid hkn |-;have hc':(Exp.mk e.kind e.pos to e.num ks e.arms e.ty).children=ks:=by grind[B2]
  refine⟨⟨rfl,rfl,rfl,hkn.symm,rfl⟩,fun h2=>by omega,fun i p q h1 h2=>?_,fun i x0 x1 h0 h1=>?_,rfl,hp.one⟩;grind
  .have hi:=(qf.1 h0).1
   have hm:=qc h0;rw[hc']at h1;have hbn:(Exp.mk e.kind e.pos to e.num ks e.arms e.ty).bound i=if i<AB e then [] else [to]:=by
    have he:=LS hk hs.one hi;grind[Bt,GO]
   rw[hc]at h0;rw[hkid i x0 h0]at h1;cases h1;rw[hbn,LS hk hs.one hi];by_cases his:i<AB e
   .rw [if_pos his,if_pos his,if_pos his]
    exact⟨rfl,fun q=>by simp,fun q=>q,Ip (hs.child hm),fun _ _ u _=>by simp,rfl,hs.child hm,hp.child hm⟩
   .rw [if_neg his,if_neg his,if_neg his]
    have hnx:to∉allP x0:=fun h=>f1 (A3.2 (.inr ⟨i,x0,by grind,.inr h⟩));refine⟨rfl,fun q=>absurd (qk.1 q).symm hxn,fun _ q=>f3 (qk.1 q).symm,?_,fun _ _ u hu q=>f2 (qk.1 q▸hu),QD _ _ _,Rg _ _ _ (hs.child hm),QO _ _ _ (hs.child hm).wf (hp.child hm)⟩;refine(Lg e.name to x0 (hs.child hm) hnx).mono _ _ _ _ fun s hsx d hd=>?_;obtain⟨t,ht,hv⟩:=hd;by_cases hsn:s=e.name
    .rw [if_pos hsn] at ht
     subst ht;refine .inl ⟨by grind,t,by simp,?_,hv⟩;grind[P2]
    .rw [if_neg hsn] at ht
     subst ht;refine .inr ⟨by grind,ER.2 hv,fun u hu=>?_⟩;rw[hv.free,qk]at hu;grind[MY]
theorem ZcM {x:Str}{b e:Exp}(hs:shp e)(hp:properP e)(hk:e.kind=8):PrepOk x b e (.mk e.kind e.pos e.name e.num e.kids (e.arms.map (armP x (Ag b))) e.ty):=by
 have hk1:=hs.one.1.1 hk;have harm:∀(i:Nat) p q,e.arms[i]?=some p->(e.arms.map (armP x (Ag b)))[i]?=some q->q.1.con=p.1.con/\inj q.1.vars/\KidOk x b p.2 q.2 p.1.vars q.1.vars:=by
  intro i p q h1 h2;rw[qq,h1]at h2;cases h2;have hm:=BA (qc h1);exact Xi (hp.one p (qc h1)) (hs.child hm) (hp.child hm)
 have hvl:∀(i:Nat) p q,e.arms[i]?=some p->(e.arms.map (armP x (Ag b)))[i]?=some q->p.1.vars.length=q.1.vars.length:=fun i p q h1 h2=>(harm i p q h1 h2).2.2.len;have hal:(e.arms.map (armP x (Ag b))).length=e.arms.length:=by simp
 generalize e.arms.map (armP x (Ag b))=am at harm hvl hal |-;refine⟨⟨rfl,rfl,rfl,rfl,hal.symm⟩,fun h=>rfl,fun i p q h1 h2=>⟨(harm i p q h1 h2).1.symm,hvl i p q h1 h2⟩,fun i x0 x1 h0 h1=>?_,TB hal hvl,fun q hq=>?_⟩
 .rw [GO,Bt,if_neg (show ¬(e.kind=4\/e.kind=7\/e.kind=6/\i=1) by omega),if_neg (show ¬(e.kind=4\/e.kind=7\/e.kind=6/\i=1) by omega)]
  rcases Zff h0 with h0k|⟨j,p,rfl,hp',rfl⟩
  .have hi:=(qf.1 h0k).1
   have h1':e.kids[i]?=some x1:=by
    grind[B2]
   rw[h0k]at h1';cases h1';have hm:=qc h0;rw[if_neg (show ¬(e.kind=8/\0<i) by omega),if_neg (show ¬(e.kind=8/\0<i) by omega)];exact⟨rfl,fun q=>by simp,fun q=>q,Ip (hs.child hm),fun _ _ u _=>by simp,rfl,hs.child hm,hp.child hm⟩
  grind[B2]
 grind[F0,qn]
theorem Fo {x:Str}{b e:Exp}(hs:shp e)(hp:properP e):PrepOk x b e (Bd x (Ag b) e):=by
 grind[Bd,Zbk,ZcM,Uq,Bt]
theorem DM {x:Str}{b e e':Exp}(h:PrepOk x b e e'):e'.children.length=e.children.length:=h.head.children.symm
theorem Gr (x:Str)(b:Exp)(hb:shp b):∀(n:Nat) (e:Exp),e.weight<=n->shp e->properP e->instR e (subN n e x b) (subV x b)
 |0,e,h,_,_=>by have:=e.weight_pos;omega
 |n+1,e,h,hs,hp=>by
  rw[Fq];by_cases hk:e.kind=1
  .obtain ⟨a1,a2,a3⟩:=Ii hs.one.1 hk
   obtain⟨m,t⟩:=hs.one.2.1 hk;rw[if_pos hk];refine .mkVar hk ?_;unfold subV;by_cases hx:e.name=x;grind
   .rw [if_neg hx,if_neg hx]
    exact⟨hk,rfl,m,t,a1,a2⟩
  .rw [if_neg hk]
   have hP:=Fo (x:=x) (b:=b) hs hp;generalize Bd x (Ag b) e=e' at hP |-;have hl:=subC_len n e' x b;obtain⟨g1,g2⟩:=Mv hl;refine .mk hk ⟨⟨hP.head.1.trans g1.1,hP.head.2.1.trans g1.2.1,hP.head.2.2.1.trans g1.2.2.1,hP.head.2.2.2.1.trans g1.2.2.2.1,hP.head.2.2.2.2.trans g1.2.2.2.2⟩,fun h2=>hP.con h2,fun i p q hp' hq=>?_,fun i x0 y h0 hy=>?_⟩
   .obtain ⟨r,hr⟩:=Ae (l:=e'.arms) (i:=i) (by have:=hP.head.2.2.2.2;grind)
    exact⟨(hP.arms i p r hp' hr).1.trans (g2 i r q hr hq).1,(hP.arms i p r hp' hr).2.trans (g2 i r q hr hq).2⟩
   .obtain ⟨x1,h1⟩:=Ae (l:=e'.children) (i:=i) (by grind [DM])
    have hK:=hP.kids i x0 x1 h0 h1;rw[(BX hl).2.2.1,Eu h1]at hy;cases hy;rw[HT hl];by_cases hx:x∈e'.bound i
    .rw [if_pos hx]
     have hxb:x∈e.bound i:=qM fun q=>hK.notin q hx;obtain⟨rfl,he⟩:=hK.skip hxb;rw[he];exact Zdo hK.shape hxb
    .rw [if_neg hx]
     refine Zb6 hK.inst (Gr x b hb n x1 ?_ hK.shape hK.proper) hx (hK.apart hx);have:=Exp.child_lt (qc h0);have:=hK.weight;omega
theorem Si (x:Str)(b:Exp)(hb:shp b):∀(n:Nat) (e:Exp),e.weight<=n->shp e->properP e->shp (subN n e x b)
 |0,e,h,hs,_=>hs
 |n+1,e,h,hs,hp=>by
  rw[Fq];by_cases hk:e.kind=1;grind
  .rw [if_neg hk]
   have hP:=Fo (x:=x) (b:=b) hs hp;generalize Bd x (Ag b) e=e' at hP |-;refine Nf (subC_len n e' x b) (hP.head.1▸hk) (hP.head.shp1 hk hs.one) fun c hc=>?_;obtain⟨i,hi⟩:=qn.1 hc;obtain⟨x1,h1⟩:=Ae (l:=e'.children) (i:=i) (by have:=(qf.1 hi).1;simp_all);obtain⟨x0,h0⟩:=Ae (l:=e.children) (i:=i) (by grind[DM]);have hK:=hP.kids i x0 x1 h0 h1;rw[Eu h1]at hi;cases hi;split
   .exact hK.shape
   .refine Si x b hb n x1 ?_ hK.shape hK.proper
    have:=Exp.child_lt (qc h0);have:=hK.weight;omega
theorem Sz (x:Str)(b:Exp)(hb:properP b):∀(n:Nat) (e:Exp),e.weight<=n->shp e->properP e->properP (subN n e x b)
 |0,e,h,_,hp=>hp
 |n+1,e,h,hs,hp=>by
  rw[Fq];by_cases hk:e.kind=1;grind
  .rw [if_neg hk]
   have hP:=Fo (x:=x) (b:=b) hs hp;generalize Bd x (Ag b) e=e' at hP |-;obtain⟨_,_,h3,h4⟩:=BX (subC_len n e' x b);rw[D1];refine⟨Lh h4 hP.vars,fun c hc=>?_⟩;rw[h3]at hc;obtain⟨i,hi⟩:=qn.1 hc;obtain⟨x1,h1⟩:=Ae (l:=e'.children) (i:=i) (by have:=(qf.1 hi).1;simp_all);obtain⟨x0,h0⟩:=Ae (l:=e.children) (i:=i) (by grind[DM]);have hK:=hP.kids i x0 x1 h0 h1;rw[Eu h1]at hi;cases hi;split
   .exact hK.proper
   .refine Sz x b hb n x1 ?_ hK.shape hK.proper
    have:=Exp.child_lt (qc h0);have:=hK.weight;omega
def subP (e:Exp)(x:Str)(b:Exp):Exp:=subN e.weight e x b
theorem ZeH {t t':List Str}(h:∀k,AJ k∈t↔AJ k∈t')(n:Nat):BR n t=BR n t':=by
 have h1:1<=BR n t':=Gu t' _ 1 n;have hm:Cs t' 1 (BR n t')=n:=JH t' _ _ _ (by grind[NO]);refine Pr h1 (fun hk=>FY n t' ((h _).1 hk)) ?_;grind[Cs]
theorem Rs {t t':List Str}(h:∀k,AJ k∈t↔AJ k∈t')(n:Nat):AI n t=AI n t':=by grind[AI,ZeH]
theorem TN (k:Nat):AJ k≠[]:=by unfold AJ;simp
def Zfz (e:Exp)(l:List (List Str)):List Str:=(if e.name=[] then [] else [e.name])++(e.arms.map fun a=>a.1.vars).flatten++l.flatten
def D6 (e:Exp):List Str:=e.fold Zfz
theorem ZeQ (e:Exp):D6 e=(if e.name=[] then [] else [e.name])++(e.arms.map fun a=>a.1.vars).flatten++(e.children.map D6).flatten:=Exp.fold_eq _ e
theorem Zcl {e:Exp}{s:Str}:s∈D6 e↔(s≠[]/\s=e.name)\/(∃a∈e.arms,s∈a.1.vars)\/∃x∈e.children,s∈D6 x:=by
 grind[ZeQ]
theorem SD (e:Exp){s:Str}(hs:s≠[]):e.wf->(s∈D6 e↔s∈allP e):=by
 induction e using Exp.ind with
 |h e ih=>
  intro hw;rw[Zcl,A3];constructor
  .rintro (⟨_,h⟩|⟨a,ha,h⟩|⟨x,hx,h⟩)
   grind
   .obtain ⟨j,hj⟩:=qn.1 ha
    have h8:e.kind=8:=qM fun q=>by
     have:=hw.one.2.1 q;grind
    have hk1:=hw.one.1 h8;refine .inr ⟨e.kids.length+j,a.2,D5 hj,.inl ?_⟩;grind[Bt]
   .obtain ⟨i,hi⟩:=qn.1 hx
    exact .inr ⟨i,x,hi,.inr ((ih x hx (hw.child hx)).1 h)⟩
  .rintro (h|⟨i,x,hi,h|h⟩)
   grind;grind[Bt]
   .exact .inr (.inr ⟨x,qc hi,(ih x (qc hi) (hw.child (qc hi))).2 h⟩)
def KV (a b:Exp):Prop:=a.kind=b.kind/\a.name=b.name/\a.num=b.num/\a.ty=b.ty/\a.kids.length=b.kids.length/\a.arms.length=b.arms.length/\
 ∀(i:Nat) p q,a.arms[i]?=some p->b.arms[i]?=some q->p.1.con=q.1.con/\p.1.vars=q.1.vars
theorem BT {a b:Exp}:sameP a b↔KV a b/\∀(i:Nat) x y,a.children[i]?=some x->b.children[i]?=some y->sameP x y:=by
 rw[Dw];unfold KV;simp only[and_assoc]
theorem sameP.kids_len {a b:Exp}(h:sameP a b):a.children.length=b.children.length:=by
 obtain⟨⟨_,_,_,_,h1,h2,_⟩,_⟩:=BT.1 h;simp_all
theorem sameP.kid {a b:Exp}(h:sameP a b){i:Nat}{x:Exp}(hx:a.children[i]?=some x):∃y,b.children[i]?=some y/\sameP x y:=by
 obtain⟨y,hy⟩:=Ae (l:=b.children) (i:=i) (by rw[<-h.kids_len];grind);grind[BT]
theorem sameP.weight (a:Exp):∀b,sameP a b->a.weight=b.weight:=by
 induction a using Exp.ind with
 |h a ih=>
  intro b h;obtain⟨⟨_,_,_,_,_,h6,h7⟩,h8⟩:=BT.1 h;have hl:=h.kids_len;rw[a.weight_eq,b.weight_eq];congr 1
  .congr 2
   refine qJ fun i=>?_;grind
  .congr 1
   refine qJ fun i=>?_;grind
theorem sameP.shp (a:Exp):∀b,sameP a b->shp a->shp b:=by
 induction a using Exp.ind with
 |h a ih=>
  intro b h hs;obtain⟨⟨h1,h2,h3,h4,h5,h6,h7⟩,h8⟩:=BT.1 h;rw[DD];refine⟨?_,fun y hy=>?_⟩
  .obtain ⟨⟨w1,w2,w3⟩,w4,w5⟩:=hs.one
   have hz:∀{α:Type} {l m:List α},l.length=m.length->l=[]->m=[]:=fun hl he=>qN.1 (by grind);refine⟨⟨fun k=>by omega,fun k=>qN.1 (by grind),fun k=>qN.1 (by grind)⟩,fun k=>?_,by grind⟩;grind
  .obtain ⟨i,hi⟩:=qn.1 hy
   obtain⟨x,hx⟩:=Ae (l:=a.children) (i:=i) (by rw[h.kids_len];grind);exact ih x (qc hx) y (h8 i x y hx hi) (hs.child (qc hx))
theorem SF (a:Exp):∀b,sameP a b->∀u,u∈Ag a->u∈Ag b:=by
 induction a using Exp.ind with
 |h a ih=>
  intro b h u hu;obtain⟨⟨h1,h2,_⟩,h8⟩:=BT.1 h;by_cases hk:a.kind=1;grind[Cu]
  .obtain ⟨i,x,hx,hf,hb⟩:=(B3 hk).1 hu
   obtain⟨y,hy,hs⟩:=h.kid hx;grind[B3,Gn]
theorem Jp {a b:Exp}(h:sameP a b)(u:Str):u∈Ag a↔u∈Ag b:=⟨SF a b h u,SF b a (QX a b h) u⟩
theorem Qw (a:Exp):∀b,sameP a b->∀u,u∈allP a->u∈allP b:=by
 induction a using Exp.ind with
 |h a ih=>
  intro b h u hu;obtain⟨⟨h1,h2,_⟩,h8⟩:=BT.1 h;rcases A3.1 hu with hu|⟨i,x,hx,hu⟩
  grind[A3]
  .obtain ⟨y,hy,hs⟩:=h.kid hx
   grind[A3,Gn]
theorem K4 {a b:Exp}(h:sameP a b)(u:Str):u∈allP a↔u∈allP b:=⟨Qw a b h u,Qw b a (QX a b h) u⟩
theorem Qz {e e':Exp}{cs ds:List Exp}(hc:cs.length=e.kids.length+e.arms.length)(hd:ds.length=e'.kids.length+e'.arms.length)(h:KV e e')
 (hk:∀(i:Nat) x y,cs[i]?=some x->ds[i]?=some y->sameP x y):sameP (AN e cs) (AN e' ds):=by
 obtain⟨c1,c2,c3,c4⟩:=BX hc;obtain⟨d1,d2,d3,d4⟩:=BX hd;obtain⟨h1,h2,h3,h4,h5,h6,h7⟩:=h;refine BT.2 ⟨⟨h1,h2,h3,h4,by rw[c1,d1,h5],by rw[c2,d2,h6],fun i p q hp hq=>?_⟩,fun i x y hx hy=>?_⟩<;>grind
def varX (s:Str):Exp:=.mk 1 0 s 0 [] [] tz
theorem Uo (s:Str):Ag (varX s)=[s]:=by rfl
def newR (x:Str)(b e:Exp):Str:=AI 0 (Ag b++D6 e++[x])
def newA (x con:Str)(b:Exp)(p:List Str×Exp):Str:=AI 0 (Ag b++D6 p.2++[x,con]++p.1)
def Ku (S:Exp->Str->Exp->Exp)(x:Str)(b:Exp)(con:Str)(p:List Str×Exp)(i:Nat):List Str×Exp:=match p.1[i]? with
 |none=>p
 |some v=>if v∈Ag b/\x∈Ag p.2 then (p.1.set i (newA x con b p),S p.2 v (varX (newA x con b p))) else p
def D9 (S:Exp->Str->Exp->Exp)(x:Str)(b:Exp)(con:Str)(vs:List Str)(e:Exp)(k:Nat):List Str×Exp:=(List.range k).foldl (Ku S x b con) (vs,e)
theorem QR (S:Exp->Str->Exp->Exp)(x:Str)(b:Exp)(con:Str)(vs:List Str)(e:Exp)(k:Nat):D9 S x b con vs e (k+1)=Ku S x b con (D9 S x b con vs e k) k:=by
 unfold D9;rw[List.range_succ,qbe];rfl
def Ek (S:Exp->Str->Exp->Exp)(x:Str)(b:Exp)(a:ArmH×Exp):ArmH×Exp:=
 if x∈a.1.vars then a else (⟨a.1.pos,a.1.con,(D9 S x b a.1.con a.1.vars a.2 a.1.vars.length).1⟩,(D9 S x b a.1.con a.1.vars a.2 a.1.vars.length).2)
def L7 (S:Exp->Str->Exp->Exp)(x:Str)(b:Exp)(e:Exp):Exp:=
 if e.name=x\/e.kids.length<=AB e\/¬hitP x (Ag b) e.name (e.kids.drop (AB e)) then e else
  .mk e.kind e.pos (newR x b e) e.num (e.kids.zipIdx.map fun p=>if p.2<AB e then p.1 else S p.1 e.name (varX (newR x b e))) e.arms e.ty
def DT (S:Exp->Str->Exp->Exp)(x:Str)(b:Exp)(e:Exp):Exp:=
 if e.kind=4\/e.kind=6\/e.kind=7 then L7 S x b e else if e.kind=8 then .mk e.kind e.pos e.name e.num e.kids (e.arms.map (Ek S x b)) e.ty else e
def refS:Nat->Exp->Str->Exp->Exp
 |0,e,_,_=>e
 |n+1,e,x,b=>if e.kind=1 then (if e.name=x then b else e) else
  AN (DT (refS n) x b e) ((DT (refS n) x b e).children.zipIdx.map fun p=>if x∈(DT (refS n) x b e).bound p.2 then p.1 else refS n p.1 x b)
def refC (n:Nat)(e:Exp)(x:Str)(b:Exp):List Exp:=e.children.zipIdx.map fun p=>if x∈e.bound p.2 then p.1 else refS n p.1 x b
@[simp] theorem refC_len (n:Nat) (e:Exp) (x:Str) (b:Exp):(refC n e x b).length=e.kids.length+e.arms.length:=by simp[refC]
theorem P5 {n:Nat}{e y:Exp}{x:Str}{b:Exp}{i:Nat}(h:e.children[i]?=some y):(refC n e x b)[i]?=some (if x∈e.bound i then y else refS n y x b):=by
 simp[refC,h]
theorem Ph (n:Nat)(e:Exp)(x:Str)(b:Exp):refS (n+1) e x b=if e.kind=1 then (if e.name=x then b else e) else AN (DT (refS n) x b e) (refC n (DT (refS n) x b e) x b):=rfl
theorem Q3 {S:Exp->Str->Exp->Exp}{x to con:Str}{vs:List Str}{e:Exp}(h:to∉vs):∀k,D9 S x (varX to) con vs e k=(vs,e)
 |0=>rfl
 |k+1=>by
  rw[QR,Q3 h k];grind[Ku,Uo]
theorem ZdH {S:Exp->Str->Exp->Exp}{x to:Str}{e:Exp}(hw:e.wf)(h:to∉allP e):DT S x (varX to) e=e:=by
 unfold DT;by_cases h4:e.kind=4\/e.kind=6\/e.kind=7
 .rw [if_pos h4]
  unfold L7;rw[if_pos];refine .inr (.inr fun q=>h ?_);have:=q.1;grind[Uo,A3]
 .rw [if_neg h4]
  by_cases h8:e.kind=8
  .rw [if_pos h8]
   have hm:e.arms.map (Ek S x (varX to))=e.arms:=by
    refine qJ fun i=>?_;rw[qq];cases ha:e.arms[i]? with
    |none=>rfl
    |some a=>
     have hk1:=hw.one.1 h8;have hv:to∉a.1.vars:=fun q=>h (A3.2 (.inr ⟨e.kids.length+i,a.2,D5 ha,.inl (by
      grind[Bt])⟩))
     simp only[qv];unfold Ek;rw[Q3 hv];simp
   rw[hm];cases e;rfl
  grind
theorem Ou (f to:Str):∀(n:Nat) (e e':Exp),sameP e e'->e.weight<=n->shp e->to∉allP e->sameP (repl f to e) (refS n e' f (varX to))
 |0,e,_,_,h,_,_=>by have:=e.weight_pos;omega
 |n+1,e,e',h,hn,hs,ht=>by
  obtain⟨hh,hc⟩:=BT.1 h;obtain⟨h1,h2,h3,h4,h5,h6,h7⟩:=hh;have hs':=sameP.shp e e' h hs;rw[Ph];by_cases hk:e.kind=1
  .rw [EF hk,if_pos (h1.symm.trans hk),<-h2]
   by_cases hx:e.name=f
   .rw [if_pos hx,if_pos hx]
    obtain⟨a1,a2,a3⟩:=Ii hs.one.1 hk;obtain⟨m,t⟩:=hs.one.2.1 hk;rw[hk,m,t,a1,a2];refine BT.2 ⟨⟨rfl,rfl,rfl,rfl,rfl,rfl,fun i p q hp=>by simp[Exp.arms]at hp⟩,fun i x y hx=>?_⟩;grind[Exp.children,Exp.kids,Exp.arms]
   grind
  .rw [Eg hk,if_neg (fun q=>hk (h1.trans q)),ZdH hs'.wf (fun q=>ht ((K4 h to).2 q))]
   refine Qz (replC_len _ _ _) (refC_len _ _ _ _) ⟨h1,h2,h3,h4,h5,h6,h7⟩ fun i x y hx hy=>?_;obtain⟨x0,hx0⟩:=Ae (l:=e.children) (i:=i) (by rw[e.children_len,<-replC_len f to e];grind);obtain⟨y0,hy0,hxy⟩:=h.kid hx0;rw[DO hx0]at hx;rw[P5 hy0,<-Gn h]at hy;cases hx;cases hy;have hm:=qc hx0;by_cases hb:f∈e.bound i;grind
   .rw [if_neg hb,if_neg hb]
    exact Ou f to n x0 y0 hxy (by have:=Exp.child_lt hm;omega) (hs.child hm) fun q=>ht (A3.2 (.inr ⟨i,x0,hx0,.inr q⟩))
def conV (e:Exp):Prop:=e.fold fun e l=>(∀a∈e.arms,∀k,a.1.con≠AJ k)/\∀p∈l,p
theorem DB (e:Exp):conV e=((∀a∈e.arms,∀k,a.1.con≠AJ k)/\∀x∈e.children,conV x):=by
 have:=Exp.fold_eq (fun e (l:List Prop)=>(∀a∈e.arms,∀k,a.1.con≠AJ k)/\∀p∈l,p) e;unfold conV;rw[this];simp only[qU]
theorem conV.one {e:Exp}(h:conV e):∀a∈e.arms,∀k,a.1.con≠AJ k:=by grind[DB]
theorem conV.child {e x:Exp}(h:conV e)(hx:x∈e.children):conV x:=by grind[DB]
theorem T6 (frm to:Str)(e:Exp):conV e->conV (repl frm to e):=by
 induction e using Exp.ind with
 |h e ih=>
  intro h;by_cases hk:e.kind=1
  .rw [EF hk]
   split
   .rw [DB]
    exact⟨h.one,fun x hx=>h.child hx⟩
   omega
  .rw [Eg hk,DB]
   obtain⟨_,_,h3,h4⟩:=BX (replC_len frm to e);refine⟨fun a ha k=>?_,fun c hc=>?_⟩
   .obtain ⟨i,hi⟩:=qn.1 ha
    have:=h4 i;rw[hi]at this;cases hq:e.arms[i]? with
    |none=>grind
    |some q=>
     rw[hq]at this;simp only[qv,qd]at this;rw[this];exact h.one q (qc hq) k
   .rw [h3] at hc
    obtain⟨i,hi⟩:=qn.1 hc;obtain⟨x,hx⟩:=Ae (l:=e.children) (i:=i) (by have:=(qf.1 hi).1;simp_all);rw[DO hx]at hi;cases hi;have hm:=qc hx;split
    .exact h.child hm
    .exact ih x hm (h.child hm)
theorem PZ {x:Str}{free vs:List Str}{b:Exp}(h:conV b):∀k,conV (BF x free vs b k).2
 |0=>h
 |k+1=>by
  rw[GM];have:=PZ (x:=x) (free:=free) (vs:=vs) h k;grind[D3,T6]
theorem QP {x:Str}{free:List Str}{e:Exp}(hs:shp e)(h:conV e):∀y∈(Bd x free e).children,conV y:=by
 unfold Bd;by_cases h4:e.kind=4\/e.kind=6\/e.kind=7
 .rw [if_pos h4]
  obtain⟨ha,hc⟩:=Ef (by omega) hs.one;unfold CG;split
  .exact fun y hy=>h.child hy
  .intro y hy
   rw[B2,ha]at hy;simp only[qaj,qL,qH]at hy;obtain⟨⟨z,i⟩,hz,rfl⟩:=hy;have hm:z∈e.children:=(by grind);simp only;split
   .exact h.child hm
   .exact T6 _ _ _ (h.child hm)
 .rw [if_neg h4]
  by_cases h8:e.kind=8
  .rw [if_pos h8]
   intro y hy;rw[B2]at hy;rcases qp.1 hy with hy|hy
   .exact h.child (AO hy)
   .obtain ⟨a,ha,rfl⟩:=qH.1 hy
    obtain⟨p,hp,rfl⟩:=qH.1 ha;unfold armP;split
    .exact h.child (BA hp)
    .exact PZ (h.child (BA hp)) _
  .rw [if_neg h8]
   exact fun y hy=>h.child hy
theorem Pe {n:Nat}{x con:Str}{b:Exp}{vs:List Str}{e e':Exp}(hcon:∀k,con≠AJ k)(hi:inj vs)(hx:x∉vs)(hs:shp e)(hp:properP e)(hw:e.weight<=n)(h:sameP e e'):
 ∀k,k<=vs.length->(BF x (Ag b) vs e k).1=(D9 (refS n) x b con vs e' k).1/\sameP (BF x (Ag b) vs e k).2 (D9 (refS n) x b con vs e' k).2
 |0,_=>⟨rfl,h⟩
 |k+1,hk=>by
  obtain⟨g1,g2⟩:=Pe (b:=b) hcon hi hx hs hp hw h k (by omega);have ho:=GW (free:=Ag b) hi hx hs hp k (by omega);rw[GM,QR];generalize BF x (Ag b) vs e k=p at *
  generalize D9 (refS n) x b con vs e' k=q at *
  obtain⟨v1,e1⟩:=p;obtain⟨v2,e2⟩:=q;simp only at g1 g2 ho;subst g1;obtain⟨v,hv⟩:=Ae (l:=v1) (i:=k) (by rw[ho.len];exact hk);have hdrop:v∉v1.drop (k+1):=by
   intro hm;obtain⟨j,hj⟩:=qn.1 hm;rw[qag]at hj;have:=ho.inj k _ v hv hj;omega
  unfold D3 Ku;simp only[hv];by_cases hh:v∈Ag b/\x∈Ag e1
  .have hto:AI 0 (allP e1++v1++Ag b++[x])=newA x con b (v1,e2):=by
    refine Rs (fun j=>?_) 0;have ha:AJ j∈allP e1↔AJ j∈D6 e2:=by
     rw[SD e2 (TN j) (sameP.shp e1 e2 g2 ho.shape).wf];exact K4 g2 _
    grind
   rw[if_neg (show ¬(v∈v1.drop (k+1)\/¬hitP x (Ag b) v [e1])from fun q=>q.elim hdrop fun q=>q ⟨hh.1,e1,by simp,hh.2⟩),if_pos ⟨hh.1,(Jp g2 x).1 hh.2⟩];have hf:=FY 0 (allP e1++v1++Ag b++[x]);rw[hto]at hf |-;simp only[qp,not_or]at hf;exact⟨rfl,Ou v _ n e1 e2 g2 (by rw[ho.weight];exact hw) ho.shape hf.1.1.1⟩
  grind[hitP,Jp]
theorem Zdx {n:Nat}{x:Str}{b e e':Exp}(h:sameP e e')(hs:shp e)(hp:properP e)(hc:conV e)(hn:e.weight<=n+1):sameP (Bd x (Ag b) e) (DT (refS n) x b e'):=by
 have hs':=sameP.shp e e' h hs;obtain⟨⟨h1,h2,h3,h4,h5,h6,h7⟩,h8⟩:=BT.1 h;unfold Bd DT;by_cases hb:e.kind=4\/e.kind=6\/e.kind=7
 .rw [if_pos hb,if_pos (h1▸hb)]
  obtain⟨ha,hch⟩:=Ef (by omega) hs.one;obtain⟨ha',hch'⟩:=Ef (e:=e') (by omega) hs'.one;have hsc:AB e'=AB e:=by unfold AB;rw[h1]
  have hkid:∀(i:Nat) k,e.kids[i]?=some k->∃k',e'.kids[i]?=some k'/\sameP k k':=fun i k hk=>by
   grind
  have hhit:hitP x (Ag b) e'.name (e'.kids.drop (AB e))↔hitP x (Ag b) e.name (e.kids.drop (AB e)):=by
   unfold hitP;rw[h2];refine and_congr_right fun _=>⟨?_,?_⟩
   .rintro ⟨k',hk',hf⟩
    obtain⟨j,hj⟩:=qn.1 hk';rw[qag]at hj;obtain⟨k,hk⟩:=Ae (l:=e.kids) (i:=AB e+j) (by grind);obtain⟨k2,hk2,hsm⟩:=hkid _ k hk;rw[hj]at hk2;cases hk2;exact⟨k,qc (i:=j) (by grind),(Jp hsm x).2 hf⟩
   .rintro ⟨k,hk,hf⟩
    obtain⟨j,hj⟩:=qn.1 hk;rw[qag]at hj;obtain⟨k2,hk2,hsm⟩:=hkid _ k hj;exact⟨k2,qc (i:=j) (by grind),(Jp hsm x).1 hf⟩
  unfold CG L7;have hcond:(e'.name=x\/e'.kids.length<=AB e'\/¬hitP x (Ag b) e'.name (e'.kids.drop (AB e')))↔(e.name=x\/e.kids.length<=AB e\/¬hitP x (Ag b) e.name (e.kids.drop (AB e))):=by grind
  by_cases hcn:e.name=x\/e.kids.length<=AB e\/¬hitP x (Ag b) e.name (e.kids.drop (AB e));grind
  .rw [if_neg hcn,if_neg (fun q=>hcn (hcond.1 q)),hsc,<-h2]
   have hto:AI 0 (allP e++Ag b++[x])=newR x b e':=by
    refine Rs (fun j=>?_) 0;have ha:AJ j∈allP e↔AJ j∈D6 e':=by
     rw[SD e' (TN j) hs'.wf];exact K4 h _
    grind
   have hf:=FY 0 (allP e++Ag b++[x]);rw[hto]at hf |-;simp only[qp,not_or]at hf;generalize newR x b e'=to at hf |-;refine BT.2 ⟨⟨h1,rfl,h3,h4,by grind[SW,List.length_zipIdx],h6,h7⟩,fun i y z hy hz=>?_⟩;rw[B2,ha,qaj,qL,qq,qaB]at hy;rw[B2,ha',qaj,qL,qq,qaB]at hz;cases hk:e.kids[i]? with
   |none=>grind
   |some k=>
    obtain⟨k',hk',hsm⟩:=hkid i k hk;rw[hk]at hy;rw[hk']at hz;simp only[qv,qaF,qd]at hy hz;subst hy;subst hz;have hm:k∈e.children:=(by grind);by_cases hi:i<AB e;grind
    .rw [if_neg hi,if_neg hi]
     exact Ou _ _ n k k' hsm (by have:=Exp.child_lt hm;omega) (hs.child hm) fun q=>hf.1.1 (A3.2 (.inr ⟨i,k,by grind,.inr q⟩))
 .rw [if_neg hb,if_neg (show ¬(e'.kind=4\/e'.kind=6\/e'.kind=7) by omega)]
  by_cases k8:e.kind=8
  .rw [if_pos k8,if_pos (h1.symm.trans k8)]
   have harm:∀(i:Nat) p q,e.arms[i]?=some p->e'.arms[i]?=some q->(armP x (Ag b) p).1.con=(Ek (refS n) x b q).1.con/\(armP x (Ag b) p).1.vars=(Ek (refS n) x b q).1.vars/\sameP (armP x (Ag b) p).2 (Ek (refS n) x b q).2:=by
    intro i p q hp' hq;obtain⟨g1,g2⟩:=h7 i p q hp' hq;have hm:=BA (qc hp');have hbs:sameP p.2 q.2:=h8 (e.kids.length+i) p.2 q.2 (D5 hp') (by grind[D5]);have ha:=Pe (n:=n) (x:=x) (con:=p.1.con) (b:=b) (e:=p.2) (e':=q.2) (hc.one p (qc hp')) (hp.one p (qc hp'));unfold armP Ek;rw[<-g2];by_cases hx:x∈p.1.vars;grind
    .rw [if_neg hx,if_neg hx]
     have:=ha hx (hs.child hm) (hp.child hm) (by have:=Exp.child_lt hm;omega) hbs p.1.vars.length (qg _);grind
   refine BT.2 ⟨⟨h1,h2,h3,h4,h5,by grind[F0],fun i p q hp' hq=>?_⟩,fun i y z hy hz=>?_⟩;grind[F0]
   .rw [B2] at hy hz
    by_cases hi:i<e.kids.length
    .rw [qF hi] at hy
     rw[qF (by omega)]at hz;refine h8 i y z ?_ ?_<;>grind[Exp.children]
    grind
  grind
theorem UH (x:Str)(b:Exp):∀(n:Nat) (e e':Exp),sameP e e'->e.weight<=n->shp e->properP e->conV e->sameP (subN n e x b) (refS n e' x b)
 |0,e,_,_,h,_,_,_=>by have:=e.weight_pos;omega
 |n+1,e,e',h,hn,hs,hp,hc=>by
  obtain⟨⟨h1,h2,_⟩,_⟩:=BT.1 h;rw[Fq,Ph];by_cases hk:e.kind=1;grind[HK]
  .rw [if_neg hk,if_neg (fun q=>hk (h1.trans q))]
   have hP:=Fo (x:=x) (b:=b) hs hp;have hC:=QP (x:=x) (free:=Ag b) hs hc;have hS:=Zdx (n:=n) (x:=x) (b:=b) h hs hp hc hn;generalize Bd x (Ag b) e=d at *
   generalize DT (refS n) x b e'=d' at *
   refine Qz (subC_len _ _ _ _) (refC_len _ _ _ _) (BT.1 hS).1 fun i y z hy hz=>?_;obtain⟨x1,hx1⟩:=Ae (l:=d.children) (i:=i) (by rw[d.children_len,<-subC_len n d x b];grind);obtain⟨y1,hy1,hsm⟩:=hS.kid hx1;obtain⟨x0,hx0⟩:=Ae (l:=e.children) (i:=i) (by grind[DM]);have hK:=hP.kids i x0 x1 hx0 hx1;rw[Eu hx1]at hy;rw[P5 hy1,<-Gn hS]at hz;cases hy;cases hz;by_cases hb:x∈d.bound i;grind
   .rw [if_neg hb,if_neg hb]
    exact UH x b n x1 y1 hsm (by have:=Exp.child_lt (qc hx0);have:=hK.weight;omega) hK.shape hK.proper (hC x1 (qc hx1))
theorem Vi {x:Str}{free:List Str}{e:Exp}(hs:shp e)(h:conV e):∀a∈(Bd x free e).arms,∀k,a.1.con≠AJ k:=by
 unfold Bd;by_cases h4:e.kind=4\/e.kind=6\/e.kind=7
 .rw [if_pos h4]
  unfold CG;split
  .exact h.one
  .exact h.one
 .rw [if_neg h4]
  by_cases h8:e.kind=8
  .rw [if_pos h8]
   intro a ha k;rw[F0]at ha;obtain⟨p,hp,rfl⟩:=qH.1 ha;have:=h.one p hp k;unfold armP;split
   .exact this
   .exact this
  .rw [if_neg h8]
   exact h.one
theorem Qt (x:Str)(b:Exp)(hb:conV b):∀(n:Nat) (e:Exp),e.weight<=n->shp e->properP e->conV e->conV (subN n e x b)
 |0,e,h,_,_,_=>by have:=e.weight_pos;omega
 |n+1,e,h,hs,hp,hc=>by
  rw[Fq];by_cases hk:e.kind=1
  .rw [if_pos hk]
   split
   .exact hb
   .exact hc
  .rw [if_neg hk]
   have hP:=Fo (x:=x) (b:=b) hs hp;have hC:=QP (x:=x) (free:=Ag b) hs hc;have hA:=Vi (x:=x) (free:=Ag b) hs hc;generalize Bd x (Ag b) e=e' at *
   obtain⟨g1,g2,g3,g4⟩:=BX (subC_len n e' x b);rw[DB];refine⟨fun a ha k=>?_,fun y hy=>?_⟩
   .obtain ⟨i,hi⟩:=qn.1 ha
    have:=g4 i;rw[hi]at this;cases hq:e'.arms[i]? with
    |none=>rw[hq]at this;simp at this
    |some q=>
     rw[hq]at this;simp only[qv,qd]at this;rw[this];exact hA q (qc hq) k
   .rw [g3] at hy
    obtain⟨i,hi⟩:=qn.1 hy;obtain⟨x1,h1⟩:=Ae (l:=e'.children) (i:=i) (by rw[e'.children_len,<-subC_len n e' x b];exact(qf.1 hi).1);obtain⟨x0,h0⟩:=Ae (l:=e.children) (i:=i) (by rw[<-DM hP];exact(qf.1 h1).1);have hK:=hP.kids i x0 x1 h0 h1;rw[Eu h1]at hi;cases hi;have hm:=qc h1;split
    .exact hC x1 hm
    .exact Qt x b hb n x1 (by have:=Exp.child_lt (qc h0);have:=hK.weight;omega) hK.shape hK.proper (hC x1 hm)
def Ds:Nat->Exp->List Exp->Exp×List Exp
 |0,e,l=>(e,l)
 |n+1,e,l=>if e.kind=5 then match e.kids with
  |[f,a]=>Ds n f (a::l)
  |_=>(e,l)
  else (e,l)
theorem Ff {α β:Type}{f:α×Nat->Nat}{g:β×Nat->Nat}:∀(l:List α) (m:List β) (k:Nat),l.length=m.length->
 (∀(i:Nat) x y,l[i]?=some x->m[i]?=some y->f (x,k+i)<=g (y,k+i))->((l.zipIdx k).map f).sum<=((m.zipIdx k).map g).sum
 |[],[],_,_,_=>qg _
 |[],_::_,_,h,_=>by simp
 |_::_,[],_,h,_=>by grind
 |a::l,b::m,k,h,hf=>by
  simp only[qa4,qu,qaa];have h1:=hf 0 a b rfl rfl;have h2:=Ff (f:=f) (g:=g) l m (k+1) (by grind) fun i x y hx hy=>by
   have:=hf (i+1) x y (by grind) (by grind);grind
  grind
theorem QV {α:Type}{f g:α×Nat->Nat}{M:Nat}:∀(l:List α) (k:Nat),(∀(i:Nat) x,l[i]?=some x->f (x,k+i)<=g (x,k+i)*M)->((l.zipIdx k).map f).sum<=((l.zipIdx k).map g).sum*M
 |[],_,_=>by simp
 |a::l,k,hf=>by
  simp only[qa4,qu,qaa];have h1:=hf 0 a rfl;have h2:=QV (f:=f) (g:=g) (M:=M) l (k+1) fun i x hx=>by
   have:=hf (i+1) x (by grind);grind
  grind
def asg (ρ:Str->Nat)(bs:List Str):Str->Nat:=fun s=>if s∈bs then 1 else ρ s
def wF (e:Exp)(l:List ((Str->Nat)->Nat))(ρ:Str->Nat):Nat:=if e.kind=1 then ρ e.name else 1+(e.arms.map fun a=>a.1.vars.length).sum+(l.zipIdx.map fun p=>p.1 (asg ρ (e.bound p.2))).sum
def wV (e:Exp):(Str->Nat)->Nat:=e.fold wF
theorem Fm {e:Exp}(h:e.kind=1)(ρ:Str->Nat):wV e ρ=ρ e.name:=by
 unfold wV;rw[Exp.fold_eq,wF,if_pos h]
theorem KR {α β γ:Type}{f:α->β}{g:β×Nat->γ}:∀(l:List α) (k:Nat),((l.map f).zipIdx k).map g=(l.zipIdx k).map fun p=>g (f p.1,p.2)
 |[],_=>rfl
 |a::l,k=>by simp only[qu,qa4,KR l (k+1)]
theorem F3 {e:Exp}(h:e.kind≠1)(ρ:Str->Nat):wV e ρ=1+(e.arms.map fun a=>a.1.vars.length).sum+(e.children.zipIdx.map fun p=>wV p.1 (asg ρ (e.bound p.2))).sum:=by
 unfold wV;rw[Exp.fold_eq,wF,if_neg h,KR]
theorem KE (e:Exp):∀(ρ σ:Str->Nat),(∀s∈Ag e,ρ s<=σ s)->wV e ρ<=wV e σ:=by
 induction e using Exp.ind with
 |h e ih=>
  intro ρ σ h;by_cases hk:e.kind=1;grind[Fm,Cu]
  .rw [F3 hk,F3 hk]
   refine Nat.add_le_add_left (Ff _ _ 0 rfl fun i x y hx hy=>?_) _;rw[hx]at hy;cases hy;refine ih x (qc hx) _ _ fun s hs=>?_;grind[asg,B3]
theorem L3 (e:Exp):(e.children.map Exp.weight).sum=(e.children.zipIdx.map fun p=>p.1.weight).sum:=by
 congr 1;refine qJ fun i=>?_;grind
theorem Nr {M:Nat}(hM:1<=M)(e:Exp):∀(ρ:Str->Nat),(∀s∈Ag e,ρ s<=M)->wV e ρ<=e.weight*M:=by
 induction e using Exp.ind with
 |h e ih=>
  intro ρ h;have hw:=e.weight_pos;by_cases hk:e.kind=1;grind[Fm,qt,Cu,qa7]
  .rw [F3 hk,e.weight_eq,L3]
   have h1:=QV (f:=fun p=>wV p.1 (asg ρ (e.bound p.2))) (g:=fun p:Exp×Nat=>p.1.weight) (M:=M) e.children 0 fun i x hx=>by
    grind[asg,B3]
   have h2:1+(e.arms.map fun a=>a.1.vars.length).sum<=(1+(e.arms.map fun a=>a.1.vars.length).sum)*M:=Nat.le_mul_of_pos_right _ hM;grind
theorem KL (e:Exp):∀(ρ:Str->Nat),shp e->(∀s,1<=ρ s)->e.weight<=wV e ρ:=by
 induction e using Exp.ind with
 |h e ih=>
  intro ρ hs h;by_cases hk:e.kind=1
  .obtain ⟨a1,a2,_⟩:=Ii hs.one.1 hk
   have:e.weight=1:=(by rw[e.weight_eq,Exp.children,a1,a2];rfl);grind[Fm]
  .rw [F3 hk,e.weight_eq,L3]
   refine Nat.add_le_add_left (Ff _ _ 0 rfl fun i x y hx hy=>?_) _;rw[hx]at hy;cases hy;refine ih x (qc hx) _ (hs.child (qc hx)) fun s=>?_;grind[asg]
theorem Zag (a:Exp):∀(c:Exp) (V:Rep) (ρ σ:Str->Nat),instR a c V->(∀s∈Ag a,∀d,V s d->wV d σ<=ρ s)->wV c σ<=wV a ρ:=by
 induction a using Exp.ind with
 |h a ih=>
  intro c V ρ σ h hv;by_cases hk:a.kind=1
  .rw [Fm hk]
   exact hv _ ((Cu hk).2 rfl) _ (h.var hk)
  .obtain ⟨h1,h2,h3,h4⟩:=h.node hk
   have hl:c.children.length=a.children.length:=h1.children.symm;have hsum:=TB (e:=a) (e':=c) h1.2.2.2.2.symm fun i p q hp hq=>(h3 i p q hp hq).2;rw[F3 (show c.kind≠1 from fun q=>hk (h1.1.trans q)),F3 hk,hsum];refine Nat.add_le_add_left (Ff _ _ 0 hl fun i y x hy hx=>?_) _;refine ih x (qc hx) y _ _ _ (h4 i x y hx hy) fun s hs d hd=>?_;simp only[qaF];rcases hd with ⟨hb,t,ht,_,hvt⟩|⟨hb,hvd,hf⟩
   .rw [Fm hvt.1,hvt.2.1]
    grind[asg]
   .refine qt (KE d _ σ fun u hu=>?_) (qt (hv s ((B3 hk).2 ⟨i,x,hx,hs,hb⟩) d hvd) ?_)<;>grind[asg]
theorem KI {x:Str}{b e:Exp}{n:Nat}(hb:shp b)(hn:e.weight<=n)(hs:shp e)(hp:properP e)(σ:Str->Nat):wV (subN n e x b) σ<=wV e (fun s=>if s=x then wV b σ else σ s):=by
 refine Zag e _ _ _ σ (Gr x b hb n e hn hs hp) fun s _ d hd=>?_;unfold subV at hd;split at hd;grind
 .rename_i h
  rw[if_neg h,Fm hd.1,hd.2.1];simp
def okE (e:Exp):Prop:=shp e/\properP e/\conV e
def refP (e:Exp)(x:Str)(b:Exp):Exp:=refS e.weight e x b
def Az (l:List (Str×Exp))(b:Exp):Exp:=l.foldl (fun e p=>subP e p.1 p.2) b
def K9 (l:List (Str×Exp))(b:Exp):Exp:=l.foldl (fun e p=>refP e p.1 p.2) b
theorem DP (p:Str×Exp)(l:List (Str×Exp))(b:Exp):Az (p::l) b=Az l (subP b p.1 p.2):=rfl
theorem Vg (p:Str×Exp)(l:List (Str×Exp))(b:Exp):K9 (p::l) b=K9 l (refP b p.1 p.2):=rfl
theorem C9 {x:Str}{e b:Exp}(he:okE e)(hb:okE b):okE (subP e x b):=
 ⟨Si x b hb.1 e.weight e (qg _) he.1 he.2.1,Sz x b hb.2.1 e.weight e (qg _) he.1 he.2.1,Qt x b hb.2.2 e.weight e (qg _) he.1 he.2.1 he.2.2⟩
theorem Zd {x:Str}{e e' b:Exp}(h:sameP e e')(he:okE e):sameP (subP e x b) (refP e' x b):=by
 unfold subP refP;rw[<-sameP.weight e e' h];exact UH x b e.weight e e' h (qg _) he.1 he.2.1 he.2.2
theorem IM:∀(l:List (Str×Exp))(e e':Exp),sameP e e'->okE e->(∀p∈l,okE p.2)->sameP (Az l e) (K9 l e')/\okE (Az l e)
 |[],_,_,h,he,_=>⟨h,he⟩
 |p::l,e,e',h,he,hl=>by
  rw[DP,Vg];exact IM l _ _ (Zd h he) (C9 he (hl p (by simp))) fun q hq=>hl q (by grind)
def asgL (M:Nat)(l:List (Str×Exp)):Str->Nat:=fun s=>if ∃p∈l,p.1=s then M else 1
theorem Qa {M:Nat}(hM:1<=M):∀(l:List (Str×Exp)) (e:Exp),okE e->(∀p∈l,okE p.2/\p.2.weight<=M/\∀q∈l,q.1∉Ag p.2)->wV (Az l e) (fun _=>1)<=wV e (asgL M l)
 |[],e,_,_=>by
  refine KE e _ _ fun s _=>?_;grind[asgL]
 |p::l,e,he,hl=>by
  obtain⟨h1,h2,h3⟩:=hl p (by simp);rw[DP];refine qt (Qa hM l _ (C9 he h1) fun q hq=>?_) ?_;grind
  .refine qt (KI h1.1 (qg _) he.1 he.2.1 _) (KE e _ _ fun s _ => ?_)
   by_cases hs:s=p.1
   .rw [if_pos hs]
    have hr:asgL M (p::l) s=M:=(by unfold asgL;simp_all);rw[hr];have hw:=Nr (qg 1) p.2 (asgL M l) fun u hu=>by
     grind[asgL]
    omega
   .rw [if_neg hs]
    unfold asgL;by_cases hq:∃q∈l,q.1=s;simp_all;grind
theorem Et (s:Str):okE (varX s):=by
 have hc:(varX s).children=[]:=rfl;have ha:(varX s).arms=[]:=rfl;refine⟨?_,?_,?_⟩
 .rw [DD,hc]
  exact⟨⟨⟨fun h=>absurd (show(1:Int)=8 from h) (by decide),fun _=>rfl,fun _=>rfl⟩,fun _=>⟨rfl,rfl⟩,rfl⟩,fun x hx=>by grind⟩
 grind[D1];grind[DB]
theorem QE (s:Str):(varX s).weight=1:=by
 rfl
theorem Wo {x t:Str}{e:Exp}(he:okE e):(subP e x (varX t)).weight<=e.weight:=by
 have h1:=KL (subP e x (varX t)) (fun _=>1) (C9 he (Et t)).1 fun _=>qg _;have h2:=KI (x:=x) (b:=varX t) (e:=e) (n:=e.weight) (Et t).1 (qg _) he.1 he.2.1 fun _=>1;have h3:=Nr (qg 1) e (fun s=>if s=x then wV (varX t) (fun _=>1) else 1) fun s _=>by
  rw[Fm (show(varX t).kind=1 from rfl)];simp
 grind[subP]
def ZbW (e:Exp)(l:List (List Str)):List Str:=e.name::((e.arms.map fun a=>a.1.vars).flatten++l.flatten)
def Aj (e:Exp):List Str:=e.fold ZbW
theorem GP (e:Exp):Aj e=e.name::((e.arms.map fun a=>a.1.vars).flatten++(e.children.map Aj).flatten):=Exp.fold_eq _ e
def GC (T:List Str)(vars:List Str)(args:List Exp):List (Str×Exp):=
 (vars.zipIdx.map fun p=>(p.1,varX (AI p.2 T)))++args.zipIdx.map fun p=>(AI p.2 T,p.1)
def Of (S:Exp->Str->Exp->Exp)(l:List (Str×Exp))(b:Exp):Exp:=l.foldl (fun e p=>S e p.1 p.2) b
def Dn (S:Exp->Str->Exp->Exp)(T:Exp->List Str)(e:Exp)(con:Str)(args:List Exp):Option (Exp×Nat):=
 match e.arms.find? fun a=>a.1.con==con with
 |none=>none
 |some a=>if a.1.vars.length=args.length then some (Of S (GC (T e) a.1.vars args) a.2,4) else none
def AV (S:Exp->Str->Exp->Exp)(T:Exp->List Str)(G:Exp->Exp->Exp):Nat->Exp->Option (Exp×Nat)
 |0,_=>none
 |n+1,e=>match e.kids with
  |[f,a]=>
   if e.kind=5 then
    if f.kind=4 then (match f.kids with | [k]=>some (S k f.name a,1) | _=>none)
    else (AV S T G n f).map fun p=>(AN e (p.1::e.children.tail),p.2)
   else if e.kind=6 then some (S a e.name f,2)
   else if e.kind=7 then some (S a e.name (G e f),3) else none
  |[k]=>
   if e.kind=9 then some (k,5) else if e.kind=11 then some (k,6) else if e.kind=8 then
    if (Ds k.weight k []).1.kind=2 then Dn S T e (Ds k.weight k []).1.name (Ds k.weight k []).2
    else (AV S T G n k).map fun p=>(AN e (p.1::e.children.tail),p.2)
   else none
  |_=>none
def Zf6 (a b:Option (Exp×Nat)):Prop:=match a,b with
 |none,none=>True
 |some p,some q=>sameP p.1 q.1/\p.2=q.2
 |_,_=>False
theorem okE.child {e x:Exp}(h:okE e)(hx:x∈e.children):okE x:=⟨h.1.child hx,h.2.1.child hx,h.2.2.child hx⟩
theorem N0:∀(n:Nat)(e:Exp)(l:List Exp),okE e->(∀a∈l,okE a)->okE (Ds n e l).1/\∀a∈(Ds n e l).2,okE a
 |0,e,l,he,hl=>⟨he,hl⟩
 |n+1,e,l,he,hl=>by
  unfold Ds;split
  .split
   .rename_i f a hk
    have hf:f∈e.children:=AO (by grind);have ha:a∈e.children:=AO (by grind);refine N0 n f (a::l) (he.child hf) fun b hb=>?_;rcases qD.1 hb with rfl|hb
    .exact he.child ha
    grind
   grind
  grind
theorem Tu {a b:Exp}(h:sameP a b){q:ArmH×Exp}(hq:q∈b.arms):∃p∈a.arms,p.1.con=q.1.con/\p.1.vars=q.1.vars:=by
 obtain⟨⟨_,_,_,_,_,h6,h7⟩,_⟩:=BT.1 h;obtain⟨i,hi⟩:=qn.1 hq;obtain⟨p,hp⟩:=Ae (l:=a.arms) (i:=i) (by rw[h6];exact(qf.1 hi).1);exact⟨p,qc hp,h7 i p q hp hi⟩
theorem Zas (a:Exp):∀b,sameP a b->okE a->okE b:=by
 have key:∀b,sameP a b->properP a/\conV a->properP b/\conV b:=by
  induction a using Exp.ind with
  |h a ih=>
   intro b h ⟨hp,hc⟩;have hk:∀y∈b.children,properP y/\conV y:=by
    intro y hy;obtain⟨i,hi⟩:=qn.1 hy;obtain⟨x,hx⟩:=Ae (l:=a.children) (i:=i) (by rw[h.kids_len];exact(qf.1 hi).1);have hm:=qc hx;exact ih x hm y ((BT.1 h).2 i x y hx hi) ⟨hp.child hm,hc.child hm⟩
   rw[D1,DB];refine⟨⟨fun q hq=>?_,fun y hy=>(hk y hy).1⟩,fun q hq k=>?_,fun y hy=>(hk y hy).2⟩
   .obtain ⟨p,hp',g1,g2⟩:=Tu h hq
    rw[<-g2];exact hp.one p hp'
   .obtain ⟨p,hp',g1,g2⟩:=Tu h hq
    rw[<-g1];exact hc.one p hp' k
 exact fun b h he=>⟨sameP.shp a b h he.1,key b h he.2⟩
theorem Ir (a:Exp):sameP a (Ai a):=by
 induction a using Exp.ind with
 |h a ih=>
  obtain⟨h1,h2,h3,h4,h5,h6,h7,h8⟩:=Ec a;refine BT.2 ⟨⟨h1.symm,h2.symm,h3.symm,h4.symm,h5.symm,h6.symm,fun i p q hp hq=>?_⟩,fun i x y hx hy=>?_⟩
  .rw [h8,hp] at hq
   cases hq;exact⟨rfl,rfl⟩
  .rw [h7,qq,hx] at hy
   cases hy;exact ih x (qc hx)
theorem Zco {e:Exp}(h:okE e):okE (Ai e):=Zas e _ (Ir e) h
theorem Z4 {e:Exp}{cs:List Exp}(hl:cs.length=e.kids.length+e.arms.length)(hk:e.kind≠1)(he:okE e)(hc:∀c∈cs,okE c):okE (AN e cs):=by
 obtain⟨_,_,h3,h4⟩:=BX hl;refine⟨Nf hl hk he.1.one fun c h=>(hc c h).1,?_,?_⟩
 .rw [D1,h3]
  exact⟨Lh h4 he.2.1.one,fun c h=>(hc c h).2.1⟩
 .rw [DB,h3]
  refine⟨fun a ha k=>?_,fun c h=>(hc c h).2.2⟩;obtain⟨i,hi⟩:=qn.1 ha;have:=h4 i;rw[hi]at this;cases hq:e.arms[i]? with
  |none=>rw[hq]at this;simp at this
  |some q=>
   rw[hq]at this;simp only[qv,qd]at this;rw[this];exact he.2.2.one q (qc hq) k
theorem Tl {e:Exp}{o:Option (Exp×Nat)}{p:Exp×Nat}(hk:e.kind≠1)(he:okE e)(hc:e.children≠[])(ho:∀q,o=some q->okE q.1)(h:o.map (fun p=>(AN e (p.1::e.children.tail),p.2))=some p):okE p.1:=by
 obtain⟨q,hq,rfl⟩:=qr.1 h;refine Z4 ?_ hk he fun c hcm=>?_
 .have:=e.children_len
  cases hcc:e.children with
  |nil=>exact absurd hcc hc
  |cons c l=>rw[hcc]at this;simpa using this
 .rcases qD.1 hcm with rfl|hcm
  .exact ho q hq
  .exact he.child (List.mem_of_mem_tail hcm)
theorem Y6 {e:Exp}{con:Str}{args:List Exp}{p:Exp×Nat}(he:okE e)(ha:∀a∈args,okE a)(h:Dn subP Aj e con args=some p):okE p.1:=by
 unfold Dn at h;cases hf:e.arms.find? fun a=>a.1.con==con with
 |none=>rw[hf]at h;cases h
 |some a=>
  rw[hf]at h;simp only at h;split at h
  .cases h
   have hm:=BA (qaK hf);refine(IM _ a.2 a.2 (HK a.2) (he.child hm) fun q hq=>?_).2;unfold GC at hq;rcases qp.1 hq with hq|hq
   .obtain ⟨r,_,rfl⟩:=qH.1 hq
    exact Et _
   .obtain ⟨⟨y,i⟩,hr,rfl⟩:=qH.1 hq
    exact ha y (qc (qar.1 hr))
  .cases h
theorem Jc {G:Exp->Exp->Exp}(hG:∀e f,okE e->e.kind=7->f∈e.children->okE (G e f)):∀(n:Nat) (e:Exp) (p:Exp×Nat),okE e->AV subP Aj G n e=some p->okE p.1
 |0,_,_,_,h=>by cases h
 |n+1,e,p,he,h=>by
  unfold AV at h;split at h
  .rename_i f a hk
   have hf:f∈e.children:=AO (by rw[hk];simp);have ha:a∈e.children:=AO (by rw[hk];simp);have hne:e.children≠[]:=fun q=>by rw[q]at hf;simp at hf
   split at h
   .rename_i h5
    split at h
    .split at h
     .rename_i k hfk
      cases h;exact C9 ((he.child hf).child (AO (by rw[hfk];simp))) (he.child ha)
     .cases h
    .exact Tl (by omega) he hne (fun q hq=>Jc hG n f q (he.child hf) hq) h
   .split at h
    .cases h
     exact C9 (he.child ha) (he.child hf)
    .split at h
     .rename_i h7
      cases h;exact C9 (he.child ha) (hG e f he h7 hf)
     .cases h
  .rename_i k hk
   have hm:k∈e.children:=AO (by rw[hk];simp);have hne:e.children≠[]:=fun q=>by rw[q]at hm;simp at hm
   split at h
   .cases h
    exact he.child hm
   .split at h
    .cases h
     exact he.child hm
    .split at h
     .rename_i h8
      split at h
      .exact Y6 he (N0 _ k [] (he.child hm) (by simp)).2 h
      .exact Tl (by omega) he hne (fun q hq=>Jc hG n k q (he.child hm) hq) h
     .cases h
  .cases h
def recZ (e:Exp):Prop:=e.fold fun e l=>(e.kind=7->e.num=0/\e.ty=tz)/\∀p∈l,p
theorem EY (e:Exp):recZ e=((e.kind=7->e.num=0/\e.ty=tz)/\∀x∈e.children,recZ x):=by
 have:=Exp.fold_eq (fun e (l:List Prop)=>(e.kind=7->e.num=0/\e.ty=tz)/\∀p∈l,p) e;unfold recZ;rw[this];simp only[qU]
theorem recZ.one {e:Exp}(h:recZ e):e.kind=7->e.num=0/\e.ty=tz:=by grind[EY]
theorem recZ.child {e x:Exp}(h:recZ e)(hx:x∈e.children):recZ x:=by grind[EY]
theorem isVar.recZ {s:Str}{c:Exp}(h:isVar s c):recZ c:=by
 obtain⟨k,_,_,ty,ks,am⟩:=h;grind[EY,Exp.children]
theorem instR.recZ (a:Exp):∀(c:Exp) (V:Rep),instR a c V->recZ a->(∀s d,V s d->recZ d)->recZ c:=by
 induction a using Exp.ind with
 |h a ih=>
  intro c V h ht hv;by_cases hk:a.kind=1
  .exact hv _ _ (h.var hk)
  .obtain ⟨h1,h2,h3,h4⟩:=h.node hk
   rw[EY];refine⟨fun q=>?_,fun y hy=>?_⟩
   .rw [<-h1.2.1,<-h1.2.2.1]
    exact ht.one (h1.1.trans q)
   .obtain ⟨i,hi⟩:=qn.1 hy
    obtain⟨x,hx⟩:=Ae (l:=a.children) (i:=i) (by rw[h1.children];grind);refine ih x (qc hx) y _ (h4 i x y hx hi) (ht.child (qc hx)) fun s d hd=>?_;rcases hd with ⟨_,t,_,_,hvv⟩|⟨_,q,_⟩
    .exact hvv.recZ
    grind
theorem I7 {x:Str}{e b:Exp}(he:okE e)(hb:okE b)(h:recZ e)(hr:recZ b):recZ (subP e x b):=by
 refine instR.recZ e _ _ (Gr x b hb.1 e.weight e (qg _) he.1 he.2.1) h fun s d hd=>?_;unfold subV at hd;split at hd;grind
 .exact hd.recZ
theorem ZaB (s:Str):recZ (varX s):=(show isVar s (varX s)from⟨rfl,rfl,rfl,rfl,rfl,rfl⟩).recZ
theorem Wa (a:Exp):∀b,sameP a b->recZ a->recZ b:=by
 induction a using Exp.ind with
 |h a ih=>
  intro b h ha;obtain⟨⟨h1,h2,h3,h4,_⟩,h8⟩:=BT.1 h;rw[EY];refine⟨fun q=>?_,fun y hy=>?_⟩
  .rw [<-h3,<-h4]
   exact ha.one (h1.trans q)
  .obtain ⟨i,hi⟩:=qn.1 hy
   obtain⟨x,hx⟩:=Ae (l:=a.children) (i:=i) (by rw[h.kids_len];grind);have hm:=qc hx;exact ih x hm y (h8 i x y hx hi) (ha.child hm)
theorem ZbC {e:Exp}(h:recZ e):recZ (Ai e):=Wa e _ (Ir e) h
def AG (e f:Exp):Exp:=.mk e.kind e.pos e.name e.num [f,f] e.arms e.ty
def Zf7 (e f:Exp):Exp:=.mk 7 0 e.name 0 [f,f] [] tz
theorem H7 {e f:Exp}(he:okE e)(hk:e.kind=7)(hf:f∈e.children):okE (AG e f):=by
 have ha:=he.1.one.1.2.1 (show ¬e.kind=8 by omega);have hc:(AG e f).children=[f,f]:=by grind[AG,B2]
 have hm:∀y∈(AG e f).children,y=f:=fun y hy=>by grind
 have hfo:=he.child hf;have hr:(AG e f).arms=[]:=ha;refine⟨?_,?_,?_⟩
 .rw [DD]
  refine⟨⟨⟨fun q=>?_,fun _=>ha,fun q=>?_⟩,fun q=>?_,?_⟩,fun y hy=>(hm y hy)▸hfo.1⟩
  .exact absurd (show e.kind=8 from q) (by omega)
  .exact absurd (show e.kind=1 from q) (by omega)
  .exact absurd (show e.kind=1 from q) (by omega)
  .have:=he.1.one.2.2
   show 2=DN e.kind;rw[hk];rfl
 .rw [D1,hr]
  exact⟨fun a h=>by grind,fun y hy=>(hm y hy)▸hfo.2.1⟩
 .rw [DB,hr]
  exact⟨fun a h=>by grind,fun y hy=>(hm y hy)▸hfo.2.2⟩
theorem VK {e:Exp}{cs:List Exp}(hl:cs.length=e.kids.length+e.arms.length)(he:recZ e)(hc:∀c∈cs,recZ c):recZ (AN e cs):=by
 rw[EY,(BX hl).2.2.1];exact⟨he.one,hc⟩
theorem YN {e f:Exp}(he:okE e)(h:recZ e)(hk:e.kind=7)(hf:f∈e.children):recZ (AG e f):=by
 have ha:=he.1.one.1.2.1 (show ¬e.kind=8 by omega);have hc:(AG e f).children=[f,f]:=by grind[AG,B2]
 rw[EY,hc];exact⟨fun _=>h.one hk,fun y hy=>by
  have:y=f:=by grind
  exact this▸h.child hf⟩
theorem Sb:∀(l:List (Str×Exp))(e:Exp),okE e->recZ e->(∀p∈l,okE p.2/\recZ p.2)->recZ (Az l e)
 |[],_,_,h,_=>h
 |p::l,e,he,h,hl=>by
  obtain⟨h1,h2⟩:=hl p (by simp);rw[DP];exact Sb l _ (C9 he h1) (I7 he h1 h h2) fun q hq=>hl q (by grind)
theorem P6:∀(n:Nat)(e:Exp)(l:List Exp),recZ e->(∀a∈l,recZ a)->∀a∈(Ds n e l).2,recZ a
 |0,_,_,_,hl=>hl
 |n+1,e,l,he,hl=>by
  unfold Ds;split
  .split
   .rename_i f a hk
    have hf:f∈e.children:=AO (by grind);have ha:a∈e.children:=AO (by grind);refine P6 n f (a::l) (he.child hf) fun b hb=>?_;rcases qD.1 hb with rfl|hb
    .exact he.child ha
    grind
   omega
  omega
theorem ZbV {e:Exp}{con:Str}{args:List Exp}{p:Exp×Nat}(he:okE e)(hr:recZ e)(ha:∀a∈args,okE a/\recZ a)(h:Dn subP Aj e con args=some p):recZ p.1:=by
 unfold Dn at h;cases hf:e.arms.find? fun a=>a.1.con==con with
 |none=>grind
 |some a=>
  rw[hf]at h;simp only at h;split at h
  .cases h
   have hm:=BA (qaK hf);refine Sb _ a.2 (he.child hm) (hr.child hm) fun q hq=>?_;grind[GC,Et,ZaB]
  grind
theorem Um {e:Exp}{o:Option (Exp×Nat)}{p:Exp×Nat}(he:recZ e)(hc:e.children≠[])(ho:∀q,o=some q->recZ q.1)(h:o.map (fun p=>(AN e (p.1::e.children.tail),p.2))=some p):recZ p.1:=by
 obtain⟨q,hq,rfl⟩:=qr.1 h;refine VK ?_ he fun c hcm=>?_
 .have:=e.children_len
  cases hcc:e.children<;>grind
 .rcases qD.1 hcm with rfl|hcm
  grind
  .exact he.child (List.mem_of_mem_tail hcm)
theorem LL:∀(n:Nat)(e:Exp)(p:Exp×Nat),okE e->recZ e->AV subP Aj AG n e=some p->recZ p.1
 |0,_,_,_,_,h=>by cases h
 |n+1,e,p,he,hr,h=>by
  unfold AV at h;split at h
  .rename_i f a hk
   have hf:f∈e.children:=AO (by grind);have ha:a∈e.children:=AO (by grind);have hne:e.children≠[]:=fun q=>by grind
   split at h
   .split at h
    .split at h
     .rename_i k hfk
      cases h;have hkf:=AO (e:=f) (x:=k) (by grind);exact I7 ((he.child hf).child hkf) (he.child ha) ((hr.child hf).child hkf) (hr.child ha)
     grind
    .exact Um hr hne (fun q hq=>LL n f q (he.child hf) (hr.child hf) hq) h
   .split at h
    .cases h
     exact I7 (he.child ha) (he.child hf) (hr.child ha) (hr.child hf)
    .split at h
     .rename_i h7
      cases h;exact I7 (he.child ha) (H7 he h7 hf) (hr.child ha) (YN he hr h7 hf)
     grind
  .rename_i k hk
   have hm:k∈e.children:=AO (by grind);have hne:e.children≠[]:=fun q=>by grind
   split at h
   .cases h
    exact hr.child hm
   .split at h
    .cases h
     exact hr.child hm
    .split at h
     .split at h
      .have hs:=(N0 k.weight k [] (he.child hm) (by simp)).2
       have hs2:=P6 k.weight k [] (hr.child hm) (by simp);grind[ZbV]
      .exact Um hr hne (fun q hq=>LL n k q (he.child hm) (hr.child hm) hq) h
     grind
  grind
theorem Zaf (n:Nat)(e:Exp)(p:Exp×Nat)(he:okE e)(hr:recZ e)(h:AV subP Aj AG n e=some p):okE (Ai p.1)/\recZ (Ai p.1):=
 ⟨Zco (Jc (fun _ _ q k hf=>H7 q k hf) n e p he h),ZbC (LL n e p he hr h)⟩
variable {A:Af}
def Ck (e:Exp):Nat->List Str
 |0=>[e.name]
 |i+1=>Ck e i++(match e.children[i]? with | some x=>e.bound i++allP x | none=>[])
theorem Nd {e x:Exp}{i:Nat}(h:e.children[i]?=some x):Ck e (i+1)=Ck e i++e.bound i++allP x:=by
 simp only[Ck,h,qau]
theorem M8 (e:Exp):Ck e e.children.length=allP e:=by
 have key:∀i,i<=e.children.length->Ck e i=e.name::(((e.children.map allP).zipIdx.take i).map fun p=>e.bound p.2++p.1).flatten:=by
  intro i
  induction i with
  |zero=>intro _;rfl
  |succ i ih=>
   intro hi;obtain⟨x,hx⟩:=Ae (l:=e.children) (i:=i) (by omega);have hz:((e.children.map allP).zipIdx)[i]?=some (allP x,i):=(by simp[hx]);rw[Nd hx,ih (by omega),Bh hz];simp
 rw[key _ (qg _),qj (by simp),OQ]
def Es (e:Exp):Nat->Nat
 |0=>0
 |i+1=>Es e i+(e.bound i).length
theorem Q7 (e:Exp)(hw:e.wf1)(hk:e.kind=8):∀i,i<=e.arms.length->Es e (i+1)<=((e.arms.take i).map fun a=>a.1.vars.length).sum
 |0,_=>by
  simp only[Es];rw[Bt,if_neg (by omega),if_neg (by omega)];simp
 |i+1,hi=>by
  obtain⟨a,ha⟩:=Ae (l:=e.arms) (i:=i) (by omega);have h:=Q7 e hw hk i (by omega);have hb:(e.bound (i+1)).length=a.1.vars.length:=by
   rw[Bt,if_neg (by omega),if_pos ⟨hk,by omega⟩,qaU,ha];rfl
  rw[Es,hb,Bh ha];simp only[qay,qba,qu,qaj,qaa,qbn];omega
theorem Uk (e:Exp)(hk:e.kind≠8):∀i,Es e i<=i
 |0=>qg _
 |i+1=>by
  have h:=Uk e hk i;simp only[Es];rcases XM hk i with hb|hb<;>rw[hb]<;>simp<;>omega
theorem E9 (e:Exp):e.wf->(allP e).length+1<=2*e.weight:=by
 induction e using Exp.ind with
 |h e ih=>
  intro hw;have key:∀i,i<=e.children.length->(Ck e i).length+i<=1+Es e i+2*((e.children.take i).map Exp.weight).sum:=by
   intro i
   induction i with
   |zero=>intro _;simp[Ck,Es]
   |succ i ihi=>
    intro hi;obtain⟨x,hx⟩:=Ae (l:=e.children) (i:=i) (by omega);have h1:=ihi (by omega);have h2:=ih x (qc hx) (hw.child (qc hx));rw[Nd hx,Bh hx];simp only[qP,qay,qba,qu,qaj,qaa,qbn,Es];omega
  have h:=key _ (qg _);rw[M8,qj (qg _)]at h;rw[e.weight_eq];by_cases hk:e.kind=8
  .have h1:=hw.one.1 hk
   have h2:=Q7 e hw.one hk e.arms.length (qg _);rw[qj (qg _)]at h2;rw[e.children_len,h1,Nat.add_comm 1]at h;omega
  .have h2:=Uk e hk e.children.length
   omega
theorem Zbn {e:Exp}(hw:e.wf):∀i,i<=e.children.length->(Ck e i).length<=(allP e).length:=by
 intro i hi;rw[<-M8];have:∀k,(Ck e i).length<=(Ck e (i+k)).length:=by
  intro k
  induction k with
  |zero=>exact qg _
  |succ k ih=>
   refine qt ih ?_;show _<=(Ck e (i+k)++_).length;rw[qP];omega
 have h:=this (e.children.length-i);rwa[show i+(e.children.length-i)=e.children.length by omega]at h
def nmL (e:Exp):Prop:=∀s∈allP e,s.length<=1000
theorem nmL.child {e x:Exp}{i:Nat}(h:nmL e)(hx:e.children[i]?=some x):nmL x:=fun s hs=>h s (A3.2 (.inr ⟨i,x,hx,.inr hs⟩))
theorem nmL.bound {e x:Exp}{i:Nat}(h:nmL e)(hx:e.children[i]?=some x):∀s∈e.bound i,s.length<=1000:=fun s hs=>h s (A3.2 (.inr ⟨i,x,hx,.inl hs⟩))
theorem Xm (frm to:Str)(e:Exp):∀s∈allP (repl frm to e),s∈allP e\/s=to:=by
 induction e using Exp.ind with
 |h e ih=>
  intro s hs;by_cases hk:e.kind=1
  .rw [EF hk] at hs
   by_cases hf:e.name=frm
   .rw [if_pos hf] at hs
    rcases A3.1 hs with h|⟨i,x,hx,h⟩
    .exact .inr h
    .refine .inl (A3.2 (.inr ⟨i,x,hx,h.imp (fun h => ?_) id⟩))
     rw[GO,if_neg (by omega)]at h;rw[Bt,if_neg (by omega)];exact h
   .rw [if_neg hf] at hs
    exact .inl hs
  .rw [Eg hk] at hs
   rcases A3.1 hs with h|⟨i,y,hy,h⟩
   .exact .inl (A3.2 (.inl h))
   .rw [(BX (replC_len frm to e)).2.2.1] at hy
    rw[HT (replC_len frm to e)]at h;obtain⟨x,hx⟩:=Ae (l:=e.children) (i:=i) (by have:=(qf.1 hy).1;rw[replC_len,<-e.children_len]at this;exact this);rw[DO hx]at hy;cases hy;rcases h with h|h
    .exact .inl (A3.2 (.inr ⟨i,x,hx,.inl h⟩))
    .split at h
     .exact .inl (A3.2 (.inr ⟨i,x,hx,.inr h⟩))
     .exact(ih x (qc hx) s h).imp (fun h=>A3.2 (.inr ⟨i,x,hx,.inr h⟩)) id
theorem Md {frm to:Str}{e:Exp}(h:nmL e)(ht:to.length<=1000):nmL (repl frm to e):=fun s hs=>(Xm frm to e s hs).elim (h s) fun q=>q▸ht
theorem F7 (n:Nat)(taken:List Str)(h:n+taken.length<=687194767360):(AI n taken).length<=1000:=by
 have h1:=N5 n taken;have h2:=LV (BR n taken) 13 (by omega) (by omega);unfold AI AJ;rw[qG];omega
theorem SU (taken:List Str)(ht:taken.length<=618475290624)(hs:∀s∈taken,s.length<=1000):(K A).call 241 [AM taken] []=some (strV (AI 0 taken),[]):=by
 refine fnO v241 ?_;have h:=Su (A:=A) 0 0 (by omega) (by omega) taken (by omega) ht (fun s h=>by have:=hs s h;omega);unfold v241;simp(maxSteps:=9^7) (disch:=try exact zd) [h,-getElem?_pos]
theorem Ro (e:Exp):e.wf->e.weight<=584115552256->(K A).call 242 [expV e] []=some (.sc (.arr 0 (allP e).length),[.arr 1 (wr (Aq (allP e))) 0]):=by
 induction e using Exp.ind with
 |h e ih=>
 intro hwf hl;refine fnO v242 ?_;have hle:=e.children_le;rw[e.children_len]at hle;have hpl:=E9 e hwf;have hend:=M8 e;by_cases hkids:e.kids=[]
 .have harms:e.arms=[]:=qM fun h=>by
   have h8:e.kind=8:=qM fun h8=>h (hwf.one.2.1 h8);have:=hwf.one.1 h8;rw[hkids]at this;simp at this
  have hc:=Dz (A:=A) e hkids harms;have hch:e.children=[]:=by simp[Exp.children,hkids,harms]
  rw[hch]at hend;simp only[qV,Ck]at hend;rw[<-hend];have hr:wr (Aq [e.name])=[[W.c (.str e.name)]]:=rfl;unfold v242;simp(maxSteps:=9^7) (disch:=try exact zd) [hc,hr,-getElem?_pos];refine Ap (fun i=>⟨[(1,.sc (.ptr 64 0)),(3,.sc (.arr 320 1)),(10,.sc (.full [])),(11,intV 0),(12,intV i)],[(64,some (.box (wc e.row))),(320,some (.arr 1 [[W.c (.str e.name)]] 0))]⟩) 0 ?_ (fun i hi=>by omega) ?_
  .simp
  .unfold JY
   simp(maxSteps:=9^7) (disch:=try exact zd) [hr,-getElem?_pos]
 .have hc:=B7 (A:=A) e hkids (by omega)
  rw[e.children_len]at hc hend;have h0:Ck e 0=[e.name]:=rfl;have hr:wr (Aq [e.name])=[[W.c (.str e.name)]]:=rfl;unfold v242;simp(maxSteps:=9^7) (disch:=try exact zd) [hc,-getElem?_pos];refine Ap (fun i=>⟨[(1,.sc (.ptr 64 0)),(3,.sc (.arr 320 (Ck e i).length)),(10,.sc (.arr 544 (e.kids.length+e.arms.length))),(11,intV ((e.kids.length:Int)+e.arms.length)),(12,intV i)],
   [(64,some (.box (wc e.row))),(320,some (.arr 1 (wr (Aq (Ck e i))) 0)),(544,some (.arr 11 (wr (Exp.rows e.children)) 0))]⟩) (e.kids.length+e.arms.length) ?_ ?_ ?_
  .simp[h0,hr]
  .intro i hi
   have hi1:i<e.children.length:=(by rw[e.children_len];exact hi);obtain⟨x,hx⟩:=Ae hi1;have hm:=qc hx;have hrec:=ih x hm (hwf.child hm) (by have:=Exp.child_lt hm;omega);have hb:=Ht (A:=A) e i hwf.one hi1 (by omega);have hs:=Nd hx;have hlen:=Zbn hwf (i+1) hi1;rw[hs]at hlen;rw[hs];simp only[qP]at hlen;have hi2:(i:Int)<(e.kids.length:Int)+e.arms.length:=(by omega);generalize Ck e i=ai at *
   generalize e.bound i=bi at *
   generalize allP x=ax at *
   unfold JY;simp(maxSteps:=9^7) (disch:=try exact zd) [hi,hi2,hx,hb,hrec,qbc,-getElem?_pos]
  .rw [hend]
   unfold JY;simp(maxSteps:=9^7) (disch:=try exact zd) [-getElem?_pos]
theorem S0 (frm to:Str)(e:Exp):e.wf->e.weight<=687194767360->(K A).call 243 [expV e,strV frm,strV to] []=some (expV (repl frm to e),[]):=by
 induction e using Exp.ind with
 |h e ih=>
 intro hwf hl;refine fnO v243 ?_;have hle:=e.children_le;rw[e.children_len]at hle;by_cases hk:e.kind=1
 .have hrow:wc (Exp.mk e.kind e.pos to e.num e.kids e.arms e.ty).row=[.c (.int .i64 e.kind),.c (.int .i64 e.pos),.c (.str to),.c (.int .i64 e.num),.c (.sl (Exp.rows e.kids)),.c (.sl (Exp.armRows e.arms)),.c (.int .i64 e.ty.kind),.c (.str e.ty.name),.c (.int .i64 e.ty.id),.c (.int .i64 e.ty.home),.c (.sl (Ty.rows e.ty.args))]:=by rw [Exp.row_eq];rfl
  have hrow0:wc e.row=[.c (.int .i64 e.kind),.c (.int .i64 e.pos),.c (.str e.name),.c (.int .i64 e.num),.c (.sl (Exp.rows e.kids)),.c (.sl (Exp.armRows e.arms)),.c (.int .i64 e.ty.kind),.c (.str e.ty.name),.c (.int .i64 e.ty.id),.c (.int .i64 e.ty.home),.c (.sl (Ty.rows e.ty.args))]:=by rw[Exp.row_eq];rfl
  rw[EF hk];unfold v243;by_cases hf:e.name=frm
  .rw [if_pos hf]
   rw[hk]at hrow hrow0 |-;simp(maxSteps:=9^7) (disch:=try exact zd) [hk,hf,hrow,hrow0,-getElem?_pos]
  .rw [if_neg hf]
   simp(maxSteps:=9^7) (disch:=try exact zd) [hk,hf,-getElem?_pos]
 .rw [Eg hk]
  have hCl:=replC_len frm to e;have hcg:=fun {i:Nat} {x:Exp} (h:e.children[i]?=some x)=>DO (frm:=frm) (to:=to) h;have hw:=FM (A:=A) e (CE frm to e) hCl (by omega);by_cases hkids:e.kids=[]
  .have harms:e.arms=[]:=qM fun h=>by
    have h8:e.kind=8:=qM fun h8=>h (hwf.one.2.1 h8);have:=hwf.one.1 h8;rw[hkids]at this;simp at this
   have hc:=Dz (A:=A) e hkids harms;have hC0:CE frm to e=[]:=qN.1 (by rw[hCl,hkids,harms];rfl);rw[hC0]at hw |-;have hr1:Exp.rows []=[]:=(by rw[Exp.rows]);have hr2:Exp.armRows []=[]:=(by rw[Exp.armRows]);have hz:AE [] []=[]:=rfl
   have hrow:wc (AN e []).row=[.c (.int .i64 e.kind),.c (.int .i64 e.pos),.c (.str e.name),.c (.int .i64 e.num),.c (.sl []),.c (.sl []),.c (.int .i64 e.ty.kind),.c (.str e.ty.name),.c (.int .i64 e.ty.id),.c (.int .i64 e.ty.home),.c (.sl (Ty.rows e.ty.args))]:=by
    rw[Exp.row_eq];simp[AN,harms,AE,hr1,hr2,Exp.kind,Exp.pos,Exp.name,Exp.num,Exp.kids,Exp.arms,Exp.ty,wc]
   simp only[exsV,hr1,hkids,harms,qV,List.take_nil,List.drop_nil,hz,hr2]at hw;unfold v243;simp(maxSteps:=9^7) (disch:=try exact zd) [hk,hc,-getElem?_pos];refine Ap (fun i=>⟨[(1,strV frm),(2,strV to),(3,.sc (.ptr 64 0)),(6,.sc (.ptr 128 0)),(7,.sc (.full [])),(22,.sc (.full [])),(23,intV 0),(24,intV i)],[(64,some (.box (wc e.row))),(128,some BS)]⟩) 0 ?_ (fun i hi=>by omega) ?_
   .simp
   .unfold Jr
    simp(maxSteps:=9^7) (disch:=try exact zd) [hw,hrow,-getElem?_pos]
  .have hc:=B7 (A:=A) e hkids (by omega)
   rw[e.children_len]at hc;have hC2:(CE frm to e).length=e.children.length:=(by rw[hCl,e.children_len]);have hkl:((CE frm to e).take e.kids.length).length=e.kids.length:=(by rw[qX,hCl];omega);have hal:(AE e.arms ((CE frm to e).drop e.kids.length)).length=e.arms.length:=(by rw[armsW_len,qae,hCl];omega)
   have hrow:wc (AN e (CE frm to e)).row=[.c (.int .i64 e.kind),.c (.int .i64 e.pos),.c (.str e.name),.c (.int .i64 e.num),.c (.sl (Exp.rows ((CE frm to e).take e.kids.length))),.c (.sl (Exp.armRows (AE e.arms ((CE frm to e).drop e.kids.length)))),.c (.int .i64 e.ty.kind),.c (.str e.ty.name),.c (.int .i64 e.ty.id),.c (.int .i64 e.ty.home),.c (.sl (Ty.rows e.ty.args))]:=(by rw[Exp.row_eq];rfl)
   generalize AN e (CE frm to e)=we at *
   generalize CE frm to e=cc at *
   unfold v243;simp(maxSteps:=9^7) (disch:=try exact zd) [hk,hc,-getElem?_pos];refine Ap (fun i=>⟨[(1,strV frm),(2,strV to),(3,.sc (.ptr 64 0)),(6,.sc (.ptr 128 0)),(7,.sc (.arr 1056 (e.kids.length+e.arms.length))),(22,.sc (.arr 1056 (e.kids.length+e.arms.length))),(23,intV ((e.kids.length:Int)+e.arms.length)),(24,intV i)],
    [(64,some (.box (wc e.row))),(128,some BS),(1056,some (.arr 11 (wr (Exp.rows (cc.take i++e.children.drop i))) 0))]⟩) (e.kids.length+e.arms.length) ?_ ?_ ?_
   .simp
   .intro i hi
    have hi1:i<e.children.length:=(by rw[e.children_len];exact hi);obtain⟨x,hx⟩:=Ae hi1;have hm:=qc hx;have hrec:=ih x hm (hwf.child hm) (by have:=Exp.child_lt hm;omega);have hb:=Ht (A:=A) e i hwf.one hi1 (by omega);have hbl:=qt (e.bound_le i) hl;have hco:=EH (A:=A) (e.bound i) frm (by omega);have hcx:=hcg hx;have hg:=Dv (i:=i) hC2 hi1;rw[hx]at hg;have hst:=Dh hC2 hcx;have hln:=Du (i:=i) hC2
    rw[e.children_len]at hln;have hi2:(i:Int)<(e.kids.length:Int)+e.arms.length:=(by omega);have hset:=fun y=>Eh (cc.take i++e.children.drop i) i y;rw[<-hst];generalize cc.take i++e.children.drop i=zr at *
    unfold Jr;by_cases hf:frm∈e.bound i
    .have hsame:zr.set i x=zr:=by
      refine qJ fun m=>?_;rw[qaM];split
      .rename_i h
       subst h;rw[hg];split
       .rfl
       .omega
      .rfl
     rw[if_pos hf,hsame];simp(maxSteps:=9^7) (disch:=try exact zd) [hi,hi2,hg,hln,hb,hco,hf,BC,-getElem?_pos]
    .rw [if_neg hf]
     simp(maxSteps:=9^7) (disch:=try exact zd) [hi,hi2,hg,hln,hb,hco,hf,hrec,hset,BC,-getElem?_pos]
   .have htk:cc.take (e.kids.length+e.arms.length)++e.children.drop (e.kids.length+e.arms.length)=cc:=by
     rw[qak (by rw[e.children_len];omega),qL,qj (by omega)]
    rw[htk];unfold Jr;simp(maxSteps:=9^7) (disch:=try exact zd) [hw,hrow,hkl,hal,hCl,-getElem?_pos]
end Go.Vs.Tryz
namespace Go.Vs
open Go
section
variable {L:Nat->Option Obj}
@[simp] theorem toC_vw {d k N lo n:Nat}:W.toC L (d+1) (.vw k N lo n)=arrK (L k) fun _ rows _=>bif rows.length==N&&Nat.ble (lo+n) N then (Ab (Ab (W.toC L d)) ((rows.drop lo).take n)).map .sl else none:=by
 simp only[W.toC,arrK];cases L k with
 |none=>rfl
 |some o=>cases o<;>rfl
@[simp] theorem ids_vw {d k N lo n:Nat}:W.ids L (d+1) (.vw k N lo n)=k::(match L k with | some (.arr _ rows _)=>rows.flatMap (·.flatMap (W.ids L d)) | _=>[]):=rfl
end
theorem TM (rows:List (List Cell))(i n:Nat)(h:n=rows.length):((wr rows).drop i).take (n-i)=wr (rows.drop i):=by
 subst h;unfold wr;rw[<-List.map_drop,qj (by simp)]
end Go.Vs
namespace Go.Vs.Tryz
open Go Go.Vs
variable {A:Af}
abbrev Bm (x:Str)(b:Exp)(free:List Str):List W:=[.c (.str x),.c (.int .i64 b.kind),.c (.int .i64 b.pos),.c (.str b.name),.c (.int .i64 b.num),.c (.sl (Exp.rows b.kids)),.c (.sl (Exp.armRows b.arms)),.c (.int .i64 b.ty.kind),.c (.str b.ty.name),.c (.int .i64 b.ty.id),.c (.int .i64 b.ty.home),.c (.sl (Ty.rows b.ty.args)),.c (.sl (Aq free))]
theorem Zam (x:Str)(b:Exp)(free:List Str)(e:Exp)(hw:e.wf)(hl:e.weight<=687194767360):(K A).call 258 [expV e,.sc (.ptr 0 0)] [.box (Bm x b free)]=some (Ac (decide (x∈Ag e)),[.box (Bm x b free)]):=by
 refine fnO v258 ?_;have h1:=Qe (A:=A) e hw hl;have h2:=EH (A:=A) (Ag e) x (by have:=G2 e;omega);unfold v258;simp(maxSteps:=9^7) (disch:=try exact zd) [h1,h2,-getElem?_pos]
theorem ZaP (x:Str)(b:Exp)(free:List Str)(l:List Exp)(hn:l.length<=687194767360)(hw:∀e∈l,e.wf/\e.weight<=687194767360):
 ∃r,(∃z:Int,(0<=z↔∃e∈l,x∈Ag e)/\r=(intV z,[Obj.box (Bm x b free)]))/\(K A).call 148 [exsV l,.sc (.clo 258 [true] [[.ptr 0 0]])] [.box (Bm x b free)]=some r:=by
 refine fnE v148 ?_;unfold v148;simp(disch:=try exact zd);refine Ak (fun i s=>(∀(j:Nat) e,j<i->l[j]?=some e->x∉Ag e)/\s=⟨[(0,exsV l),(1,.sc (.clo 258 [true] [[.ptr 0 0]])),(7,intV l.length),(8,intV i)],[(0,some (.box (Bm x b free)))]⟩) l.length ⟨by omega,by simp⟩ ?_ ?_
 .rintro i s hi ⟨hs,rfl⟩
  obtain⟨e,he⟩:=Ae hi;have hm:=qc he;have hc:=Zam (A:=A) x b free e (hw e hm).1 (hw e hm).2;unfold HP;by_cases hx:x∈Ag e
  .simp (maxSteps:=9^7) (disch:=try exact zd) [hi,he,hc,hx,-getElem?_pos]
   exact⟨e,hm,hx⟩
  .simp (maxSteps:=9^7) (disch:=try exact zd) [hi,he,hc,hx,-getElem?_pos]
   intro j e' hj he';by_cases hji:j=i
   .subst hji
    rw[he]at he';cases he';exact hx
   .exact hs j e' (by omega) he'
 .rintro s ⟨hs,rfl⟩
  unfold HP;simp(maxSteps:=9^7) (disch:=try exact zd) [-getElem?_pos];intro e he;obtain⟨j,hj⟩:=qn.1 he;exact hs j e (qf.1 hj).1 hj
theorem Wj (x:Str)(b:Exp)(free:List Str)(l:List Exp)(hn:l.length<=687194767360)(hw:∀e∈l,e.wf/\e.weight<=687194767360):
 (K A).call 98 [exsV l,.sc (.clo 258 [true] [[.ptr 0 0]])] [.box (Bm x b free)]=some (Ac (decide (∃e∈l,x∈Ag e)),[.box (Bm x b free)]):=by
 refine fnO v98 ?_;obtain⟨_,⟨z,hz,rfl⟩,hc⟩:=ZaP (A:=A) x b free l hn hw;have hd:decide (∃e∈l,x∈Ag e)=decide (0<=z):=by rw[decide_eq_decide];exact hz.symm
 rw[hd];unfold v98;simp(maxSteps:=9^7) (disch:=try exact zd) [hc,-getElem?_pos]
theorem Qn (x:Str)(b:Exp)(free:List Str)(n:Str)(l:List Exp)(hf:free.length<=1649267441664)(hn:l.length<=687194767360)(hw:∀e∈l,e.wf/\e.weight<=687194767360):
 (K A).call 240 [.ag (Bm x b free),strV n,exsV l] []=some (Ac (decide (hitP x free n l)),[]):=by
 refine fnO v240 ?_;have h1:=EH (A:=A) free n hf;have h2:=Wj (A:=A) x b free l hn hw;unfold v240;by_cases hm:n∈free
 .have hd:decide (hitP x free n l)=decide (∃e∈l,x∈Ag e):=by
   rw[decide_eq_decide];exact⟨fun h=>h.2,fun h=>⟨hm,h⟩⟩
  rw[hd];generalize decide (∃e∈l,x∈Ag e)=v at *
  simp(maxSteps:=9^7) (disch:=try exact zd) [h1,h2,hm,-getElem?_pos]
 .have hd:decide (hitP x free n l)=false:=by
   rw[decide_eq_false_iff_not];exact fun h=>hm h.1
  rw[hd];simp(maxSteps:=9^7) (disch:=try exact zd) [h1,hm,-getElem?_pos]
def Fi (x:Str)(free:List Str)(e:Exp):List Exp:=e.kids.zipIdx.map fun p=>if p.2<AB e then p.1 else repl e.name (AI 0 (allP e++free++[x])) p.1
theorem ZbX (x:Str)(b:Exp)(free:List Str)(e:Exp)(hs:shp e)(hk:e.kind=4\/e.kind=6\/e.kind=7)(hl:e.weight<=100000000000)(hfl:free.length<=100000000000)(hn:nmL e)(hnf:∀s∈free,s.length<=1000)(hx:x.length<=1000):
 (K A).call 222 [.ag (Bm x b free),expV e] []=some (expV (CG x free e),[]):=by
 refine fnO v222 ?_;obtain⟨ha,hch⟩:=Ef (by omega) hs.one;have hkl:AB e<e.kids.length/\e.kids.length<=2:=by
  have h:=hs.one.2.2;unfold DN at h;unfold AB;rcases hk with k|k|k
  .rw [if_neg (by omega),if_pos (by omega)] at h
   rw[if_neg (by omega),h];decide
  .rw [if_pos (by omega)] at h
   rw[if_pos (by omega),h];decide
  .rw [if_pos (by omega)] at h
   rw[if_neg (by omega),h];decide
 obtain⟨hk1,hk2⟩:=hkl;have hkw:∀y∈e.kids,y.wf/\y.weight<=100000000000:=fun y hy=>⟨(hs.child (AO hy)).wf,by have:=Exp.child_lt (AO hy);omega⟩;have hkne:e.kids≠[]:=fun h=>by rw[h]at hk1;simp at hk1
 have hc:=Ra (A:=A) e.kids hkne (by omega);have hhit:=Qn (A:=A) x b free e.name (e.kids.drop (AB e)) (by omega) (by rw[qae];omega) (fun y hy=>by have:=hkw y (List.mem_of_mem_drop hy);exact⟨this.1,by omega⟩);have hall:=Ro (A:=A) e hs.wf (by omega);have hal:=E9 e hs.wf;have hfr:=SU (A:=A) (allP e++free++[x]) (by simp;omega) (fun s h=>by
  simp only[qp,qk]at h;rcases h with (h|h)|h
  .exact hn s h
  .exact hnf s h
  .exact h▸hx)
 have hrow0:wc e.row=[.c (.int .i64 e.kind),.c (.int .i64 e.pos),.c (.str e.name),.c (.int .i64 e.num),.c (.sl (Exp.rows e.kids)),.c (.sl (Exp.armRows e.arms)),.c (.int .i64 e.ty.kind),.c (.str e.ty.name),.c (.int .i64 e.ty.id),.c (.int .i64 e.ty.home),.c (.sl (Ty.rows e.ty.args))]:=by rw[Exp.row_eq];rfl
 have hvw:∀i,((wr (Exp.rows e.kids)).drop i).take (e.kids.length-i)=wr (Exp.rows (e.kids.drop i)):=fun i=>by
  rw[TM _ _ _ (by simp),Exp.rows_map,Exp.rows_map,List.map_drop]
 have hbin:CG x free e=if e.name=x\/¬hitP x free e.name (e.kids.drop (AB e)) then e else .mk e.kind e.pos (AI 0 (allP e++free++[x])) e.num (Fi x free e) e.arms e.ty:=by
  unfold CG;by_cases h1:e.name=x
  .rw[if_pos (.inl h1),if_pos (.inl h1)]
  .by_cases h2:hitP x free e.name (e.kids.drop (AB e))
   .rw [if_neg (fun q=>q.elim h1 fun q=>q.elim (fun q=>by omega) fun q=>q h2),if_neg (fun q=>q.elim h1 fun q=>q h2)]
    rfl
   .rw[if_pos (.inr (.inr h2)),if_pos (.inr h2)]
 have hsc:(AB e:Int)=if e.kind=6 then 1 else 0:=by unfold AB;split<;>rfl
 have hge:¬(e.kids.length:Int)<=AB e:=by omega
 have hKl:(Fi x free e).length=e.kids.length:=by simp[Fi]
 have hKg:∀(i:Nat) y,e.kids[i]?=some y->(Fi x free e)[i]?=some (if i<AB e then y else repl e.name (AI 0 (allP e++free++[x])) y):=fun i y h=>by simp[Fi,h]
 have hK0:(Fi x free e).take (AB e)++e.kids.drop (AB e)=e.kids:=by
  refine qJ fun i=>?_;by_cases hi:i<AB e
  .obtain ⟨y,hy⟩:=Ae (l:=e.kids) (i:=i) (by omega)
   rw[qF (by rw[qX];omega),qW,if_pos hi,hKg i y hy,if_pos hi,hy]
  .rw[qS (by rw[qX];omega),qX,qag,show AB e+(i-min (AB e) (Fi x free e).length)=i by omega]
 have hrowR:∀to ks,wc (Exp.mk e.kind e.pos to e.num ks e.arms e.ty).row=[.c (.int .i64 e.kind),.c (.int .i64 e.pos),.c (.str to),.c (.int .i64 e.num),.c (.sl (Exp.rows ks)),.c (.sl (Exp.armRows e.arms)),.c (.int .i64 e.ty.kind),.c (.str e.ty.name),.c (.int .i64 e.ty.id),.c (.int .i64 e.ty.home),.c (.sl (Ty.rows e.ty.args))]:=fun to ks=>by rw[Exp.row_eq];rfl
 rw[hbin];clear hbin;have hv0:=hvw 0;have hv1:=hvw 1;simp only[Nat.sub_zero,qbg]at hv0;generalize hS:AB e=sc at *
 unfold v222;refine EG ⟨[(2,.sc (.ptr 64 0)),(3,.sc (.ptr 128 0)),(4,.sc (.ptr 192 0))],[(64,some (.box (Bm x b free))),(128,some (.box (wc e.row))),(192,some BS)]⟩ (by simp) ?_
 refine EG ⟨[(2,.sc (.ptr 64 0)),(3,.sc (.ptr 128 0)),(4,.sc (.ptr 192 0)),(5,.sc (.arr 416 e.kids.length))],[(64,some (.box (Bm x b free))),(128,some (.box (wc e.row))),(192,some BS),(416,some (.arr 11 (wr (Exp.rows e.kids)) 0))]⟩ (by simp(disch:=try exact zd) [hc]) ?_
 refine EG ⟨[(2,.sc (.ptr 64 0)),(3,.sc (.ptr 128 0)),(4,.sc (.ptr 192 0)),(5,.sc (.arr 416 e.kids.length)),(6,intV 0)],[(64,some (.box (Bm x b free))),(128,some (.box (wc e.row))),(192,some BS),(416,some (.arr 11 (wr (Exp.rows e.kids)) 0))]⟩ (by simp) ?_;by_cases h1:e.name=x
 .rw [if_pos (.inl h1)]
  subst h1;by_cases h6:e.kind=6
  .simp(maxSteps:=9^7) (disch:=try exact zd) [h6,hrow0,-getElem?_pos]
  .simp(maxSteps:=9^7) (disch:=try exact zd) [h6,hrow0,-getElem?_pos]
 .by_cases h2:hitP x free e.name (e.kids.drop sc)
  .rw [if_neg (fun q=>q.elim h1 fun q=>q h2)]
   refine UZ ⟨[(2,.sc (.ptr 64 0)),(3,.sc (.ptr 128 0)),(4,.sc (.ptr 192 0)),(5,.sc (.arr 416 e.kids.length)),(6,intV (sc:Int)),(35,Ac false)],[(64,some (.box (Bm x b free))),(128,some (.box (wc e.row))),(192,some BS),(416,some (.arr 11 (wr (Exp.rows e.kids)) 0))]⟩ (by
    by_cases h6:e.kind=6
    .rw [if_pos h6] at hsc
     have hsc1:sc=1:=(by omega);subst hsc1;have hg1:¬(e.kids.length:Int)<=1:=(by omega);have hsl:∀L:Nat->Option Obj,Bk L 11 (.sc (.arr 416 e.kids.length)) (some (.sc (.c (.int .i64 1)))) none none=arrK (L 416) fun s' rows _=>bif rows.length==e.kids.length&&s'==11 then some (.sc (.vw 416 e.kids.length 1 (e.kids.length-1)),[]) else none:=fun L=>slice_arr_from (i:=1) (by omega)
     have hle1:1+(e.kids.length-1)=e.kids.length:=(by omega);simp(maxSteps:=9^7) (disch:=try exact zd) [h1,h2,h6,hg1,hsl,hle1,hkne,hhit,hv1,-List.drop_one,-getElem?_pos]
    .rw [if_neg h6] at hsc
     have hsc0:sc=0:=(by omega);subst hsc0;rw[qbg]at hhit h2;have hsl:∀L:Nat->Option Obj,Bk L 11 (.sc (.arr 416 e.kids.length)) (some (.sc (.c (.int .i64 0)))) none none=arrK (L 416) fun s' rows _=>bif rows.length==e.kids.length&&s'==11 then some (.sc (.vw 416 e.kids.length 0 (e.kids.length-0)),[]) else none:=fun L=>slice_arr_from (i:=0) (by omega)
     simp(maxSteps:=9^7) (disch:=try exact zd) [h1,h2,h6,hsl,hkne,hhit,hv0,-getElem?_pos]) ?_
   generalize allP e=ap at *
   generalize AI 0 (ap++free++[x])=to at *
   generalize Fi x free e=kr at *
   rw[qau]at hfr;simp(maxSteps:=9^7) (disch:=try exact zd) [hall,hfr,qbc,-getElem?_pos]
   refine Ap (fun j=>⟨[(3,.sc (.ptr 128 0)),(4,.sc (.ptr 192 0)),(5,.sc (.arr 416 e.kids.length)),(7,strV to),(8,intV ((sc+j:Nat):Int))],[(128,some (.box (wc e.row))),(192,some BS),(416,some (.arr 11 (wr (Exp.rows (kr.take (sc+j)++e.kids.drop (sc+j)))) 0)),(2400,some (.arr 1 (wr (Aq (ap++(free++[x])))) 0))]⟩) (e.kids.length-sc) ?_ ?_ ?_
   .simp[hK0]
   .intro j hj
    obtain⟨y,hy⟩:=Ae (l:=e.kids) (i:=sc+j) (by omega);have hyw:=hkw y (qc hy);have hz:=hKg (sc+j) y hy;rw[if_neg (by omega)]at hz;have hg:=Dv (i:=sc+j) hKl (by omega);rw[hy]at hg;have hst:=Dh hKl hz;have hln:=Du (i:=sc+j) hKl;have hrep:=S0 (A:=A) e.name to y hyw.1 (by omega);rw[show sc+(j+1)=sc+j+1 from rfl,<-hst];generalize kr.take (sc+j)++e.kids.drop (sc+j)=zr at *
    have hset:=Eh zr (sc+j) (repl e.name to y);have hlt:((sc+j:Nat):Int)<e.kids.length:=(by omega);have hltn:sc+j<e.kids.length:=(by omega);have hcast:((sc+j+1:Nat):Int)=((sc+j:Nat):Int)+1:=(by omega);rw[hcast];generalize sc+j=q at *
    unfold M2;simp(maxSteps:=9^7) (disch:=try exact zd) [hlt,hltn,hg,hln,hrep,hset,BC,-getElem?_pos]
   .have htk:kr.take (sc+(e.kids.length-sc))++e.kids.drop (sc+(e.kids.length-sc))=kr:=by
     rw[show sc+(e.kids.length-sc)=e.kids.length by omega,qak (by omega),qL,qj (by omega)]
    have hlt:¬((sc+(e.kids.length-sc):Nat):Int)<e.kids.length:=(by omega);rw[htk];generalize sc+(e.kids.length-sc)=q at *
    unfold M2;simp(maxSteps:=9^7) (disch:=try exact zd) [hlt,hrow0,hrowR,hKl,BC,-getElem?_pos]
  .rw [if_pos (.inr h2)]
   by_cases h6:e.kind=6
   .rw [if_pos h6] at hsc
    have hsc1:sc=1:=(by omega);subst hsc1;have hg1:¬(e.kids.length:Int)<=1:=(by omega);have hsl:∀L:Nat->Option Obj,Bk L 11 (.sc (.arr 416 e.kids.length)) (some (.sc (.c (.int .i64 1)))) none none=arrK (L 416) fun s' rows _=>bif rows.length==e.kids.length&&s'==11 then some (.sc (.vw 416 e.kids.length 1 (e.kids.length-1)),[]) else none:=fun L=>slice_arr_from (i:=1) (by omega)
    have hle1:1+(e.kids.length-1)=e.kids.length:=(by omega);simp(maxSteps:=9^7) (disch:=try exact zd) [h1,h2,h6,hg1,hsl,hle1,hkne,hhit,hv1,-List.drop_one,hrow0,-getElem?_pos]
   .rw [if_neg h6] at hsc
    have hsc0:sc=0:=(by omega);subst hsc0;rw[qbg]at hhit h2;have hsl:∀L:Nat->Option Obj,Bk L 11 (.sc (.arr 416 e.kids.length)) (some (.sc (.c (.int .i64 0)))) none none=arrK (L 416) fun s' rows _=>bif rows.length==e.kids.length&&s'==11 then some (.sc (.vw 416 e.kids.length 0 (e.kids.length-0)),[]) else none:=fun L=>slice_arr_from (i:=0) (by omega)
    simp(maxSteps:=9^7) (disch:=try exact zd) [h1,h2,h6,hsl,hkne,hhit,hv0,hrow0,-getElem?_pos]
variable {A:Af}
theorem Ko {x:Str}{free vars:List Str}{b:Exp}(hn:inj vars)(hx:x∉vars)(hs:shp b)(hp:properP b)(hl:b.weight+vars.length+free.length<=300000000000)(hb:nmL b)(hv:∀s∈vars,s.length<=1000):
 ∀k,k<=vars.length->nmL (BF x free vars b k).2/\∀s∈(BF x free vars b k).1,s.length<=1000
 |0,_=>⟨hb,hv⟩
 |k+1,hk=>by
  obtain⟨h1,h2⟩:=Ko (free:=free) hn hx hs hp hl hb hv k (by omega);have ho:=GW (free:=free) hn hx hs hp k (by omega);rw[GM];generalize BF x free vars b k=p at *
  obtain⟨vs,bk⟩:=p;simp only at *
  unfold D3;simp only;cases hv2:vs[k]? with
  |none=>exact⟨h1,h2⟩
  |some v=>
   simp only;split
   .exact⟨h1,h2⟩
   .have hal:=E9 bk ho.shape.wf
    have hf:=F7 0 (allP bk++vs++free++[x]) (by have:=ho.weight;have:=ho.len;simp;omega);refine⟨Md h1 hf,fun s hs=>?_⟩;rcases KM hs with hs|hs
    .exact h2 s hs
    .exact hs▸hf
theorem Xf (x:Str)(b:Exp)(free:List Str)(a:ArmH×Exp)(hi:inj a.1.vars)(hs:shp a.2)(hp:properP a.2)(hl:a.2.weight+a.1.vars.length+free.length<=300000000000)(hn:nmL a.2)(hv:∀s∈a.1.vars,s.length<=1000)(hnf:∀s∈free,s.length<=1000)(hxl:x.length<=1000):
 (K A).call 224 [.ag (Bm x b free),armV a] []=some (armV (armP x free a),[]):=by
 refine fnO v224 ?_;have hc0:=EH (A:=A) a.1.vars x (by omega);unfold armP;unfold v224;by_cases hx:x∈a.1.vars
 .rw [if_pos hx]
  have hrow:wc (AH a)=[.c (.int .i64 a.1.pos),.c (.str a.1.con),.c (.sl (Aq a.1.vars)),.c (.int .i64 a.2.kind),.c (.int .i64 a.2.pos),.c (.str a.2.name),.c (.int .i64 a.2.num),.c (.sl (Exp.rows a.2.kids)),.c (.sl (Exp.armRows a.2.arms)),.c (.int .i64 a.2.ty.kind),.c (.str a.2.ty.name),.c (.int .i64 a.2.ty.id),.c (.int .i64 a.2.ty.home),.c (.sl (Ty.rows a.2.ty.args))]:=by rw[AH,Exp.row_eq];rfl
  simp(maxSteps:=9^7) (disch:=try exact zd) [hc0,hx,hrow,-getElem?_pos]
 .rw [if_neg hx]
  have hok:=GW (free:=free) hi hx hs hp;have hnm:=Ko (free:=free) hi hx hs hp hl hn hv;have hst:=GM x free a.1.vars a.2;have h0:BF x free a.1.vars a.2 0=(a.1.vars,a.2):=rfl;have hcl:=ZdQ (A:=A) a.1.vars (by omega);obtain⟨⟨ap,ac,vars⟩,ab⟩:=a;simp only at *
  have hsp0:splice (wc (AH ((⟨ap,ac,vars⟩:ArmH),ab))) 2 [W.arr 864 vars.length]=some (W.c (.int .i64 ap)::W.c (.str ac)::W.arr 864 vars.length::wc ab.row):=by
   rw[AH,Exp.row_eq ab];rfl
  have hcu2:∀y:Exp,cut (W.c (.int .i64 ap)::W.c (.str ac)::W.arr 864 vars.length::wc y.row) 2 1=some [W.arr 864 vars.length]:=by
   intro y;rw[Exp.row_eq y];rfl
  have hcu3:∀y:Exp,cut (W.c (.int .i64 ap)::W.c (.str ac)::W.arr 864 vars.length::wc y.row) 3 11=some (wc y.row):=by
   intro y;rw[Exp.row_eq y];rfl
  have hsp3:∀y z:Exp,splice (W.c (.int .i64 ap)::W.c (.str ac)::W.arr 864 vars.length::wc y.row) 3 (wc z.row)=some (W.c (.int .i64 ap)::W.c (.str ac)::W.arr 864 vars.length::wc z.row):=by
   intro y z;rw[Exp.row_eq y,Exp.row_eq z];rfl
  simp(maxSteps:=9^7) (disch:=try exact zd) [hc0,hx,hcl,hsp0,hcu2,-getElem?_pos];refine Ap (fun k=>⟨[(2,.sc (.ptr 64 0)),(3,.sc (.ptr 128 0)),(4,.sc (.ptr 192 0)),(19,.sc (.arr 864 vars.length)),(20,intV vars.length),(21,intV k)],
   [(64,some (.box (Bm x b free))),(128,some (.box (W.c (.int .i64 ap)::W.c (.str ac)::W.arr 864 vars.length::wc (BF x free vars ab k).2.row))),(192,some (.box [zi,zs,.nil,zi,zi,zs,zi,.nil,.nil,zi,zs,zi,zi,.nil])),(864,some (.arr 1 (wr (Aq (BF x free vars ab k).1)) 0))]⟩) vars.length ?_ ?_ ?_
  .simp[h0]
  .intro k hk
   have ho:=hok k (by omega);obtain⟨hn1,hn2⟩:=hnm k (by omega);rw[hst k];generalize BF x free vars ab k=p at *
   obtain⟨vs,bk⟩:=p;simp only at *
   have hvl:=ho.len;have hw:=ho.weight;obtain⟨v,hvk⟩:=Ae (l:=vs) (i:=k) (by omega);have hct:=EH (A:=A) (vs.drop (k+1)) v (by rw[qae];omega);have hhit:=Qn (A:=A) x b free v [bk] (by omega) (by simp) (fun y hy=>by rw[qk.1 hy];exact⟨ho.shape.wf,by omega⟩);have hex:Exp.rows [bk]=[bk.row]:=(by rw[Exp.rows,Exp.rows]);simp only[exsV,hex]at hhit;have hall:=Ro (A:=A) bk ho.shape.wf (by omega)
   have hal:=E9 bk ho.shape.wf;have hfr:=SU (A:=A) (allP bk++vs++free++[x]) (by simp;omega) (fun s h=>by
    simp only[qp,qk]at h;rcases h with ((h|h)|h)|h
    .exact hn1 s h
    .exact hn2 s h
    .exact hnf s h
    .exact h▸hxl)
   have hkI:(k:Int)<vars.length:=(by omega);have hsl:∀L:Nat->Option Obj,Bk L 1 (.sc (.arr 864 vars.length)) (some (.sc (.c (.int .i64 ((k:Int)+1))))) none none=arrK (L 864) fun s' rows _=>bif rows.length==vars.length&&s'==1 then some (.sc (.vw 864 vars.length (k+1) (vars.length-(k+1))),[]) else none:=fun L=>slice_arr_from (i:=k+1) (by omega)
   have hvw:((wr (Aq vs)).drop (k+1)).take (vars.length-(k+1))=wr (Aq (vs.drop (k+1))):=by
    rw[TM _ _ _ (by simp;omega)];simp[Aq]
   have hkle:k+1+(vars.length-(k+1))=vars.length:=(by omega);unfold D3;simp only[hvk];have wbk:∀L d,Ab (W.toC L d) (wc bk.row)=some bk.row:=fun L d=>by simp
   unfold MQ;by_cases hd:v∈vs.drop (k+1)
   .rw [if_pos (.inl hd)]
    simp(maxSteps:=9^7) (disch:=try exact zd) [hkI,hvk,hvl,hcu2,hsl,hvw,hkle,hct,hd,-getElem?_pos]
   .by_cases hh:hitP x free v [bk]
    .rw [if_neg (fun q=>q.elim hd fun q=>q hh)]
     have hrep:=fun to=>S0 (A:=A) v to bk ho.shape.wf (by omega);generalize allP bk=al at *
     generalize AI 0 (al++vs++free++[x])=to at *
     simp only[qau]at hfr;have hset:=Zdq vs k to;simp(maxSteps:=9^7) (disch:=try exact zd) [hk,hkI,hvk,hvl,hcu2,hcu3,hsp3,hsl,hvw,hkle,hct,hd,hhit,hh,hall,hfr,hrep,hset,qbc,-getElem?_pos]
    .rw [if_pos (.inr hh)]
     simp(maxSteps:=9^7) (disch:=try exact zd) [hkI,hvk,hvl,hcu2,hcu3,hsl,hvw,hkle,hct,hd,hhit,hh,-getElem?_pos]
  .have ho:=hok vars.length (qg _)
   generalize BF x free vars ab vars.length=p at *
   obtain⟨vs,bk⟩:=p;simp only at *
   have hvl:=ho.len
   have hrow:wc (AH ((⟨ap,ac,vs⟩:ArmH),bk))=[.c (.int .i64 ap),.c (.str ac),.c (.sl (Aq vs)),.c (.int .i64 bk.kind),.c (.int .i64 bk.pos),.c (.str bk.name),.c (.int .i64 bk.num),.c (.sl (Exp.rows bk.kids)),.c (.sl (Exp.armRows bk.arms)),.c (.int .i64 bk.ty.kind),.c (.str bk.ty.name),.c (.int .i64 bk.ty.id),.c (.int .i64 bk.ty.home),.c (.sl (Ty.rows bk.ty.args))]:=(by rw[AH,Exp.row_eq];rfl)
   have hrowb:wc bk.row=[.c (.int .i64 bk.kind),.c (.int .i64 bk.pos),.c (.str bk.name),.c (.int .i64 bk.num),.c (.sl (Exp.rows bk.kids)),.c (.sl (Exp.armRows bk.arms)),.c (.int .i64 bk.ty.kind),.c (.str bk.ty.name),.c (.int .i64 bk.ty.id),.c (.int .i64 bk.ty.home),.c (.sl (Ty.rows bk.ty.args))]:=(by rw[Exp.row_eq];rfl);unfold MQ;simp(maxSteps:=9^7) (disch:=try exact zd) [hrow,hrowb,hvl,-getElem?_pos]
variable {A:Af}
theorem Va {x:Str}{b e e':Exp}(h:PrepOk x b e e'):e'.weight=e.weight:=by
 rw[e'.weight_eq,e.weight_eq,h.sum];congr 2;refine qJ fun i=>?_;rw[qq,qq];by_cases hi:i<e.children.length
 .obtain ⟨x0,h0⟩:=Ae hi
  obtain⟨x1,h1⟩:=Ae (l:=e'.children) (i:=i) (by rw[DM h];exact hi);rw[h0,h1];simp only[qv,(h.kids i x0 x1 h0 h1).weight]
 .have h1:e'.children[i]?=none:=qam (by rw [DM h];omega)
  have h2:e.children[i]?=none:=qam (by omega);rw[h1,h2]
theorem WG {x:Str}{b e:Exp}(hs:shp e)(hp:properP e)(hn:nmL e)(hl:e.weight<=100000000000/\(Ag b).length<=100000000000):∀y∈(Bd x (Ag b) e).children,nmL y:=by
 intro y hy;obtain⟨i,hi⟩:=qn.1 hy;have hal:=E9 e hs.wf;unfold Bd at hi;by_cases h:e.kind=4\/e.kind=6\/e.kind=7
 .rw [if_pos h] at hi
  obtain⟨ha,hc⟩:=Ef (by omega) hs.one;unfold CG at hi;split at hi
  .exact hn.child hi
  .have hc':∀ to ks,(Exp.mk e.kind e.pos to e.num ks e.arms e.ty).children=ks:=fun to ks=>by rw [B2,ha];simp
   rw[hc']at hi;have hlt:=(qf.1 hi).1;simp only[qbo,List.length_zipIdx]at hlt;obtain⟨z,hz⟩:=Ae hlt;simp only[qq,qaB,hz,qv,qaF,qd]at hi;subst hi;have hnz:nmL z:=hn.child (i:=i) (by rw[hc];exact hz);split
   .exact hnz
   .exact Md hnz (F7 _ _ (by simp;omega))
 .rw [if_neg h] at hi
  by_cases h8:e.kind=8
  .rw [if_pos h8,B2] at hi
   rcases qbk i e.kids.length with hk|hk
   .rw [qF hk] at hi
    exact hn.child (i:=i) (Sp hi)
   .rw [qS hk,qq] at hi
    obtain⟨q,hq,rfl⟩:=qr.1 hi;rw[qq]at hq;obtain⟨p,hp',rfl⟩:=qr.1 hq;have hm:=qc hp';have hnp:nmL p.2:=hn.child (D5 hp');have hvl:=Exp.vars_le hm;have hwl:=Exp.child_lt (BA hm);unfold armP;split
    .exact hnp
    .rename_i hx
     refine(Ko (free:=Ag b) (hp.one p hm) hx (hs.child (BA hm)) (hp.child (BA hm)) (by omega) hnp (fun s hs'=>?_) p.1.vars.length (qg _)).1;refine hn s (A3.2 (.inr ⟨e.kids.length+(i-e.kids.length),p.2,D5 hp',.inl ?_⟩));have hk1:=hs.one.1.1 h8;rw[Bt,if_neg (by omega),if_pos ⟨h8,by omega⟩,hk1,show 1+(i-1)-1=i-1 by omega,<-hk1,hp'];exact hs'
  .rw [if_neg h8] at hi
   exact hn.child hi
theorem V9 {l:List (ArmH×Exp)}(h:l≠[]):∃c rows,Exp.armRows l=c::rows:=by
 cases l with
 |nil=>exact absurd rfl h
 |cons e r=>obtain⟨a,b⟩:=e;exact⟨_,Exp.armRows r,by rw[Exp.armRows]⟩
theorem ZeG (l:List (ArmH×Exp))(hl:l.length<=549755813888):(K A).call 223 [TU l] []=some (.sc (.arr 0 l.length),[.arr 14 (wr (Exp.armRows l)) 0]):=by
 by_cases h:l=[]
 .subst h
  have hr:Exp.armRows []=[]:=by rw[Exp.armRows]
  rw[hr];exact SK (by kernel_rfl) (by kernel_rfl) (by kernel_rfl) (by kernel_rfl)
 .obtain ⟨c,rows,hr⟩:=V9 h
  have hlen:rows.length+1=l.length:=by
   have:=Exp.armRows_len l;rw[hr]at this;simpa using this
  have hok:AW 14 (wr (c::rows))=true:=hr▸okRows_arm l;have hp:TU l=V.sc (.c (.sl (c::rows))):=by rw[<-hr]
  rw[hr,hp,Oi (by kernel_rfl) (by kernel_rfl)];refine Oc (vf:=v223) (by kernel_rfl) rfl (by decide) ?_;unfold v223;rw[wr_cons]at hok;simp(disch:=try exact zd) [hok];omega
theorem DA (e:Exp):wc e.row=[.c (.int .i64 e.kind),.c (.int .i64 e.pos),.c (.str e.name),.c (.int .i64 e.num),.c (.sl (Exp.rows e.kids)),.c (.sl (Exp.armRows e.arms)),.c (.int .i64 e.ty.kind),.c (.str e.ty.name),.c (.int .i64 e.ty.id),.c (.int .i64 e.ty.home),.c (.sl (Ty.rows e.ty.args))]:=by rw[Exp.row_eq];rfl
theorem IP (x:Str)(b:Exp)(free:List Str)(n:Nat)(e:Exp)(hw:e.wf1)(hl:e.weight<=200000000000)(hrec:∀y∈e.children,(K A).call 202 [.ag (Bm x b free),expV y] []=some (expV (subN n y x b),[])):
 wp (K A) (.loop E0) (fun ex s=>ex=.exit 3/\s=⟨[(2,.sc (.ptr 64 0)),(3,.sc (.ptr 128 0)),(4,.sc (.ptr 192 0)),(7,.sc (.arr 3680 (e.kids.length+e.arms.length))),(53,.sc (.arr 3680 (e.kids.length+e.arms.length))),(54,intV ((e.kids.length:Int)+e.arms.length)),(55,intV ((e.kids.length:Int)+e.arms.length)),(56,Ac false)],
     [(64,some (.box (Bm x b free))),(128,some (.box [.c (.int .i64 e.kind),.c (.int .i64 e.pos),.c (.str e.name),.c (.int .i64 e.num),.c (.sl (Exp.rows e.kids)),.c (.sl (Exp.armRows e.arms)),.c (.int .i64 e.ty.kind),.c (.str e.ty.name),.c (.int .i64 e.ty.id),.c (.int .i64 e.ty.home),.c (.sl (Ty.rows e.ty.args))])),(192,some BS),(3680,some (.arr 11 (wr (Exp.rows (subC n e x b))) 0))]⟩)
  ⟨[(2,.sc (.ptr 64 0)),(3,.sc (.ptr 128 0)),(4,.sc (.ptr 192 0)),(7,.sc (.arr 3680 (e.kids.length+e.arms.length))),(53,.sc (.arr 3680 (e.kids.length+e.arms.length))),(54,intV ((e.kids.length:Int)+e.arms.length)),(55,intV 0)],
    [(64,some (.box (Bm x b free))),(128,some (.box [.c (.int .i64 e.kind),.c (.int .i64 e.pos),.c (.str e.name),.c (.int .i64 e.num),.c (.sl (Exp.rows e.kids)),.c (.sl (Exp.armRows e.arms)),.c (.int .i64 e.ty.kind),.c (.str e.ty.name),.c (.int .i64 e.ty.id),.c (.int .i64 e.ty.home),.c (.sl (Ty.rows e.ty.args))])),(192,some BS),(3680,some (.arr 11 (wr (Exp.rows e.children)) 0))]⟩:=by
 have hle:=e.children_le;rw[e.children_len]at hle;have hCl:=subC_len n e x b;have hC2:(subC n e x b).length=e.children.length:=by rw[hCl,e.children_len]
 have hcg:=fun {i:Nat} {y:Exp} (h:e.children[i]?=some y)=>Eu (n:=n) (x:=x) (b:=b) h;generalize subC n e x b=cc at *
 refine Ap (fun i=>⟨[(2,.sc (.ptr 64 0)),(3,.sc (.ptr 128 0)),(4,.sc (.ptr 192 0)),(7,.sc (.arr 3680 (e.kids.length+e.arms.length))),(53,.sc (.arr 3680 (e.kids.length+e.arms.length))),(54,intV ((e.kids.length:Int)+e.arms.length)),(55,intV i)],
  [(64,some (.box (Bm x b free))),(128,some (.box [.c (.int .i64 e.kind),.c (.int .i64 e.pos),.c (.str e.name),.c (.int .i64 e.num),.c (.sl (Exp.rows e.kids)),.c (.sl (Exp.armRows e.arms)),.c (.int .i64 e.ty.kind),.c (.str e.ty.name),.c (.int .i64 e.ty.id),.c (.int .i64 e.ty.home),.c (.sl (Ty.rows e.ty.args))])),(192,some BS),(3680,some (.arr 11 (wr (Exp.rows (cc.take i++e.children.drop i))) 0))]⟩) (e.kids.length+e.arms.length) ?_ ?_ ?_
 .simp
 .intro i hi
  have hi1:i<e.children.length:=by rw[e.children_len];exact hi
  obtain⟨y,hy⟩:=Ae hi1;have hm:=qc hy;have hr:=hrec y hm;have hb:=Ht (A:=A) e i hw hi1 (by omega);simp only[expV,DA e]at hb;have hbl:=qt (e.bound_le i) hl;have hco:=EH (A:=A) (e.bound i) x (by omega);have hcx:=hcg hy;have hg:=Dv (i:=i) hC2 hi1;rw[hy]at hg;have hst:=Dh hC2 hcx;have hln:=Du (i:=i) hC2;rw[e.children_len]at hln;have hi2:(i:Int)<(e.kids.length:Int)+e.arms.length:=by omega
  have hset:=fun z=>Eh (cc.take i++e.children.drop i) i z;rw[<-hst];generalize cc.take i++e.children.drop i=zr at *
  unfold E0;by_cases hf:x∈e.bound i
  .have hsame:zr.set i y=zr:=by
    refine qJ fun m=>?_;rw[qaM];split
    .rename_i h
     subst h;rw[hg];split
     .rfl
     .omega
    .rfl
   rw[if_pos hf,hsame];simp(maxSteps:=9^7) (disch:=try exact zd) [hi,hi2,hg,hln,hb,hco,hf,BC,-getElem?_pos]
  .rw [if_neg hf]
   simp(maxSteps:=9^7) (disch:=try exact zd) [hi,hi2,hg,hln,hb,hco,hf,hr,hset,BC,-getElem?_pos]
 .have htk:cc.take (e.kids.length+e.arms.length)++e.children.drop (e.kids.length+e.arms.length)=cc:=by
   rw[qak (by rw[e.children_len];omega),qL,qj (by omega)]
  rw[htk];unfold E0;simp(maxSteps:=9^7) (disch:=try exact zd) [-getElem?_pos]
theorem Zel (x:Str)(b:Exp)(free:List Str)(n:Nat)(e:Exp)(hw:e.wf1)(hl:e.weight<=200000000000)(hrec:∀y∈e.children,(K A).call 202 [.ag (Bm x b free),expV y] []=some (expV (subN n y x b),[])):
 wp (K A) (.loop E0) (fun ex s=>ex=.exit 3/\s=⟨[(2,.sc (.ptr 64 0)),(3,.sc (.ptr 128 0)),(4,.sc (.ptr 192 0)),(7,.sc (.arr 3680 (e.kids.length+e.arms.length))),(53,.sc (.arr 3680 (e.kids.length+e.arms.length))),(54,intV ((e.kids.length:Int)+e.arms.length)),(55,intV ((e.kids.length:Int)+e.arms.length)),(56,Ac false)],
     [(64,some (.box (Bm x b free))),(128,some (.box [.c (.int .i64 e.kind),.c (.int .i64 e.pos),.c (.str e.name),.c (.int .i64 e.num),.c (.sl (Exp.rows e.kids)),.arr 2080 e.arms.length,.c (.int .i64 e.ty.kind),.c (.str e.ty.name),.c (.int .i64 e.ty.id),.c (.int .i64 e.ty.home),.c (.sl (Ty.rows e.ty.args))])),(192,some BS),(2080,some (.arr 14 (wr (Exp.armRows e.arms)) e.arms.length)),(3680,some (.arr 11 (wr (Exp.rows (subC n e x b))) 0))]⟩)
  ⟨[(2,.sc (.ptr 64 0)),(3,.sc (.ptr 128 0)),(4,.sc (.ptr 192 0)),(7,.sc (.arr 3680 (e.kids.length+e.arms.length))),(53,.sc (.arr 3680 (e.kids.length+e.arms.length))),(54,intV ((e.kids.length:Int)+e.arms.length)),(55,intV 0)],
    [(64,some (.box (Bm x b free))),(128,some (.box [.c (.int .i64 e.kind),.c (.int .i64 e.pos),.c (.str e.name),.c (.int .i64 e.num),.c (.sl (Exp.rows e.kids)),.arr 2080 e.arms.length,.c (.int .i64 e.ty.kind),.c (.str e.ty.name),.c (.int .i64 e.ty.id),.c (.int .i64 e.ty.home),.c (.sl (Ty.rows e.ty.args))])),(192,some BS),(2080,some (.arr 14 (wr (Exp.armRows e.arms)) e.arms.length)),(3680,some (.arr 11 (wr (Exp.rows e.children)) 0))]⟩:=by
 have hle:=e.children_le;rw[e.children_len]at hle;have hCl:=subC_len n e x b;have hC2:(subC n e x b).length=e.children.length:=by rw[hCl,e.children_len]
 have hcg:=fun {i:Nat} {y:Exp} (h:e.children[i]?=some y)=>Eu (n:=n) (x:=x) (b:=b) h;generalize subC n e x b=cc at *
 refine Ap (fun i=>⟨[(2,.sc (.ptr 64 0)),(3,.sc (.ptr 128 0)),(4,.sc (.ptr 192 0)),(7,.sc (.arr 3680 (e.kids.length+e.arms.length))),(53,.sc (.arr 3680 (e.kids.length+e.arms.length))),(54,intV ((e.kids.length:Int)+e.arms.length)),(55,intV i)],
  [(64,some (.box (Bm x b free))),(128,some (.box [.c (.int .i64 e.kind),.c (.int .i64 e.pos),.c (.str e.name),.c (.int .i64 e.num),.c (.sl (Exp.rows e.kids)),.arr 2080 e.arms.length,.c (.int .i64 e.ty.kind),.c (.str e.ty.name),.c (.int .i64 e.ty.id),.c (.int .i64 e.ty.home),.c (.sl (Ty.rows e.ty.args))])),(192,some BS),(2080,some (.arr 14 (wr (Exp.armRows e.arms)) e.arms.length)),(3680,some (.arr 11 (wr (Exp.rows (cc.take i++e.children.drop i))) 0))]⟩) (e.kids.length+e.arms.length) ?_ ?_ ?_
 .simp
 .intro i hi
  have hi1:i<e.children.length:=by rw[e.children_len];exact hi
  obtain⟨y,hy⟩:=Ae hi1;have hm:=qc hy;have hr:=hrec y hm;have hb:=Ht (A:=A) e i hw hi1 (by omega);simp only[expV,DA e]at hb;have hbl:=qt (e.bound_le i) hl;have hco:=EH (A:=A) (e.bound i) x (by omega);have hcx:=hcg hy;have hg:=Dv (i:=i) hC2 hi1;rw[hy]at hg;have hst:=Dh hC2 hcx;have hln:=Du (i:=i) hC2;rw[e.children_len]at hln;have hi2:(i:Int)<(e.kids.length:Int)+e.arms.length:=by omega
  have hset:=fun z=>Eh (cc.take i++e.children.drop i) i z;rw[<-hst];generalize cc.take i++e.children.drop i=zr at *
  unfold E0;by_cases hf:x∈e.bound i
  .have hsame:zr.set i y=zr:=by
    refine qJ fun m=>?_;rw[qaM];split
    .rename_i h
     subst h;rw[hg];split
     .rfl
     .omega
    .rfl
   rw[if_pos hf,hsame];simp(maxSteps:=9^7) (disch:=try exact zd) [hi,hi2,hg,hln,hb,hco,hf,BC,-getElem?_pos]
  .rw [if_neg hf]
   simp(maxSteps:=9^7) (disch:=try exact zd) [hi,hi2,hg,hln,hb,hco,hf,hr,hset,BC,-getElem?_pos]
 .have htk:cc.take (e.kids.length+e.arms.length)++e.children.drop (e.kids.length+e.arms.length)=cc:=by
   rw[qak (by rw[e.children_len];omega),qL,qj (by omega)]
  rw[htk];unfold E0;simp(maxSteps:=9^7) (disch:=try exact zd) [-getElem?_pos]
end Go.Vs.Tryz
