/- Steps: heads and arguments, weights, and what is kept (plain). -/
import Derived.Test.YtccmnfpbcmccpaaGreatDoorRIa
set_option linter.unusedSimpArgs false
set_option linter.unusedVariables false
set_option linter.deprecated false
set_option maxRecDepth 9999
namespace Go.Vs.Tryz
open Go Go.Vs
theorem shp.app {e:Exp}(h:shp e)(h5:e.kind=5):∃f x,e.kids=[f,x]/\shp f/\shp x/\e.arms=[]:=by
 have ha:=h.one.1.2.1 (show ¬e.kind=8 by omega);have hk:e.kids.length=2:=by
  have:=h.one.2.2;rw[h5]at this;exact this
 match hkk:e.kids,hk with
 |[f,x],_=>exact⟨f,x,rfl,h.child (Zar (by grind)),h.child (Zar (by grind)),ha⟩
theorem ZiX {P:Exp->Prop}(hP:∀e x,P e->x∈e.children->P x)(e:Exp):shp e->P e->P (Zau e).1/\∀x∈(Zau e).2,P x:=by
 induction e using Exp.ind with
 |h e ih=>
  intro hs h;by_cases h5:e.kind=5
  .obtain ⟨f,x,hk,sf,sx,ha⟩:=hs.app h5
   grind[Zar,ZcX,ql]
  grind[Zdh]
theorem ZhD (e:Exp):shp e->(Zau e).1.weight+((Zau e).2.map Exp.weight).sum+(Zau e).2.length=e.weight:=by
 induction e using Exp.ind with
 |h e ih=>
  intro hs;by_cases h5:e.kind=5
  .obtain ⟨f,x,hk,sf,sx,ha⟩:=hs.app h5
   have:=ih f (Zar (by grind)) sf;rw[ZcX h5 hk,e.weight_eq,Exp.children,hk,ha];grind
  grind[Zdh]
theorem Zwf {e x:Exp}(hs:shp e)(hx:x∈(Zau e).2):x.weight<e.weight:=by
 have h1:=ZhD e hs;have h2:=ZcA (qaI (f:=Exp.weight) hx);grind
theorem ZcT:∀(n:Nat)(e:Exp)(l:List Exp),e.weight<=n->shp e->Zez n e l=((Zau e).1,(Zau e).2++l)
 |0,e,_,h,_=>by have:=e.weight_pos;omega
 |n+1,e,l,h,hs=>by
  unfold Zez;by_cases h5:e.kind=5
  .obtain ⟨f,x,hk,sf,sx,ha⟩:=hs.app h5
   have hf:=Exp.child_lt (e:=e) (x:=f) (Zar (by grind));rw[if_pos h5,hk,ZcX h5 hk];show Zez n f (x::l)=_;rw[ZcT n f (x::l) (by omega) sf];simp
  grind[Zdh]
theorem Zld (e:Exp):(Zav e).length=e.weight:=by
 induction e using Exp.ind with
 |h e ih=>
  have h1:(e.children.map Zav).flatten.length=(e.children.map Exp.weight).sum:=by
   grind[qL]
  have h2:(e.arms.map fun a=>a.1.vars).flatten.length=(e.arms.map fun a=>a.1.vars.length).sum:=by
   rw[qa2,qai];rfl
  rw[Zet,e.weight_eq,qK,qC,h1,h2];omega
theorem Zcl {e x:Exp}(hx:x∈e.children){s:Str}(h:s∈Zav x):s∈Zav e:=by
 grind[Zet]
theorem Zgo (e:Exp):∀s∈Zah e,s∈Zav e:=by
 induction e using Exp.ind<;>grind[ZaU,Zet,Zbv]
theorem Zt7 {x:Str}{e b:Exp}(he:okE e)(hb:okE b):(subP e x b).weight<=e.weight*b.weight:=by
 have h1:=ZzU (subP e x b) (fun _=>1) (Zdu he hb).1 fun _=>qg _;have h2:=Zst (x:=x) (b:=b) (e:=e) (n:=e.weight) hb.1 (qg _) he.1 he.2.1 fun _=>1;have h3:=Zvz (M:=b.weight) b.weight_pos e (fun s=>if s=x then wV b (fun _=>1) else 1) fun s _=>by
  split
  .have:=Zvz (qg 1) b (fun _=>1) fun _ _=>qg _
   omega
  .exact b.weight_pos
 grind[subP]
theorem Zht {e f:Exp}(he:okE e)(hk:e.kind=7):(ZaY e f).weight=1+2*f.weight:=by
 have ha:=he.1.one.1.2.1 (show ¬e.kind=8 by omega);grind[ZaY,Zbh]
theorem Zlw {e f:Exp}(he:okE e)(hk:e.kind=7)(h:lfE e)(hf:f∈e.children):lfE (ZaY e f):=by
 have ha:=he.1.one.1.2.1 (show ¬e.kind=8 by omega);have hc:(ZaY e f).children=[f,f]:=by grind[ZaY,Zaw]
 have hm:∀y∈(ZaY e f).children,y=f:=fun y hy=>by grind
 refine⟨?_,?_⟩
 .rw [Zc3]
  exact⟨h.1.one,fun y hy=>hm y hy▸h.1.child hf⟩
 .rw [ZeX]
  exact⟨h.2.one,fun y hy=>hm y hy▸h.2.child hf⟩
theorem Zeq (l m:List (Str×Exp))(e:Exp):ZaO (l++m) e=ZaO m (ZaO l e):=by
 grind[ZaO]
theorem Zmo:∀(l:List (Str×Exp))(e:Exp),okE e->lfE e->e.weight<=16777216->(∀p∈l,∃t,p.2=varX t/\nameOk 97 122 t)->okE (ZaO l e)/\lfE (ZaO l e)/\(ZaO l e).weight<=e.weight
 |[],_,h1,h2,_,_=>⟨h1,h2,qg _⟩
 |p::l,e,h1,h2,hw,hl=>by
  obtain⟨t,ht,hn⟩:=hl p (by simp);have hwt:(subP e p.1 p.2).weight<=e.weight:=by grind[Zln]
  rw[ZcM];obtain⟨g1,g2,g3⟩:=Zmo l (subP e p.1 p.2) (by grind[Zdu,Zel]) (by rw[ht];exact ZiO h1 (Zel t) hw (by rw[ZnU];omega) h2 ⟨ZxV hn,ZwM t⟩) (by omega) fun q hq=>hl q (by grind);grind
theorem Zl6:∀(l:List (Str×Exp))(e:Exp),okE e->lfE e->(∀k,(ZaO (l.take k) e).weight<=16777216)->(∀p∈l,okE p.2/\lfE p.2/\p.2.weight<=16777216)->okE (ZaO l e)/\lfE (ZaO l e)
 |[],_,he,h,_,_=>⟨he,h⟩
 |p::l,e,he,h,hw,hl=>by
  obtain⟨h1,h2,h3⟩:=hl p (by simp);rw[ZcM];refine Zl6 l _ (Zdu he h1) (ZiO he h1 ?_ h3 h h2) (fun k=>?_) fun q hq=>hl q (by grind)
  .have:=hw 0
   grind[ZaO]
  .have:=hw (k+1)
   grind[ZcM]
theorem Zrw {x y:Nat}(h:x+y<=6000):x*y<=16777216:=by
 by_cases h1:x<=2000
 .have:=qaU h1 (show y<=6000 by omega)
  omega
 .by_cases h2:y<=2000
  .have:=qaU (show x<=6000 by omega) h2
   omega
  .have:=qaU (show x<=4000 by omega) (show y<=4000 by omega)
   omega
def renL (T:List Str)(vars:List Str):List (Str×Exp):=vars.zipIdx.map fun p=>(p.1,varX (Zax p.2 T))
def argL (T:List Str)(args:List Exp):List (Str×Exp):=args.zipIdx.map fun p=>(Zax p.2 T,p.1)
theorem ZpU (T vars:List Str)(args:List Exp):Zi1 T vars args=renL T vars++argL T args:=rfl
theorem ZxI {T vars:List Str}{p:Str×Exp}(h:p∈renL T vars)(hl:vars.length+T.length<9000000000):∃t,p.2=varX t/\nameOk 97 122 t:=by
 obtain⟨⟨v,i⟩,hr,rfl⟩:=qF.1 h;grind[Zeb]
theorem Zle {T:List Str}{args:List Exp}{p:Str×Exp}(h:p∈argL T args):p.2∈args/\p.1∉T:=by
 obtain⟨⟨y,i⟩,hr,rfl⟩:=qF.1 h;grind[Zbz]
structure CaseOk (e k:Exp)(a:ArmH×Exp):Prop where
 ok:okE e
 lf:lfE e
 wt:e.weight<=6000
 kk:e.kids=[k]
 am:a∈e.arms
theorem CaseOk.sum {e k:Exp}{a:ArmH×Exp}(h:CaseOk e k a):a.2.weight+a.1.vars.length+k.weight+1<=e.weight:=by
 have h1:(e.children.map Exp.weight).sum=(e.kids.map Exp.weight).sum+((e.arms.map (·.2)).map Exp.weight).sum:=by grind[Exp.children]
 have h2:a.2.weight<=((e.arms.map (·.2)).map Exp.weight).sum:=ZcA (qaI (f:=Exp.weight) (qaI (f:=fun x:ArmH×Exp=>x.2) h.am));have h3:a.1.vars.length<=(e.arms.map fun a=>a.1.vars.length).sum:=ZcA (qaI (f:=fun a:ArmH×Exp=>a.1.vars.length) h.am);have h4:=e.weight_eq;rw[h1,h.kk]at h4;grind
theorem CaseOk.kid {e k:Exp}{a:ArmH×Exp}(h:CaseOk e k a):k∈e.children:=Zar (by rw[h.kk];simp)
theorem CaseOk.args {e k:Exp}{a:ArmH×Exp}(h:CaseOk e k a):∀x∈(Zau k).2,okE x/\lfE x/\x.weight<=k.weight/\∀s∈Zah x,s∈Zav e:=by
 have hk:=h.kid;have hs:=(h.ok.child hk).1;have h1:=(ZiX (P:=okE) (fun _ _ q hx=>q.child hx) k hs (h.ok.child hk)).2;have h2:=(ZiX (P:=lfE) (fun _ _ q hx=>q.child hx) k hs (h.lf.child hk)).2;have h3:=(ZiX (P:=fun y=>∀s∈Zav y,s∈Zav e) (fun _ _ q hx s hs=>q s (Zcl hx hs)) k hs (fun s hs=>Zcl hk hs)).2;exact fun x hx=>⟨h1 x hx,h2 x hx,Nat.le_of_lt (Zwf hs hx),fun s q=>h3 x hx s (Zgo x s q)⟩
theorem CaseOk.ren {e k:Exp}{a:ArmH×Exp}(h:CaseOk e k a)(j:Nat):okE (ZaO ((renL (Zav e) a.1.vars).take j) a.2)/\lfE (ZaO ((renL (Zav e) a.1.vars).take j) a.2)/\(ZaO ((renL (Zav e) a.1.vars).take j) a.2).weight<=a.2.weight:=by
 have hs:=h.sum;have hw:=h.wt;have hm:=ZbM h.am;have hu:=Zld e;exact Zmo _ a.2 (h.ok.child hm) (h.lf.child hm) (by omega) fun p hp=>ZxI (qaC hp) (by omega)
theorem CaseOk.sub {e k:Exp}{a:ArmH×Exp}(h:CaseOk e k a)(j:Nat):okE (ZaO ((argL (Zav e) (Zau k).2).take j) (ZaO (renL (Zav e) a.1.vars) a.2))/\lfE (ZaO ((argL (Zav e) (Zau k).2).take j) (ZaO (renL (Zav e) a.1.vars) a.2))/\
 (ZaO ((argL (Zav e) (Zau k).2).take j) (ZaO (renL (Zav e) a.1.vars) a.2)).weight<=a.2.weight*k.weight/\a.2.weight*k.weight<=16777216:=by
 obtain⟨r1,r2,r3⟩:=h.ren (renL (Zav e) a.1.vars).length;rw[qbo]at r1 r2 r3;generalize ZaO (renL (Zav e) a.1.vars) a.2=b at *
 have hs:=h.sum;have hw:=h.wt;have hkp:=k.weight_pos;have hmul:a.2.weight*k.weight<=16777216:=Zrw (by omega);have hbm:b.weight*k.weight<=a.2.weight*k.weight:=qA _ r3;have hA:=h.args;have hL:∀p∈argL (Zav e) (Zau k).2,okE p.2/\p.2.weight<=k.weight/\∀q∈argL (Zav e) (Zau k).2,q.1∉Zah p.2:=fun p hp=>by
  obtain⟨a1,_,a3,a4⟩:=hA p.2 (Zle hp).1;exact⟨a1,a3,fun q hq hf=>(Zle hq).2 (a4 _ hf)⟩
 have hT:∀j,(ZaO ((argL (Zav e) (Zau k).2).take j) b).weight<=b.weight*k.weight:=fun j=>ZqS hkp r1 hL j;grind[Zl6,argL]
theorem Zge:∀(n:Nat)(e:Exp)(p:Exp×Nat),e.weight<=n->okE e->lfE e->e.weight<=6000->Zb0 subP Zav ZaY n e=some p->lfE p.1/\p.1.weight<=e.weight*(2*e.weight+1)
 |0,_,_,_,_,_,_,h=>by cases h
 |n+1,e,p,hn,he,hl,hw,h=>by
  have hpos:=e.weight_pos;have big:∀x y:Nat,x<=e.weight->y<=2*e.weight+1->x*y<=e.weight*(2*e.weight+1):=fun x y hx hy=>qaU hx hy;have up:∀(c:Exp) (q:Exp×Nat),c∈e.children->e.children≠[]->e.children.head?=some c->lfE q.1->q.1.weight<=c.weight*(2*c.weight+1)->lfE (Zbs e (q.1::e.children.tail))/\(Zbs e (q.1::e.children.tail)).weight<=e.weight*(2*e.weight+1):=by
   intro c q hc hne hh hq hqw;have hlen:(q.1::e.children.tail).length=e.kids.length+e.arms.length:=by
    have:=e.children_len;grind
   have hmem:∀y∈q.1::e.children.tail,lfE y:=fun y hy=>by
    rcases qz.1 hy with rfl|hy
    omega
    .exact hl.child (List.mem_of_mem_tail hy)
   refine⟨⟨ZkF hlen hl.1 fun y hy=>(hmem y hy).1,ZwG hlen hl.2 fun y hy=>(hmem y hy).2⟩,?_⟩;have h1:=Zi4 hlen;have h2:=e.weight_eq;cases hcc:e.children with
   |nil=>grind
   |cons d l=>
    rw[hcc]at hh h1 h2;simp only[List.head?_cons,qc]at hh;subst hh;simp only[List.tail_cons,qt,qaa]at h1 h2;rw[List.tail_cons];have h3:d.weight*(2*d.weight+1)<=d.weight*(2*e.weight+1):=Nat.mul_le_mul_left _ (by omega);grind[qaX]
  unfold Zb0 at h;split at h
  .rename_i f a hk
   have hf:f∈e.children:=Zar (by grind);have ha:a∈e.children:=Zar (by grind);have hne:e.children≠[]:=fun q=>by grind
   have hhd:e.children.head?=some f:=(by grind[Exp.children]);have hfl:=Exp.child_lt hf;have hal:=Exp.child_lt ha;split at h
   .split at h
    .split at h
     .rename_i k hfk
      cases h;have hkf:=Zar (e:=f) (x:=k) (by grind);have hkl:=Exp.child_lt hkf;refine⟨ZiO ((he.child hf).child hkf) (he.child ha) (by omega) (by omega) ((hl.child hf).child hkf) (hl.child ha),?_⟩;exact qx (Zt7 ((he.child hf).child hkf) (he.child ha)) (big _ _ (by omega) (by omega))
     grind
    .obtain ⟨q,hq,rfl⟩:=qq.1 h
     obtain⟨h1,h2⟩:=Zge n f q (by omega) (he.child hf) (hl.child hf) (by omega) hq;grind
   .split at h
    .cases h
     refine⟨ZiO (he.child ha) (he.child hf) (by omega) (by omega) (hl.child ha) (hl.child hf),?_⟩;exact qx (Zt7 (he.child ha) (he.child hf)) (big _ _ (by omega) (by omega))
    .split at h
     .rename_i h7
      cases h;have hag:=Zht (f:=f) he h7;refine⟨ZiO (he.child ha) (Zc0 he h7 hf) (by omega) (by omega) (hl.child ha) (Zlw he h7 hl hf),?_⟩;exact qx (Zt7 (he.child ha) (Zc0 he h7 hf)) (big _ _ (by omega) (by omega))
     grind
  .rename_i k hk
   have hm:k∈e.children:=Zar (by grind);have hne:e.children≠[]:=fun q=>by grind
   have hhd:e.children.head?=some k:=(by grind[Exp.children]);have hkl:=Exp.child_lt hm;have one:lfE k/\k.weight<=e.weight*(2*e.weight+1):=⟨hl.child hm,by grind⟩;split at h;grind
   .split at h
    grind
    .split at h
     .split at h
      .rw [ZcT k.weight k [] (qg _) (he.child hm).1,qI] at h
       simp only at h;unfold Zct at h;cases hfd:e.arms.find? fun a=>a.1.con==(Zau k).1.name with
       |none=>grind
       |some a=>
        rw[hfd]at h;simp only at h;split at h
        .cases h
         have hC:CaseOk e k a:=⟨he,hl,hw,hk,qaM hfd⟩;obtain⟨s1,s2,s3,s4⟩:=hC.sub (argL (Zav e) (Zau k).2).length;rw[qbo]at s1 s2 s3;have hsum:=hC.sum;have hch:Zsy subP (Zi1 (Zav e) a.1.vars (Zau k).2) a.2=ZaO (argL (Zav e) (Zau k).2) (ZaO (renL (Zav e) a.1.vars) a.2):=by
          rw[ZpU,<-Zeq];rfl
         simp only;rw[hch];exact⟨s2,qx s3 (big _ _ (by omega) (by omega))⟩
        grind
      .obtain ⟨q,hq,rfl⟩:=qq.1 h
       obtain⟨h1,h2⟩:=Zge n k q (by omega) (he.child hm) (hl.child hm) (by omega) hq;grind
     grind
  grind
def ZbT (e:Exp):Nat:=e.fold fun _ l=>1+l.sum
theorem ZiJ (e:Exp):ZbT e=1+(e.children.map ZbT).sum:=Exp.fold_eq _ e
theorem ZlV (e:Exp):fixE e->e.weight+2<=3*ZbT e:=by
 induction e using Exp.ind with
 |h e ih=>
  intro h;have h1:∀l:List Exp,(∀x∈l,x.weight+2<=3*ZbT x)->(l.map Exp.weight).sum+2*l.length<=3*(l.map ZbT).sum:=by
   intro l
   induction l<;>grind
  have h2:=h1 e.children fun x hx=>ih x hx (h.child hx);have h3:(e.arms.map fun a=>a.1.vars.length).sum<=2*e.arms.length:=by
   have:=ZgA (l:=e.arms) (f:=fun a=>a.1.vars.length) (g:=fun _=>2) fun a ha=>(h.one.2.2.2.2.2.2 a ha).2;simp only[List.map_const',List.sum_replicate_nat]at this;omega
  have h4:=e.children_len;rw[e.weight_eq,ZiJ];omega
theorem Zmq (e:Exp):ZbT e<=e.weight:=by
 induction e using Exp.ind with
 |h e ih=>
  have:=ZgA (l:=e.children) (f:=ZbT) (g:=Exp.weight) ih;rw[ZiJ,e.weight_eq];omega
theorem mkE.low {ds:List DataD}(hc:ZdF ds){e:Exp}:mkE ds e->lowE e:=by
 induction e using Exp.ind with
 |h e ih=>
  intro h;have hall:∀s∈ZbI,nameOk 97 122 s:=by
   intro s hs;simp only[ZbI,Zbm,qn,qz,qW,or_false]at hs;rcases hs with (rfl|rfl|rfl|rfl|rfl|rfl|rfl|rfl)|(rfl|rfl|rfl|rfl|rfl)<;>exact⟨by decide,⟨_,rfl,by decide,by decide⟩,by decide,by decide⟩
  have hcon:∀s,cOk ds s->nameOk 65 90 s:=by
   rintro s (rfl|⟨d,hd,c,hcc,rfl⟩)
   .exact⟨by decide,⟨_,rfl,by decide,by decide⟩,by decide,by decide⟩
   .exact hc d hd c hcc
  obtain⟨_,h2,_,_,_,h6⟩:=h.one;rw[Zc3];refine⟨⟨?_,?_,?_,fun a ha v hv=>hall v ((h2 a ha).2.2.2.2 v hv)⟩,fun x hx=>ih x hx (h.child hx)⟩
  .unfold lowK
   rcases h6 with ⟨k,n,_⟩|⟨k,n,_⟩|⟨k,n,_⟩|⟨k,n,_⟩|⟨k,n,_⟩|⟨k,n,_⟩|⟨k,n,_⟩|⟨k,n,_⟩<;>grind
  .rcases h6 with ⟨k,n,_⟩|⟨k,n,_⟩|⟨k,n,_⟩|⟨k,n,_⟩|⟨k,n,_⟩|⟨k,n,_⟩|⟨k,n,_⟩|⟨k,n,_⟩<;>grind
  .unfold lowK
   rcases h6 with ⟨k,n,_⟩|⟨k,n,_⟩|⟨k,n,_⟩|⟨k,n,_⟩|⟨k,n,_⟩|⟨k,n,_⟩|⟨k,n,_⟩|⟨k,n,_⟩<;>grind
theorem mkE.fix {ds:List DataD}(hc:ZdF ds){e:Exp}:mkE ds e->fixE e:=by
 induction e using Exp.ind with
 |h e ih=>
  intro h;have hcon:∀s,cOk ds s->nameOk 65 90 s:=by
   rintro s (rfl|⟨d,hd,c,hcc,rfl⟩)
   .exact⟨by decide,⟨_,rfl,by decide,by decide⟩,by decide,by decide⟩
   .exact hc d hd c hcc
  obtain⟨_,h2,h3,h4,h5,h6⟩:=h.one;rw[ZeX];refine⟨⟨?_,?_,⟨h5.1,h5.2.1,by have:=h5.2.2;omega⟩,h3,h4,?_,fun a ha=>⟨hcon _ (h2 a ha).2.1,(h2 a ha).2.2.1⟩⟩,fun x hx=>ih x hx (h.child hx)⟩
  .rcases h6 with ⟨k,_⟩|⟨k,_⟩|⟨k,_⟩|⟨k,_⟩|⟨k,_⟩|⟨k,_⟩|⟨k,_⟩|⟨k,_⟩<;>omega
  .rcases h6 with ⟨k,_⟩|⟨k,_⟩|⟨k,_⟩|⟨k,_⟩|⟨k,_⟩|⟨k,_⟩|⟨k,_⟩|⟨k,_⟩<;>omega
  .rcases h6 with ⟨k,_⟩|⟨k,_⟩|⟨k,_⟩|⟨k,_⟩|⟨k,_⟩|⟨k,_⟩|⟨k,_⟩|⟨k,_,_,ha⟩<;>grind
theorem mkE.shp {ds:List DataD}{e:Exp}:mkE ds e->shp e:=by
 induction e using Exp.ind with
 |h e ih=>
  intro h;obtain⟨h1,h2,h3,h4,h5,h6⟩:=h.one;rw[ZdA];refine⟨⟨h.one.wf1,fun k=>⟨h5.1 (by omega),h4.1 (by omega)⟩,?_⟩,fun x hx=>ih x hx (h.child hx)⟩;rcases h6 with ⟨k,_,hk,_⟩|⟨k,_,hk,_⟩|⟨k,_,hk,_⟩|⟨k,_,⟨x,hk⟩,_⟩|⟨k,_,⟨x,y,hk⟩,_⟩|⟨k,_,⟨x,y,hk⟩,_⟩|⟨k,_,⟨x,hk⟩,_⟩|⟨k,_,⟨x,hk⟩,_⟩
  .rw[hk,k];rfl
  .rw[hk,k];rfl
  .rw[hk];rcases k with k | k<;>rw[k]<;>rfl
  .rw[hk,k];rfl
  .rw[hk,k];rfl
  .rw[hk];rcases k with k | k<;>rw[k]<;>rfl
  .rw[hk];rcases k with k | k<;>rw[k]<;>rfl
  .rw[hk,k];rfl
theorem mkE.proper {ds:List DataD}{e:Exp}:mkE ds e->properP e:=by
 induction e using Exp.ind with
 |h e ih=>
  intro h;rw[Zbc];exact⟨fun a ha=>inj_of (h.one.2.1 a ha).2.2.2.1,fun x hx=>ih x hx (h.child hx)⟩
theorem mkE.con {ds:List DataD}(hc:ZdF ds){e:Exp}:mkE ds e->conV e:=by
 induction e using Exp.ind with
 |h e ih=>
  intro h;rw[Zcz];refine⟨fun a ha k hk=>?_,fun x hx=>ih x hx (h.child hx)⟩;have hcon:nameOk 65 90 a.1.con:=by
   rcases (h.one.2.1 a ha).2.1 with q|⟨d,hd,c,hcc,q⟩
   .rw [q]
    exact⟨by decide,⟨_,rfl,by decide,by decide⟩,by decide,by decide⟩
   .rw [q]
    exact hc d hd c hcc
  rw[hk]at hcon;obtain⟨_,⟨c,q1,q2,q3⟩,_⟩:=hcon;unfold Zbj at q1;simp only[qN,qc]at q1;rw[<-q1]at q3;grind
theorem mkE.recZ {ds:List DataD}{e:Exp}:mkE ds e->recZ e:=by
 induction e using Exp.ind with
 |h e ih=>
  intro h;obtain⟨h1,h2,h3,h4,h5,h6⟩:=h.one;rw[ZeY];exact⟨fun k=>⟨h5.1 (by omega),h4.1 (by omega)⟩,fun x hx=>ih x hx (h.child hx)⟩
def posE (e:Exp):Prop:=e.fold fun e l=>(e.pos=0/\∀a∈e.arms,a.1.pos=0)/\∀p∈l,p
theorem ZgY (e:Exp):posE e=((e.pos=0/\∀a∈e.arms,a.1.pos=0)/\∀x∈e.children,posE x):=by
 have:=Exp.fold_eq (fun e (l:List Prop)=>(e.pos=0/\∀a∈e.arms,a.1.pos=0)/\∀p∈l,p) e;unfold posE;rw[this];simp only[qQ]
theorem posE.one {e:Exp}(h:posE e):e.pos=0/\∀a∈e.arms,a.1.pos=0:=by grind[ZgY]
theorem posE.child {e x:Exp}(h:posE e)(hx:x∈e.children):posE x:=by grind[ZgY]
theorem mkE.pos {ds:List DataD}{e:Exp}:mkE ds e->posE e:=by
 induction e using Exp.ind with
 |h e ih=>
  intro h;rw[ZgY];exact⟨⟨h.one.1,fun a ha=>(h.one.2.1 a ha).1⟩,fun x hx=>ih x hx (h.child hx)⟩
theorem ZjW (e:Exp):posE (Zak e):=by
 induction e using Exp.ind with
 |h e ih=>
  rw[ZgY];refine⟨?_,fun x hx=>?_⟩
  .rw [Zgk]
   refine⟨rfl,fun a ha=>?_⟩;grind[Zja,Zcs,qh]
  grind[ZaX]
structure StE (e:Exp):Prop where
 ok:okE e
 rz:recZ e
 lf:lfE e
 ps:posE e
theorem mkE.stE {ds:List DataD}(hc:ZdF ds){e:Exp}(h:mkE ds e):StE e:=⟨⟨h.shp,h.proper,h.con hc⟩,h.recZ,⟨h.low hc,h.fix hc⟩,h.pos⟩
theorem StE.step {e:Exp}(h:StE e)(hw:e.weight<=6000){p:Exp×Nat}(hp:Zb0 subP Zav ZaY e.weight e=some p):StE (Zak p.1):=by
 obtain⟨h1,h2⟩:=Zqv _ e p h.ok h.rz hp;exact⟨h1,h2,Zl7 (Zge _ e p (qg _) h.ok h.lf hw hp).1,ZjW _⟩
theorem ZgU {x x':Str}{a a' b b':Exp}(sa:shp a)(sa':shp a')(sb:shp b)(sb':shp b')(pa:properP a)(pa':properP a')(h:ZaC a a' [x] [x'])(hb:ZaC b b' [] []):ZaC (subP a x b) (subP a' x' b') [] []:=by
 have i1:=Zef x b sb a.weight a (qg _) sa pa;have i2:=Zef x' b' sb' a'.weight a' (qg _) sa' pa';rw[ZgQ a a' [x] [x'] sa sa' rfl]at h;rw[Zgh sb sb']at hb;refine(Zgh (Zk7 x b sb _ _ (qg _) sa pa) (Zk7 x' b' sb' _ _ (qg _) sa' pa')).2 ?_;refine instR.uniq a a' _ _ _ idV _ _ h i1 i2 ?_ (fun s e ⟨t,_,hv⟩=>⟨t,hv⟩) Zt2;rintro s e d d' ⟨t,ht,hv⟩ hd hd';rw[hv.inst]at hd'
 have ht':=(ZfY (l:=[]) (r:=[]) (bs:=[x]) (cs:=[x']) rfl).1 ht;unfold subV at hd hd';simp only[ql]at ht';rcases ht' with ⟨hs,ht,_⟩|⟨hs,ht,hst⟩
 .rw [if_pos hs] at hd
  rw[if_pos ht]at hd';rw[hd,hd'];exact hb
 .rw [if_neg hs] at hd
  rw[if_neg ht]at hd';have hst':s=t:=by
   have:=hst.2;rw[Zb5 (by simp)]at this;simpa using this
  exact ZvO hd (hst'▸hd')
def ZeG:List (Str×Exp)->Rep
 |[]=>idV
 |p::l=>(subV p.1 p.2).comp (ZeG l)
theorem ZgM:∀(l:List (Str×Exp))(e:Exp),okE e->(∀p∈l,okE p.2)->instR e (ZaO l e) (ZeG l)/\okE (ZaO l e)
 |[],e,he,_=>⟨instR.refl e idV he.1 fun s _ c h=>ZbH.2 h,he⟩
 |p::l,e,he,hl=>by
  have hp:=hl p (List.mem_cons_self ..);have h:=ZgM l (subP e p.1 p.2) (Zdu he hp) fun q hq=>hl q (qY _ hq);exact⟨instR.comp e _ _ _ _ (ZAp hp.1) (Zef p.1 p.2 hp.1 _ e (qg _) he.1 he.2.1) h.1,h.2⟩
theorem Zep:∀(l m:List (Str×Exp))(s:Str)(d:Exp),(∀p∈l,p.1≠s)->ZeG (l++m) s d->ZeG m s d
 |[],_,_,_,_,h=>h
 |p::l,m,s,d,hp,⟨c,h1,_,h2⟩=>by
  unfold subV at h1;rw[if_neg (fun q=>hp p (List.mem_cons_self ..) q.symm)]at h1;exact Zep l m s d (fun q hq=>hp q (qY _ hq)) (h1.inst.1 h2)
theorem ZiP {l:List (Str×Exp)}{s:Str}{d:Exp}(hp:∀p∈l,p.1≠s)(h:ZeG l s d):isVar s d:=
 ZbH.1 (Zep l [] s d hp (by rwa[qI]))
theorem Zjw:∀(l:List (Str×Exp))(s:Str)(d:Exp),(∀p∈l,∀q∈l,q.1∉Zah p.2)->ZeG l s d->∀(i:Nat) p,l[i]?=some p->p.1=s->(∀(j:Nat) q,j<i->l[j]?=some q->q.1≠s)->instR p.2 d idV
 |[],_,_,_,_,i,p,hp,_,_=>by simp at hp
 |p0::l,s,d,hf,⟨c,h1,_,h2⟩,i,p,hp,hs,hn=>by
  unfold subV at h1;cases i with
  |zero=>
   cases hp;rw[if_pos hs.symm]at h1;subst h1;refine h2.mono _ _ _ _ fun u hu e he=>ZbH.2 (ZiP (fun q hq e=>?_) he);exact hf p0 (List.mem_cons_self ..) q (qY _ hq) (e▸hu)
  |succ i=>
   have h0:p0.1≠s:=hn 0 p0 (by omega) rfl;rw[if_neg (fun q=>h0 q.symm)]at h1;exact Zjw l s d (fun a ha b hb=>hf a (qY _ ha) b (qY _ hb)) (h1.inst.1 h2) i p hp hs fun j q hj hq=>hn (j+1) q (by omega) hq
theorem Zkc:∀(l m:List (Str×Exp))(s t:Str)(d:Exp)(i:Nat),l[i]?=some (s,varX t)->(∀(j:Nat) q,j<i->l[j]?=some q->q.1≠s)->(∀q∈l,q.1≠t)->ZeG (l++m) s d->ZeG m t d
 |[],_,_,_,_,i,hp,_,_,_=>by simp at hp
 |p0::l,m,s,t,d,i,hp,hn,ht,⟨c,h1,_,h2⟩=>by
  unfold subV at h1;cases i with
  |zero=>
   cases hp;rw[if_pos rfl]at h1;subst h1;have hv:isVar t (varX t):=⟨rfl,rfl,rfl,rfl,rfl,rfl⟩;exact Zep l m t d (fun q hq=>ht q (qY _ hq)) (hv.inst.1 h2)
  |succ i=>
   have h0:p0.1≠s:=hn 0 p0 (by omega) rfl;rw[if_neg (fun q=>h0 q.symm)]at h1;exact Zkc l m s t d i hp (fun j q hj hq=>hn (j+1) q (by omega) hq) (fun q hq=>ht q (qY _ hq)) (h1.inst.1 h2)
theorem Zov {T vars:List Str}{i:Nat}{s:Str}(h:vars[i]?=some s):(renL T vars)[i]?=some (s,varX (Zax i T)):=by
 simp[renL,h]
theorem Zox {T:List Str}{args:List Exp}{i:Nat}{a:Exp}(h:args[i]?=some a):(argL T args)[i]?=some (Zax i T,a):=by
 simp[argL,h]
theorem ZpT {T vars:List Str}{p:Str×Exp}(h:p∈renL T vars):p.1∈vars:=by
 obtain⟨⟨y,i⟩,hq,rfl⟩:=qF.1 h;exact qb (qaB.1 hq)
theorem Zw5 {T:List Str}{args:List Exp}{p:Str×Exp}(h:p∈argL T args):∃i,p.1=Zax i T:=by
 obtain⟨⟨y,i⟩,hq,rfl⟩:=qF.1 h;exact⟨i,rfl⟩
theorem Zmt {T vars:List Str}{args:List Exp}(hi:inj vars)(hl:vars.length=args.length)(hT:∀s∈vars,s∈T)(ha:∀a∈args,∀u∈Zah a,u∈T){s:Str}(hs:s∈T){d:Exp}(h:ZeG (Zi1 T vars args) s d):
 (∃(i:Nat) (a:Exp),vars[i]?=some s/\args[i]?=some a/\instR a d idV)\/(s∉vars/\isVar s d):=by
 rw[ZpU]at h;have hk:∀p∈argL T args,p.1∉T:=fun p hp=>by
  obtain⟨i,e⟩:=Zw5 hp;rw[e];exact Zbz i T
 by_cases hv:s∈vars
 .obtain ⟨i,hvi⟩:=qh.1 hv
  obtain⟨a,hai⟩:=Zaa (l:=args) (i:=i) (by have:=(qd.1 hvi).1;omega);refine .inl ⟨i,a,hvi,hai,?_⟩;have h2:=Zkc (renL T vars) (argL T args) s (Zax i T) d i (Zov hvi) (fun j q hj hq e=>?_) (fun q hq e=>Zbz i T (e▸hT _ (ZpT hq))) h
  .refine Zjw (argL T args) _ d (fun p hp q hq hm=>hk q hq (ha _ (Zle hp).1 _ hm)) h2 i _ (Zox hai) rfl fun j q hj hq e => ?_
   obtain⟨b,hb⟩:=Zaa (l:=args) (i:=j) (by have:=(qd.1 hai).1;omega);rw[Zox hb]at hq;cases hq;have:=Zhg e;omega
  .obtain ⟨v,hvj⟩:=Zaa (l:=vars) (i:=j) (by have:=(qd.1 hvi).1;omega)
   rw[Zov hvj]at hq;cases hq;have:=hi j i s (e▸hvj) hvi;omega
 .refine .inr ⟨hv,ZiP (fun p hp e=>hk p hp (e▸hs)) (Zep _ _ s d (fun p hp e=>hv (e▸ZpT hp)) h)⟩
def ZgB (a b:Option (Exp×Nat)):Prop:=match a,b with
 |none,none=>True
 |some p,some q=>ZaC p.1 q.1 [] []/\p.2=q.2
 |_,_=>False
theorem find2 {α β:Type}{p:α->Bool}{q:β->Bool}:∀(l:List α) (m:List β),l.length=m.length->(∀(i:Nat) a b,l[i]?=some a->m[i]?=some b->p a=q b)->
 (l.find? p=none/\m.find? q=none)\/∃(i:Nat) (a:α) (b:β),l[i]?=some a/\m[i]?=some b/\l.find? p=some a/\m.find? q=some b
 |[],[],_,_=>.inl ⟨rfl,rfl⟩
 |a::l,b::m,hl,h=>by
  have h0:=h 0 a b rfl rfl;rw[List.find?_cons,List.find?_cons,<-h0];cases p a with
  |true=>exact .inr ⟨0,a,b,rfl,rfl,rfl,rfl⟩
  |false=>
   rcases find2 l m (by simpa using hl) fun i x y hx hy=>h (i+1) x y hx hy with h1|⟨i,x,y,h1,h2,h3⟩
   .exact .inl h1
   .exact .inr ⟨i+1,x,y,h1,h2,h3⟩
 |[],_::_,hl,_=>by simp at hl
 |_::_,[],hl,_=>by simp at hl
theorem Zj4 {e:Exp}{a:ArmH×Exp}(h:a∈e.arms){s:Str}(hs:s∈a.1.vars):s∈Zav e:=by
 rw[Zet];exact qY _ (List.mem_append_left _ (qbl.2 ⟨_,qF.2 ⟨a,h,rfl⟩,hs⟩))
theorem ZmG {e x k k':Exp}{con:Str}{args args':List Exp}(he:okE e)(hx:okE x)(h8:e.kind=8)(hek:e.kids=[k])(hxk:x.kids=[k'])(h:ZaC e x [] [])(hal:args.length=args'.length)
 (ha:∀(i:Nat) a b,args[i]?=some a->args'[i]?=some b->ZaC a b [] []) (oa:∀a∈args,okE a) (oa':∀a∈args',okE a) (ua:∀a∈args,∀u∈Zah a,u∈Zav e) (ua':∀a∈args',∀u∈Zah a,u∈Zav x):
 ZgB (Zct subP Zav e con args) (Zct subP Zav x con args'):=by
 have h':=h;rw[ZaS]at h;obtain⟨hh,_,_,h4⟩:=h;obtain⟨harms,hch⟩:=h4 (by omega) (by omega);have hx8:x.kind=8:=hh.1▸h8;unfold Zct;rcases find2 (p:=fun a:ArmH×Exp=>a.1.con==con) (q:=fun a:ArmH×Exp=>a.1.con==con) e.arms x.arms hh.2.2.2.2 (fun i a b h1 h2=>by rw[(harms i a b h1 h2).1])with ⟨h1,h2⟩|⟨i,a,b,h1,h2,h3,h4⟩
 .rw [h1,h2]
  trivial
 .rw [h3,h4]
  have hvl:=(harms i a b h1 h2).2;simp only;by_cases hl:a.1.vars.length=args.length
  .have hl':b.1.vars.length=args'.length:=by omega
   rw[if_pos hl,if_pos hl'];have ma:=qb h1;have mb:=qb h2;have ca:=ZbM ma;have cb:=ZbM mb;have okl:∀(T vars:List Str) (xs:List Exp),(∀a∈xs,okE a)->∀p∈Zi1 T vars xs,okE p.2:=fun T vars xs hoa p hp=>by
    unfold Zi1 at hp;rcases qn.1 hp with hp|hp
    .obtain ⟨q,_,rfl⟩:=qF.1 hp
     exact Zel _
    .obtain ⟨⟨y,i⟩,hq,rfl⟩:=qF.1 hp
     exact hoa y (qb (qaB.1 hq))
   obtain⟨i1,o1⟩:=ZgM _ a.2 (he.child ca) (okl (Zav e) a.1.vars args oa);obtain⟨i2,o2⟩:=ZgM _ b.2 (hx.child cb) (okl (Zav x) b.1.vars args' oa');have hb0:ZaC a.2 b.2 a.1.vars b.1.vars:=by
    have hca:e.children[i+1]?=some a.2:=by
     show(e.kids++e.arms.map (·.2))[i+1]?=_;rw[hek];simp[h1]
    have hcb:x.children[i+1]?=some b.2:=by
     show(x.kids++x.arms.map (·.2))[i+1]?=_;rw[hxk];simp[h2]
    have:=hch (i+1) a.2 b.2 hca hcb;rw[Zam,Zam]at this;simpa[h8,hx8,h1,h2]using this
   rw[ZgQ a.2 b.2 _ _ (he.child ca).1 (hx.child cb).1 hvl]at hb0;refine⟨(Zgh o1.1 o2.1).2 ?_,rfl⟩;have fa:∀s∈Zah a.2,s∈Zav e:=fun s hs=>Zcl ca (Zgo _ s hs)
   refine instR.uniq a.2 b.2 _ _ _ idV (fun s d=>s∈Zah a.2/\ZeG (Zi1 (Zav e) a.1.vars args) s d) (fun s d=>s∈Zah b.2/\ZeG (Zi1 (Zav x) b.1.vars args') s d) hb0 (i1.mono _ _ _ _ fun s hs d hd=>⟨hs,hd⟩) (i2.mono _ _ _ _ fun s hs d hd=>⟨hs,hd⟩) ?_ (fun s e ⟨t,_,hv⟩=>⟨t,hv⟩) Zt2;rintro s c d d' ⟨t,ht,hv⟩ ⟨hs,hd⟩ hd';rw[hv.inst]at hd';obtain⟨hs',hd'⟩:=hd'
   have r1:=Zmt (he.2.1.one a ma) hl (fun s h=>Zj4 ma h) ua (fa s hs) hd;have r2:=Zmt (hx.2.1.one b mb) hl' (fun s h=>Zj4 mb h) ua' (Zcl cb (Zgo _ t hs')) hd';rcases r1 with ⟨j,y,hj,hy,hyd⟩|⟨hn,hsd⟩
   .rcases r2 with ⟨j',y',hj',hy',hyd'⟩|⟨hn',htd⟩
    .have e1:=(he.2.1.one a ma).rlast hj
     have e2:=(hx.2.1.one b mb).rlast hj';have:=ht.1;have hjj:j=j':=(by omega);subst hjj;have hyy:=ha j y y' hy hy';have oy:=oa y (qb hy);have oy':=oa' y' (qb hy');rw[Zgh oy.1 oy'.1]at hyy;refine instR.uniq y y' d d' idV idV idV idV hyy hyd hyd' ?_ id_var Zt2;intro u e' f f' hue hf hf';rw[(ZbH.1 hue).inst]at hf';exact ZvO (ZbH.1 hf) (ZbH.1 hf')
    .have e1:=(he.2.1.one a ma).rlast hj
     have e2:=Zb5 hn';have:=ht.1;omega
   .rcases r2 with ⟨j',y',hj',hy',hyd'⟩|⟨hn',htd⟩
    .have e1:=(hx.2.1.one b mb).rlast hj'
     have e2:=Zb5 hn;have:=ht.1;omega
    .have hst:s=t:=by
      have e2:=Zb5 hn;have:=ht.2;rcases this with h|h
      .omega
      .exact h
     exact ZvO hsd (hst▸htd)
  .rw [if_neg hl,if_neg (by omega)]
   trivial
theorem Zqs {e x:Exp}{cs ds:List Exp}(hl:cs.length=e.kids.length+e.arms.length)(hl':ds.length=x.kids.length+x.arms.length)(k1:e.kind≠1)(k2:e.kind≠2)(hh:headEq e x)(ha:Zce e x)
 (hc:∀(i:Nat) y z,cs[i]?=some y->ds[i]?=some z->ZaC y z (e.bound i) (x.bound i)):ZaC (Zbs e cs) (Zbs x ds) [] []:=by
 obtain⟨p1,p2,p3,p4⟩:=ZaJ hl;obtain⟨q1,q2,q3,q4⟩:=ZaJ hl';rw[ZaS];refine⟨⟨hh.1,hh.2.1,hh.2.2.1,by rw[p1,q1];exact hh.2.2.2.1,by rw[p2,q2];exact hh.2.2.2.2⟩,fun k=>absurd k k1,fun k=>absurd k k2,fun _ _=>⟨fun i r s hr hs=>?_,fun i y z hy hz=>?_⟩⟩
 .have e1:=p4 i
  have e2:=q4 i;rw[hr]at e1;rw[hs]at e2;cases h1:e.arms[i]? with
  |none=>rw[h1]at e1;simp at e1
  |some a=>
   cases h2:x.arms[i]? with
   |none=>rw[h2]at e2;simp at e2
   |some b=>
    rw[h1]at e1;rw[h2]at e2;simp only[qr,qc]at e1 e2;rw[e1,e2];exact ha i a b h1 h2
 .rw [p3] at hy
  rw[q3]at hz;rw[ZdX hl,ZdX hl'];exact hc i y z hy hz
theorem ZnS (e:Exp):∀x,shp e->shp x->ZaC e x [] []->ZaC (Zau e).1 (Zau x).1 [] []/\(Zau e).2.length=(Zau x).2.length/\∀(i:Nat) a b,(Zau e).2[i]?=some a->(Zau x).2[i]?=some b->ZaC a b [] []:=by
 induction e using Exp.ind with
 |h e ih=>
  intro x he hx h;have h':=h;rw[ZaS]at h';obtain⟨hh,_,_,h4⟩:=h';by_cases h5:e.kind=5
  .have h5':x.kind=5:=hh.1▸h5
   obtain⟨f,a,hk,sf,sa,ea⟩:=he.app h5;obtain⟨f',a',hk',sf',sa',ea'⟩:=hx.app h5';have hce:e.children=[f,a]:=(by show e.kids++e.arms.map (·.2)=_;rw[hk,ea];rfl);have hcx:x.children=[f',a']:=(by show x.kids++x.arms.map (·.2)=_;rw[hk',ea'];rfl);have hb:∀i,e.bound i=[]:=fun i=>by rw[Zam,if_neg (by omega),if_neg (by omega)]
   have hb':∀i,x.bound i=[]:=fun i=>by rw[Zam,if_neg (by omega),if_neg (by omega)]
   have hc:=(h4 (by omega) (by omega)).2;have c0:=hc 0 f f' (by rw[hce];rfl) (by rw[hcx];rfl);have c1:=hc 1 a a' (by rw[hce];rfl) (by rw[hcx];rfl);rw[hb,hb']at c0 c1;obtain⟨s1,s2,s3⟩:=ih f (by rw[hce];simp) f' sf sf' c0;rw[ZcX h5 hk,ZcX h5' hk'];refine⟨s1,by simp[s2],fun i y z hy hz=>?_⟩;simp only at hy hz;by_cases hi:i<(Zau f).2.length
   .rw [qE hi] at hy
    rw[qE (by omega)]at hz;exact s3 i y z hy hz
   .rw [qP (by omega)] at hy
    rw[qP (by omega)]at hz;have h0:i-(Zau f).2.length=0:=by
     have:=(qd.1 hy).1;simp at this;omega
    rw[h0]at hy;rw[<-s2,h0]at hz;cases hy;cases hz;exact c1
  .have h5':x.kind≠5:=hh.1▸h5
   rw[Zdh h5,Zdh h5'];exact⟨h,rfl,fun i y z hy hz=>by simp at hy⟩
theorem Zm3 {e x:Exp}{a b:Option (Exp×Nat)}(hc:e.children≠[])(hc':x.children≠[])(k1:e.kind≠1)(k2:e.kind≠2)(b0:e.bound 0=[])(b0':x.bound 0=[])(hh:headEq e x)(ha:Zce e x)(hch:∀(i:Nat) y z,e.children[i]?=some y->x.children[i]?=some z->ZaC y z (e.bound i) (x.bound i))(h:ZgB a b):
 ZgB (a.map fun p=>(Zbs e (p.1::e.children.tail),p.2)) (b.map fun p=>(Zbs x (p.1::x.children.tail),p.2)):=by
 have hl:∀(e y:Exp),e.children≠[]->(y::e.children.tail).length=e.kids.length+e.arms.length:=fun e y hc=>by
  have:=e.children_len;cases hcc:e.children with
  |nil=>exact absurd hcc hc
  |cons c l=>rw[hcc]at this;simpa using this
 cases a with
 |none=>
  cases b with
  |none=>trivial
  |some q=>exact h
 |some p=>
  cases b with
  |none=>exact h
  |some q=>
   obtain⟨h1,h2⟩:=h;refine⟨Zqs (hl e _ hc) (hl x _ hc') k1 k2 hh ha fun i y z hy hz=>?_,h2⟩;cases i with
   |zero=>
    cases hy;cases hz;rw[b0,b0'];exact h1
   |succ i=>
    refine hch (i+1) y z ?_ ?_
    .cases hcc:e.children with
     |nil=>exact absurd hcc hc
     |cons c l=>rw[hcc]at hy;simpa using hy
    .cases hcc:x.children with
     |nil=>exact absurd hcc hc'
     |cons c l=>rw[hcc]at hz;simpa using hz
theorem Zop {α β γ:Type}{f:α->γ}{g:β->γ}{l:List α}{m:List β}(hl:l.length=m.length)(h:∀(i:Nat) a b,l[i]?=some a->m[i]?=some b->f a=g b):l.map f=m.map g:=by
 refine qG fun i=>?_;rw[qp,qp];by_cases hi:i<l.length
 .obtain ⟨a,ha⟩:=Zaa hi
  obtain⟨b,hb⟩:=Zaa (l:=m) (i:=i) (by omega);rw[ha,hb];exact congrArg some (h i a b ha hb)
 .rw [qO (by omega),qO (by omega)]
  rfl
theorem ZdD (a:Exp):∀b l r,shp a->shp b->ZaC a b l r->a.weight=b.weight:=by
 induction a using Exp.ind with
 |h a ih=>
  intro b l r sa sb h;rw[ZaS]at h;obtain⟨hh,_,_,h4⟩:=h;rw[a.weight_eq,b.weight_eq];by_cases k1:a.kind=1
  .obtain ⟨_,a2,a3⟩:=ZbP sa.one.1 k1
   obtain⟨_,b2,b3⟩:=ZbP sb.one.1 (hh.1▸k1);rw[a2,a3,b2,b3]
  .by_cases k2:a.kind=2
   .rw[ZeQ sa.one k2,ZeQ sb.one (hh.1▸k2),sa.one.1.2.1 (by omega),sb.one.1.2.1 (by rw[<-hh.1];omega)]
   .obtain ⟨ha,hc⟩:=h4 k1 k2
    rw[Zop (f:=fun a:ArmH×Exp=>a.1.vars.length) (g:=fun a:ArmH×Exp=>a.1.vars.length) hh.2.2.2.2 fun i p q hp hq=>(ha i p q hp hq).2,
     Zop (f:=Exp.weight) (g:=Exp.weight) hh.children fun i x y hx hy=>ih x (qb hx) y _ _ (sa.child (qb hx)) (sb.child (qb hy)) (hc i x y hx hy)]
theorem kidA {e f:Exp}{l:List Exp}(h:e.kids=f::l):e.children[0]?=some f:=by
 show(e.kids++e.arms.map (·.2))[0]?=_;rw[h];rfl
theorem kidB {e f a:Exp}{l:List Exp}(h:e.kids=f::a::l):e.children[1]?=some a:=by
 show(e.kids++e.arms.map (·.2))[1]?=_;rw[h];rfl
theorem Znd {e x f f':Exp}(he:okE e)(hx:okE x)(h7:e.kind=7)(hf:f∈e.children)(hf':f'∈x.children)(hh:headEq e x)(h:ZaC f f' [e.name] [x.name]):ZaC (ZaY e f) (ZaY x f') [] []:=by
 have h7':x.kind=7:=hh.1▸h7;have ha:e.arms=[]:=he.1.one.1.2.1 (by omega);have ha':x.arms=[]:=hx.1.one.1.2.1 (by omega);rw[ZaS];unfold ZaY;refine⟨⟨hh.1,hh.2.1,hh.2.2.1,rfl,hh.2.2.2.2⟩,fun k=>?_,fun k=>?_,fun _ _=>⟨fun i p q hp _=>?_,fun i y z hy hz=>?_⟩⟩
 .exact absurd (show e.kind=1 from k) (by omega)
 .exact absurd (show e.kind=2 from k) (by omega)
 .rw [Zcs,ha] at hp
  simp at hp
 .rw [Zaw,ha] at hy
  rw[Zaw,ha']at hz;rw[Ze8,Ze8,if_pos (.inr (.inl h7)),if_pos (.inr (.inl h7'))]
  match i,hy,hz with
  |0,hy,hz=>cases hy;cases hz;exact h
  |1,hy,hz=>cases hy;cases hz;exact h
  |i+2,hy,_=>simp at hy
theorem Zj3 (e:Exp):shp e->∀a∈(Zau e).2,∀u∈Zah a,u∈Zav e:=by
 induction e using Exp.ind with
 |h e ih=>
  intro hs a ha u hu;by_cases h5:e.kind=5
  .obtain ⟨f,x,hk,sf,sx,ea⟩:=hs.app h5
   rw[ZcX h5 hk]at ha;have hf:f∈e.children:=Zar (by rw[hk];simp);have hx:x∈e.children:=Zar (by rw[hk];simp);rcases qn.1 ha with ha|ha
   .exact Zcl hf (ih f hf sf a ha u hu)
   .rw [ql] at ha
    exact Zcl hx (Zgo x u (ha▸hu))
  .rw [Zdh h5] at ha
   simp at ha
theorem Zhe:∀(n:Nat)(e x:Exp),e.weight<=n->okE e->okE x->ZaC e x [] []->ZgB (Zb0 subP Zav ZaY n e) (Zb0 subP Zav ZaY n x)
 |0,_,_,_,_,_,_=>trivial
 |n+1,e,x,hw,he,hx,h=>by
  have hwx:e.weight=x.weight:=ZdD e x _ _ he.1 hx.1 h;have h':=h;rw[ZaS]at h';obtain⟨hh,_,_,h4⟩:=h';have hkn:=he.1.one.2.2;have hkx:=hx.1.one.2.2;have hke:=hh.1;unfold Zb0
  match hek:e.kids,hxk:x.kids,hh.2.2.2.1 with
  |[],[],_=>simp only;trivial
  |[k],[k'],_=>
   rw[hek]at hkn;have hkd:e.kind=4\/e.kind=8\/e.kind=9\/e.kind=11:=by
    unfold ZgO at hkn;split at hkn
    .simp at hkn
    .split at hkn
     .assumption
     .simp at hkn
   obtain⟨harms,hch⟩:=h4 (by omega) (by omega);have c0:=hch 0 k k' (kidA hek) (kidA hxk);have mk:k∈e.children:=qb (kidA hek);have mk':k'∈x.children:=qb (kidA hxk);have hkw:=Exp.child_lt mk;have hkw':=Exp.child_lt mk';simp only[<-hke];by_cases h9:e.kind=9
   .rw [if_pos h9,if_pos h9]
    rw[Zam,Zam,if_neg (by omega),if_neg (by omega),if_neg (by omega),if_neg (by omega)]at c0;exact⟨c0,rfl⟩
   .rw [if_neg h9,if_neg h9]
    by_cases h11:e.kind=11
    .rw [if_pos h11,if_pos h11]
     rw[Zam,Zam,if_neg (by omega),if_neg (by omega),if_neg (by omega),if_neg (by omega)]at c0;exact⟨c0,rfl⟩
    .rw [if_neg h11,if_neg h11]
     by_cases h8:e.kind=8
     .rw [if_pos h8,if_pos h8]
      rw[Zam,Zam,if_neg (by omega),if_neg (by omega),if_neg (by omega),if_neg (by omega)]at c0;have ok:=he.child mk;have ok':=hx.child mk';obtain⟨s1,s2,s3⟩:=ZnS k k' ok.1 ok'.1 c0;have so:=Zgb k.weight k [] ok (by simp);have so':=Zgb k'.weight k' [] ok' (by simp);rw[ZcT _ k [] (qg _) ok.1]at so;rw[ZcT _ k' [] (qg _) ok'.1]at so';rw[ZcT _ k [] (qg _) ok.1,ZcT _ k' [] (qg _) ok'.1];simp only[qI]at so so' |-
      rw[ZaS]at s1;rw[<-s1.1.1];by_cases h2:(Zau k).1.kind=2
      .rw [if_pos h2,if_pos h2,<-s1.2.2.1 h2]
       exact ZmG he hx h8 hek hxk h s2 s3 so.2 so'.2 (fun a ha u hu=>Zcl mk (Zj3 k ok.1 a ha u hu)) fun a ha u hu=>Zcl mk' (Zj3 k' ok'.1 a ha u hu)
      .rw [if_neg h2,if_neg h2]
       refine Zm3 (List.ne_nil_of_mem mk) (List.ne_nil_of_mem mk') (by omega) (by omega) ?_ ?_ hh harms hch (Zhe n k k' (by omega) ok ok' c0)
       .rw[Zam,if_neg (by omega),if_neg (by omega)]
       .rw[Zam,if_neg (by omega),if_neg (by omega)]
     .rw [if_neg h8,if_neg h8]
      trivial
  |[f,a],[f',a'],_=>
   rw[hek]at hkn;have hkd:e.kind=5\/e.kind=6\/e.kind=7:=by
    unfold ZgO at hkn;split at hkn
    .assumption
    .split at hkn<;>simp at hkn
   obtain⟨harms,hch⟩:=h4 (by omega) (by omega);have c0:=hch 0 f f' (kidA hek) (kidA hxk);have c1:=hch 1 a a' (kidB hek) (kidB hxk);have mf:f∈e.children:=qb (kidA hek);have mf':f'∈x.children:=qb (kidA hxk);have ma:a∈e.children:=qb (kidB hek);have ma':a'∈x.children:=qb (kidB hxk);have of:=he.child mf;have of':=hx.child mf';have oa:=he.child ma;have oa':=hx.child ma';have hfw:=Exp.child_lt mf
   simp only[<-hke];rw[Zam,Zam]at c0 c1;simp only[<-hke]at c0 c1;rcases hkd with h5|h6|h7
   .rw [if_pos h5,if_pos h5]
    rw[if_neg (by omega),if_neg (by omega),if_neg (by omega),if_neg (by omega)]at c0 c1;have c0':=c0;rw[ZaS]at c0;rw[<-c0.1.1];by_cases hf4:f.kind=4
    .rw [if_pos hf4,if_pos hf4]
     have e1:f.kids.length=1:=(by rw[of.1.one.2.2,hf4];rfl);have e2:f'.kids.length=1:=(by rw[of'.1.one.2.2,<-c0.1.1,hf4];rfl);obtain⟨k,hk⟩:=List.length_eq_one_iff.1 e1;obtain⟨k',hk'⟩:=List.length_eq_one_iff.1 e2;rw[hk,hk'];have ck:=(c0.2.2.2 (by omega) (by omega)).2 0 k k' (kidA hk) (kidA hk');rw[Zam,Zam,if_pos (.inl hf4),if_pos (.inl (c0.1.1▸hf4))]at ck;have o:=of.child (qb (kidA hk))
     have o':=of'.child (qb (kidA hk'));exact⟨ZgU o.1 o'.1 oa.1 oa'.1 o.2.1 o'.2.1 ck c1,rfl⟩
    .rw [if_neg hf4,if_neg hf4]
     refine Zm3 (List.ne_nil_of_mem mf) (List.ne_nil_of_mem mf') (by omega) (by omega) ?_ ?_ hh harms hch (Zhe n f f' (by omega) of of' c0')
     .rw[Zam,if_neg (by omega),if_neg (by omega)]
     .rw[Zam,if_neg (by omega),if_neg (by omega)]
   .simp only [if_neg (show ¬e.kind=5 by omega),if_pos h6]
    rw[if_neg (by omega),if_neg (by omega),if_neg (by omega),if_neg (by omega)]at c0;rw[if_pos (.inr (.inr ⟨h6,by simp⟩)),if_pos (.inr (.inr ⟨h6,by simp⟩))]at c1;exact⟨ZgU oa.1 oa'.1 of.1 of'.1 oa.2.1 oa'.2.1 c1 c0,rfl⟩
   .simp only [if_neg (show ¬e.kind=5 by omega),if_neg (show ¬e.kind=6 by omega),if_pos h7]
    rw[if_pos (.inr (.inl h7)),if_pos (.inr (.inl h7))]at c0 c1;exact⟨ZgU oa.1 oa'.1 (Zc0 he h7 mf).1 (Zc0 hx (hke▸h7) mf').1 oa.2.1 oa'.2.1 c1 (Znd he hx h7 mf mf' hh c0),rfl⟩
  |_::_::_::_,_,_=>
   rw[hek]at hkn;unfold ZgO at hkn;split at hkn
   .simp at hkn
   .split at hkn<;>simp at hkn
theorem instR.conV (a:Exp):∀(c:Exp) (V:Rep),instR a c V->conV a->(∀s d,V s d->conV d)->conV c:=by
 induction a using Exp.ind with
 |h a ih=>
  intro c V h ht hv;by_cases hk:a.kind=1
  .exact hv _ _ (h.var hk)
  .obtain ⟨h1,_,h3,h4⟩:=h.node hk
   rw[Zcz]at ht |-;refine⟨fun q hq k=>?_,fun y hy=>?_⟩
   .obtain ⟨i,hi⟩:=qh.1 hq
    obtain⟨p,hp⟩:=Zaa (l:=a.arms) (i:=i) (by have:=(qd.1 hi).1;have:=h1.2.2.2.2;omega);rw[<-(h3 i p q hp hi).1];exact ht.1 p (qb hp) k
   .obtain ⟨i,hi⟩:=qh.1 hy
    obtain⟨x,hx⟩:=Zaa (l:=a.children) (i:=i) (by rw[h1.children];exact(qd.1 hi).1);refine ih x (qb hx) y _ (h4 i x y hx hi) (ht.2 x (qb hx)) fun s d hd=>?_;rcases hd with ⟨_,t,_,_,hvt⟩|⟨_,hd,_⟩
    .have hc:d.children=[]:=by simp [Exp.children,hvt.2.2.2.2.1,hvt.2.2.2.2.2]
     rw[Zcz,hc,hvt.2.2.2.2.2];exact⟨fun a h=>by simp at h,fun x h=>by simp at h⟩
    .exact hv s d hd
theorem ZiW {taken:List Str}{e y:Exp}{old names:List Str}(hy:y∈Za8 taken e old names):∃(i:Nat) (x:Exp),e.children[i]?=some x/\y=Zcc taken x (old++e.bound i) (names++news taken old.length (e.bound i).length):=by
 obtain⟨i,hi⟩:=qh.1 hy;have hlt:i<e.children.length:=by
  rcases qa0 i (Za8 taken e old names).length with h2|h2
  .rwa[canonC_len,<-e.children_len]at h2
  .rw[qO h2]at hi;cases hi
 obtain⟨x,hx⟩:=Zaa hlt;rw[Zec hx]at hi;cases hi;exact⟨i,x,hx,rfl⟩
theorem ZsR {taken:List Str}{n k:Nat}(h:n+k+taken.length<9000000000):∀s∈news taken n k,nameOk 97 122 s:=by
 intro s hs;obtain⟨j,hj,rfl⟩:=qF.1 hs;exact Zeb (by have:=qay.1 hj;omega)
theorem ZrB (taken:List Str)(e:Exp):∀old names,e.wf->lowE e->(∀s∈names,nameOk 97 122 s)->names.length=old.length->old.length+e.weight+taken.length<=536870912->lowE (Zcc taken e old names):=by
 induction e using Exp.ind with
 |h e ih=>
  intro old names hw h hn hl hb;by_cases hk:e.kind=1
  .obtain ⟨a1,a2,a3⟩:=ZbP hw.one hk
   rw[Zdi hk];split
   .rename_i hr
    have hm:=Zlc.1 hr;have hlt:=ZkN hm;obtain⟨t,ht⟩:=Zaa (l:=names) (i:=(rlast old e.name).toNat) (by omega);rw[Zc3,ht];refine⟨⟨fun _=>hn t (qb ht),fun q=>absurd (show e.kind=2 from q) (by omega),fun q=>absurd (show lowK e.kind from .inl hk) q,?_⟩,fun x hx=>?_⟩
    .rw [Zcs,a2]
     simp
    .simp[Zaw,a1,a2]at hx
   .exact h
  .obtain ⟨p1,p2,p3,p4,p5⟩:=Zdo (taken:=taken) (old:=old) (names:=names) hk hw.one
   have hf:nameOk 97 122 (Zax old.length taken):=Zeb (by omega);rw[Zc3,p2];refine⟨⟨?_,?_,?_,fun a ha=>?_⟩,fun y hy=>?_⟩
   .rw [ZcW hk,Zom,ZiA]
    intro hk2;split
    .exact hf
    .exact h.one.1 hk2
   .rw [ZcW hk,Zom,ZiA]
    intro hk2;rw[if_neg (by omega)];exact h.one.2.1 hk2
   .rw [ZcW hk,Zom,ZiA]
    intro hk2 hk3;rw[if_neg (fun q=>hk2 (.inr q))];exact h.one.2.2.1 hk2 hk3
   .obtain ⟨i,hi⟩:=qh.1 ha
    obtain⟨q,hq,_,h2⟩:=Zgm hk hi;have:=Exp.vars_le (qb hq);rw[h2];exact ZsR (by omega)
   .obtain ⟨i,x,hx,rfl⟩:=ZiW hy
    have hm:=qb hx;have hbc:=Zdp hx;refine ih x hm _ _ (hw.child hm) (h.child hm) (fun s hs=>?_) (by simp[hl]) (by rw[qC];omega);rcases qn.1 hs with hs|hs
    .exact hn s hs
    .exact ZsR (by omega) s hs
theorem Zr2 (taken:List Str)(e:Exp):∀old names,e.wf->posE e->posE (Zcc taken e old names):=by
 induction e using Exp.ind with
 |h e ih=>
  intro old names hw h;by_cases hk:e.kind=1
  .obtain ⟨a1,a2,a3⟩:=ZbP hw.one hk
   rw[Zdi hk];split
   .rw [ZgY]
    exact⟨h.one,fun x hx=>by simp[Zaw,a1,a2]at hx⟩
   .exact h
  .obtain ⟨p1,p2,p3,p4,p5⟩:=Zdo (taken:=taken) (old:=old) (names:=names) hk hw.one
   rw[ZgY,p2];refine⟨⟨?_,fun a ha=>?_⟩,fun y hy=>?_⟩
   .rw [ZcW hk]
    exact h.one.1
   .rw [ZcW hk,Zcs] at ha
    obtain⟨i,hi⟩:=qh.1 ha;rw[qah]at hi;cases hq:e.arms[i]? with
    |none=>rw[hq]at hi;simp at hi
    |some q=>
     rw[hq]at hi;cases hc:((Za8 taken e old names).drop e.kids.length)[i]? with
     |none=>rw[hc]at hi;simp at hi
     |some c=>
      rw[hc]at hi;simp only[qc]at hi;subst hi;exact h.one.2 q (qb hq)
   .obtain ⟨i,x,hx,rfl⟩:=ZiW hy
    have hm:=qb hx;exact ih x hm _ _ (hw.child hm) (h.child hm)
theorem Zq7 {e:Exp}{taken:List Str}(h:StE e)(hl:e.weight+taken.length<=16777216):StE (Zfq e taken):=by
 have ha:=(Zgh h.ok.1 (Zkg taken h.ok.1)).1 (ZhC e taken h.ok.1.wf);have hv:∀s d,idV s d->isVar s d:=fun s d hd=>ZbH.1 hd;have hfl:=Zd5 e;refine⟨⟨Zkg taken h.ok.1,ZkE taken h.ok.1.wf,ha.conV _ _ _ h.ok.2.2 fun s d hd=>?_⟩,ha.recZ _ _ _ h.rz fun s d hd=>(hv s d hd).recZ,⟨?_,ha.fix _ _ _ h.lf.2 fun s d hd=>?_⟩,Zr2 _ _ _ _ (Zgw e h.ok.1.wf) (ZjW e)⟩
 .have hvt:=hv s d hd
  have hc:d.children=[]:=by simp[Exp.children,hvt.2.2.2.2.1,hvt.2.2.2.2.2]
  rw[Zcz,hc,hvt.2.2.2.2.2];exact⟨fun a h=>by simp at h,fun x h=>by simp at h⟩
 .refine ZrB _ _ _ _ (Zgw e h.ok.1.wf) (Zl7 h.lf).1 (by simp) rfl ?_
  rw[ZeN];simp;omega
 .exact(hv s d hd).fix
theorem StE.alpha {e x:Exp}(he:StE e)(hx:StE x)(h:ZaC e x [] []):ZgB (Zb0 subP Zav ZaY e.weight e) (Zb0 subP Zav ZaY x.weight x):=by
 rw[<-ZdD e x _ _ he.ok.1 hx.ok.1 h];exact Zhe _ e x (qg _) he.ok hx.ok h
variable {A:Zab}
def SpineS (cur:Exp)(acc:List Exp):St:=if acc=[] then ⟨[(1,.sc (.ptr 64 0)),(2,.sc (.ptr 128 0)),(4,.sc .nil)],[(64,some (.box (wc cur.row))),(128,some (.box [zi,zi,zs,zi,.nil,.nil,zi,zs,zi,zi,.nil]))]⟩
 else ⟨[(1,.sc (.ptr 64 0)),(2,.sc (.ptr 128 0)),(4,Zhb acc)],[(64,some (.box (wc cur.row))),(128,some (.box [zi,zi,zs,zi,.nil,.nil,zi,zs,zi,zi,.nil])),(768,some (.arr 11 (wr (Exp.rows acc)) acc.length))]⟩
variable {A:Zab}
theorem ZlB (e:Exp)(hs:shp e):(Zau e).2.length<e.weight:=by
 have h1:=ZhD e hs;have h3:=(Zau e).1.weight_pos;omega
theorem Zvw (e:Exp)(hs:shp e)(hl:e.weight<=1073741824):(K A).call 41 [expV e] []=some (.tu [expV (Zau e).1,Zhb (Zau e).2],[]):=by
 refine fnO v41 ?_;have hsl:=ZlB e hs;unfold v41;simp(disch:=first|exact zd|fail) [-getElem?_pos];refine Zad (fun i s=>∃cur acc,shp cur/\acc.length=i/\Zau e=((Zau cur).1,(Zau cur).2++acc.reverse)/\
  s=⟨[(1,.sc (.ptr 64 0)),(2,.sc (.ptr 128 0)),(4,.sc (.arr 257 i))],[(64,some (.box (wc cur.row))),(128,some (.box [zi,zi,zs,zi,.nil,.nil,zi,zs,zi,zi,.nil])),(257,some (.arr 11 (wr (Exp.rows acc)) 0))]⟩) (Zau e).2.length ⟨e,[],hs,rfl,by simp,by simp⟩ ?_ ?_
 .rintro i s hi ⟨cur,acc,hc,ha,hs,rfl⟩
  have h5:cur.kind=5:=by
   by_cases h5:cur.kind=5
   .exact h5
   .rw [hs,Zdh h5] at hi
    simp[ha]at hi
  obtain⟨f,x,hfx,sf,sx,har⟩:=hc.app h5;unfold ZAQ;simp(disch:=first|exact zd|fail) [h5,hfx,ha,qN,-getElem?_pos];refine⟨f,sf,acc++[x],by simp[ha],?_,by simp[ha]⟩;rw[hs,ZcX h5 hfx];simp
 .rintro s ⟨cur,acc,hc,ha,hs,rfl⟩
  have h5:¬cur.kind=5:=by
   intro h5;obtain⟨f,x,hfx,sf,sx,har⟩:=hc.app h5;rw[hs,ZcX h5 hfx]at ha;simp at ha;omega
  have hr:(Zau e).2=acc.reverse:=by rw[hs,Zdh h5];simp
  have hc1:(Zau e).1=cur:=by rw[hs,Zdh h5]
  have hv:=ZnX (A:=A) acc (by omega);unfold ZAQ;simp(disch:=first|exact zd|fail) [h5,hv,hr,hc1,-getElem?_pos]
theorem made55 (e:Exp)(hs:shp e)(hl:e.weight<=1073741824):(K A).call 55 [expV e] []=some (Zaf (decide ((Zau e).1.kind=2)),[]):=by
 refine fnO v55 ?_;have h1:=Zvw (A:=A) e hs hl;unfold v55;by_cases h2:(Zau e).1.kind=2
 .simp(disch:=first|exact zd|fail) [h1,h2,-getElem?_pos]
 .simp(disch:=first|exact zd|fail) [h1,h2,-getElem?_pos]
def valP (e:Exp):Prop:=e.kind=3\/e.kind=4\/(Zau e).1.kind=2
instance (e:Exp):Decidable (valP e):=by unfold valP;exact inferInstance
variable {A:Zab}
theorem ZnJ (s:Str)(h:nameOk 97 122 s):(K A).call 97 [strV s] []=some (Zaf false,[]):=by
 refine fnO v97 ?_;have h1:=ZfU (A:=A) s h;unfold v97;simp(disch:=first|exact zd|fail) [h1]
theorem indexS (l:List Str)(hl:l.length<=1073741824)(h:∀s∈l,nameOk 97 122 s):(K A).call 147 [ZaF l,.sc (.c (.fn 97 [] []))] []=some (intV (-1),[]):=by
 refine fnO v147 ?_;unfold v147;simp(disch:=first|exact zd|fail) [-getElem?_pos];refine Zaj (fun i=>⟨[(0,ZaF l),(1,.sc (.c (.fn 97 [] []))),(7,intV l.length),(8,intV i)],[]⟩) l.length ?_ ?_ ?_
 .simp
 .intro i hi
  obtain⟨x,hx⟩:=Zaa hi;have h1:=ZnJ (A:=A) x (h x (qb hx));unfold Zpk;simp(disch:=first|exact zd|fail) [hi,hx,h1,-getElem?_pos]
 .unfold Zpk
  simp(disch:=first|exact zd|fail) [-getElem?_pos]
theorem ZzC (l:List Str)(hl:l.length<=1073741824)(h:∀s∈l,nameOk 97 122 s):(K A).call 96 [ZaF l,.sc (.c (.fn 97 [] []))] []=some (Zaf false,[]):=by
 refine fnO v96 ?_;have h1:=indexS (A:=A) l hl h;unfold v96;simp(disch:=first|exact zd|fail) [h1]
theorem indexE (l:List Exp)(hl:l.length<=1073741824)(h:∀x∈l,(K A).call 47 [expV x] []=some (Zaf true,[])):(K A).call 148 [Zhb l,.sc (.c (.fn 100 [] []))] []=some (intV (-1),[]):=by
 refine fnO v148 ?_;have hn:∀x∈l,(K A).call 100 [expV x] []=some (Zaf false,[]):=by
  intro x hx;have h1:=h x hx;refine fnO v100 ?_;unfold v100;simp(disch:=first|exact zd|fail) [h1]
 unfold v148;simp(disch:=first|exact zd|fail) [-getElem?_pos];refine Zaj (fun i=>⟨[(0,Zhb l),(1,.sc (.c (.fn 100 [] []))),(7,intV l.length),(8,intV i)],[]⟩) l.length ?_ ?_ ?_
 .simp
 .intro i hi
  obtain⟨x,hx⟩:=Zaa hi;have h1:=hn x (qb hx);unfold ZlZ;simp(disch:=first|exact zd|fail) [hi,hx,h1,-getElem?_pos]
 .unfold ZlZ
  simp(disch:=first|exact zd|fail) [-getElem?_pos]
theorem ZzS (l:List Exp)(hl:l.length<=1073741824)(h:∀x∈l,(K A).call 47 [expV x] []=some (Zaf true,[])):(K A).call 98 [Zhb l,.sc (.c (.fn 100 [] []))] []=some (Zaf false,[]):=by
 refine fnO v98 ?_;have h1:=indexE (A:=A) l hl h;unfold v98;simp(disch:=first|exact zd|fail) [h1]
theorem zeroTy:(K A).call 95 [.ag [zi,zs,zi,zi,.c (.sl [])],.ag [zi,zs,zi,zi,.c (.sl [])]] []=some (Zaf true,[]):=Zfp (n:=20) (by kernel_rfl)
end Go.Vs.Tryz
