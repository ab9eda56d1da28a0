/- Steps: heads and arguments, weights, and what is kept (plain). -/
import Derived.Test.YtccmnfpbcmccpaaGreatDoorRIs
set_option linter.unusedSimpArgs false
set_option linter.unusedVariables false
set_option linter.deprecated false
set_option maxRecDepth 9999
set_option maxHeartbeats 32000000
set_option maxRecDepth 10000
namespace Go.Vs.Tryz
open Go Go.Vs
theorem shp.app {e:Exp}(h:shp e)(h5:e.kind=5):∃f x,e.kids=[f,x]/\shp f/\shp x/\e.arms=[]:=by
 have ha:=h.one.1.2.1 (show ¬e.kind=8 by omega);have hk:e.kids.length=2:=by
  have:=h.one.2.2;rw[h5]at this;exact this
 match hkk:e.kids,hk with
 |[f,x],_=>exact⟨f,x,rfl,h.child (Zal (by grind)),h.child (Zal (by grind)),ha⟩
theorem Zir {P:Exp->Prop}(hP:∀e x,P e->x∈e.children->P x)(e:Exp):shp e->P e->P (Zao e).1/\∀x∈(Zao e).2,P x:=by
 induction e using Exp.ind with
 |h e ih=>
  intro hs h;by_cases h5:e.kind=5
  .obtain ⟨f,x,hk,sf,sx,ha⟩:=hs.app h5
   grind[Zal,Zdq,qj]
  grind[Zda]
theorem Zhr (e:Exp):shp e->(Zao e).1.weight+((Zao e).2.map Exp.weight).sum+(Zao e).2.length=e.weight:=by
 induction e using Exp.ind with
 |h e ih=>
  intro hs;by_cases h5:e.kind=5
  .obtain ⟨f,x,hk,sf,sx,ha⟩:=hs.app h5
   have:=ih f (Zal (by grind)) sf;rw[Zdq h5 hk,e.weight_eq,Exp.children,hk,ha];grind
  grind[Zda]
theorem ZxM {e x:Exp}(hs:shp e)(hx:x∈(Zao e).2):x.weight<e.weight:=by
 have h1:=Zhr e hs;have h2:=ZcA (qaI (f:=Exp.weight) hx);grind
theorem ZeP:∀(n:Nat)(e:Exp)(l:List Exp),e.weight<=n->shp e->Zd8 n e l=((Zao e).1,(Zao e).2++l)
 |0,e,_,h,_=>by have:=e.weight_pos;omega
 |n+1,e,l,h,hs=>by
  unfold Zd8;by_cases h5:e.kind=5
  .obtain ⟨f,x,hk,sf,sx,ha⟩:=hs.app h5
   have hf:=Exp.child_lt (e:=e) (x:=f) (Zal (by grind));rw[if_pos h5,hk,Zdq h5 hk];show Zd8 n f (x::l)=_;rw[ZeP n f (x::l) (by omega) sf];simp
  grind[Zda]
theorem Zkl (e:Exp):(Zav e).length=e.weight:=by
 induction e using Exp.ind with
 |h e ih=>
  have h1:(e.children.map Zav).flatten.length=(e.children.map Exp.weight).sum:=by
   grind[qJ]
  have h2:(e.arms.map fun a=>a.1.vars).flatten.length=(e.arms.map fun a=>a.1.vars.length).sum:=by
   rw[qaH,qam];rfl
  rw[Zes,e.weight_eq,qG,qv,h1,h2];omega
theorem Zjv {e x:Exp}(hx:x∈e.children){s:Str}(h:s∈Zav x):s∈Zav e:=by
 grind[Zes]
theorem ZsB (e:Exp):∀s∈Zaf e,s∈Zav e:=by
 induction e using Exp.ind<;>grind[ZaZ,Zes,Zbs]
theorem Ztr {x:Str}{e b:Exp}(he:okE e)(hb:okE b):(subP e x b).weight<=e.weight*b.weight:=by
 have h1:=ZzL (subP e x b) (fun _=>1) (ZdL he hb).1 fun _=>qe _;have h2:=ZrP (x:=x) (b:=b) (e:=e) (n:=e.weight) hb.1 (qe _) he.1 he.2.1 fun _=>1;have h3:=ZtO (M:=b.weight) b.weight_pos e (fun s=>if s=x then wV b (fun _=>1) else 1) fun s _=>by
  split
  .have:=ZtO (qe 1) b (fun _=>1) fun _ _=>qe _
   omega
  .exact b.weight_pos
 grind[subP]
theorem ZeF {e f:Exp}(he:okE e)(hk:e.kind=7):(ZaR e f).weight=1+2*f.weight:=by
 have ha:=he.1.one.1.2.1 (show ¬e.kind=8 by omega);grind[ZaR,Zbh]
theorem Zmw {e f:Exp}(he:okE e)(hk:e.kind=7)(h:lfE e)(hf:f∈e.children):lfE (ZaR e f):=by
 have ha:=he.1.one.1.2.1 (show ¬e.kind=8 by omega);have hc:(ZaR e f).children=[f,f]:=by grind[ZaR,ZaC]
 have hm:∀y∈(ZaR e f).children,y=f:=fun y hy=>by grind
 refine⟨?_,?_⟩
 .rw [ZdP]
  exact⟨h.1.one,fun y hy=>hm y hy▸h.1.child hf⟩
 .rw [Ze0]
  exact⟨h.2.one,fun y hy=>hm y hy▸h.2.child hf⟩
theorem Zeq (l m:List (Str×Exp))(e:Exp):ZaV (l++m) e=ZaV m (ZaV l e):=by
 grind[ZaV]
theorem ZlZ:∀(l:List (Str×Exp))(e:Exp),okE e->lfE e->e.weight<=16777216->(∀p∈l,∃t,p.2=varX t/\nameOk 97 122 t)->okE (ZaV l e)/\lfE (ZaV l e)/\(ZaV l e).weight<=e.weight
 |[],_,h1,h2,_,_=>⟨h1,h2,qe _⟩
 |p::l,e,h1,h2,hw,hl=>by
  obtain⟨t,ht,hn⟩:=hl p (by simp);have hwt:(subP e p.1 p.2).weight<=e.weight:=by grind[Zkz]
  rw[ZcK];obtain⟨g1,g2,g3⟩:=ZlZ l (subP e p.1 p.2) (by grind[ZdL,Zdy]) (by rw[ht];exact Ziq h1 (Zdy t) hw (by rw[Zng];omega) h2 ⟨Zxm hn,ZxF t⟩) (by omega) fun q hq=>hl q (by grind);grind
theorem Zmn:∀(l:List (Str×Exp))(e:Exp),okE e->lfE e->(∀k,(ZaV (l.take k) e).weight<=16777216)->(∀p∈l,okE p.2/\lfE p.2/\p.2.weight<=16777216)->okE (ZaV l e)/\lfE (ZaV l e)
 |[],_,he,h,_,_=>⟨he,h⟩
 |p::l,e,he,h,hw,hl=>by
  obtain⟨h1,h2,h3⟩:=hl p (by simp);rw[ZcK];refine Zmn l _ (ZdL he h1) (Ziq he h1 ?_ h3 h h2) (fun k=>?_) fun q hq=>hl q (by grind)
  .have:=hw 0
   grind[ZaV]
  .have:=hw (k+1)
   grind[ZcK]
theorem ZsH {x y:Nat}(h:x+y<=6000):x*y<=16777216:=by
 by_cases h1:x<=2000
 .have:=qaR h1 (show y<=6000 by omega)
  omega
 .by_cases h2:y<=2000
  .have:=qaR (show x<=6000 by omega) h2
   omega
  .have:=qaR (show x<=4000 by omega) (show y<=4000 by omega)
   omega
def renL (T:List Str)(vars:List Str):List (Str×Exp):=vars.zipIdx.map fun p=>(p.1,varX (Zat p.2 T))
def argL (T:List Str)(args:List Exp):List (Str×Exp):=args.zipIdx.map fun p=>(Zat p.2 T,p.1)
theorem ZxP (T vars:List Str)(args:List Exp):Zh6 T vars args=renL T vars++argL T args:=rfl
theorem ZxG {T vars:List Str}{p:Str×Exp}(h:p∈renL T vars)(hl:vars.length+T.length<9000000000):∃t,p.2=varX t/\nameOk 97 122 t:=by
 obtain⟨⟨v,i⟩,hr,rfl⟩:=qH.1 h;grind[ZgZ]
theorem ZpB {T:List Str}{args:List Exp}{p:Str×Exp}(h:p∈argL T args):p.2∈args/\p.1∉T:=by
 obtain⟨⟨y,i⟩,hr,rfl⟩:=qH.1 h;grind[Zbn]
structure CaseOk (e k:Exp)(a:ArmH×Exp):Prop where
 ok:okE e
 lf:lfE e
 wt:e.weight<=6000
 kk:e.kids=[k]
 am:a∈e.arms
theorem CaseOk.sum {e k:Exp}{a:ArmH×Exp}(h:CaseOk e k a):a.2.weight+a.1.vars.length+k.weight+1<=e.weight:=by
 have h1:(e.children.map Exp.weight).sum=(e.kids.map Exp.weight).sum+((e.arms.map (·.2)).map Exp.weight).sum:=by grind[Exp.children]
 have h2:a.2.weight<=((e.arms.map (·.2)).map Exp.weight).sum:=ZcA (qaI (f:=Exp.weight) (qaI (f:=fun x:ArmH×Exp=>x.2) h.am));have h3:a.1.vars.length<=(e.arms.map fun a=>a.1.vars.length).sum:=ZcA (qaI (f:=fun a:ArmH×Exp=>a.1.vars.length) h.am);have h4:=e.weight_eq;rw[h1,h.kk]at h4;grind
theorem CaseOk.kid {e k:Exp}{a:ArmH×Exp}(h:CaseOk e k a):k∈e.children:=Zal (by rw[h.kk];simp)
theorem CaseOk.args {e k:Exp}{a:ArmH×Exp}(h:CaseOk e k a):∀x∈(Zao k).2,okE x/\lfE x/\x.weight<=k.weight/\∀s∈Zaf x,s∈Zav e:=by
 have hk:=h.kid;have hs:=(h.ok.child hk).1;have h1:=(Zir (P:=okE) (fun _ _ q hx=>q.child hx) k hs (h.ok.child hk)).2;have h2:=(Zir (P:=lfE) (fun _ _ q hx=>q.child hx) k hs (h.lf.child hk)).2;have h3:=(Zir (P:=fun y=>∀s∈Zav y,s∈Zav e) (fun _ _ q hx s hs=>q s (Zjv hx hs)) k hs (fun s hs=>Zjv hk hs)).2;exact fun x hx=>⟨h1 x hx,h2 x hx,Nat.le_of_lt (ZxM hs hx),fun s q=>h3 x hx s (ZsB x s q)⟩
theorem CaseOk.ren {e k:Exp}{a:ArmH×Exp}(h:CaseOk e k a)(j:Nat):okE (ZaV ((renL (Zav e) a.1.vars).take j) a.2)/\lfE (ZaV ((renL (Zav e) a.1.vars).take j) a.2)/\(ZaV ((renL (Zav e) a.1.vars).take j) a.2).weight<=a.2.weight:=by
 have hs:=h.sum;have hw:=h.wt;have hm:=Zbt h.am;have hu:=Zkl e;exact ZlZ _ a.2 (h.ok.child hm) (h.lf.child hm) (by omega) fun p hp=>ZxG (qak hp) (by omega)
theorem CaseOk.sub {e k:Exp}{a:ArmH×Exp}(h:CaseOk e k a)(j:Nat):okE (ZaV ((argL (Zav e) (Zao k).2).take j) (ZaV (renL (Zav e) a.1.vars) a.2))/\lfE (ZaV ((argL (Zav e) (Zao k).2).take j) (ZaV (renL (Zav e) a.1.vars) a.2))/\
 (ZaV ((argL (Zav e) (Zao k).2).take j) (ZaV (renL (Zav e) a.1.vars) a.2)).weight<=a.2.weight*k.weight/\a.2.weight*k.weight<=16777216:=by
 obtain⟨r1,r2,r3⟩:=h.ren (renL (Zav e) a.1.vars).length;rw[qaO]at r1 r2 r3;generalize ZaV (renL (Zav e) a.1.vars) a.2=b at *
 have hs:=h.sum;have hw:=h.wt;have hkp:=k.weight_pos;have hmul:a.2.weight*k.weight<=16777216:=ZsH (by omega);have hbm:b.weight*k.weight<=a.2.weight*k.weight:=qA _ r3;have hA:=h.args;have hL:∀p∈argL (Zav e) (Zao k).2,okE p.2/\p.2.weight<=k.weight/\∀q∈argL (Zav e) (Zao k).2,q.1∉Zaf p.2:=fun p hp=>by
  obtain⟨a1,_,a3,a4⟩:=hA p.2 (ZpB hp).1;exact⟨a1,a3,fun q hq hf=>(ZpB hq).2 (a4 _ hf)⟩
 have hT:∀j,(ZaV ((argL (Zav e) (Zao k).2).take j) b).weight<=b.weight*k.weight:=fun j=>ZqB hkp r1 hL j;grind[Zmn,argL]
theorem Zfg:∀(n:Nat)(e:Exp)(p:Exp×Nat),e.weight<=n->okE e->lfE e->e.weight<=6000->ZaO subP Zav ZaR n e=some p->lfE p.1/\p.1.weight<=e.weight*(2*e.weight+1)
 |0,_,_,_,_,_,_,h=>by cases h
 |n+1,e,p,hn,he,hl,hw,h=>by
  have hpos:=e.weight_pos;have big:∀x y:Nat,x<=e.weight->y<=2*e.weight+1->x*y<=e.weight*(2*e.weight+1):=fun x y hx hy=>qaR hx hy;have up:∀(c:Exp) (q:Exp×Nat),c∈e.children->e.children≠[]->e.children.head?=some c->lfE q.1->q.1.weight<=c.weight*(2*c.weight+1)->lfE (Za6 e (q.1::e.children.tail))/\(Za6 e (q.1::e.children.tail)).weight<=e.weight*(2*e.weight+1):=by
   intro c q hc hne hh hq hqw;have hlen:(q.1::e.children.tail).length=e.kids.length+e.arms.length:=by
    have:=e.children_len;grind
   have hmem:∀y∈q.1::e.children.tail,lfE y:=fun y hy=>by
    rcases qz.1 hy with rfl|hy
    omega
    .exact hl.child (List.mem_of_mem_tail hy)
   refine⟨⟨ZkN hlen hl.1 fun y hy=>(hmem y hy).1,Zxc hlen hl.2 fun y hy=>(hmem y hy).2⟩,?_⟩;have h1:=ZhT hlen;have h2:=e.weight_eq;cases hcc:e.children with
   |nil=>grind
   |cons d l=>
    rw[hcc]at hh h1 h2;simp only[List.head?_cons,qb]at hh;subst hh;simp only[List.tail_cons,qq,qS]at h1 h2;rw[List.tail_cons];have h3:d.weight*(2*d.weight+1)<=d.weight*(2*e.weight+1):=Nat.mul_le_mul_left _ (by omega);grind[qaZ]
  unfold ZaO at h;split at h
  .rename_i f a hk
   have hf:f∈e.children:=Zal (by grind);have ha:a∈e.children:=Zal (by grind);have hne:e.children≠[]:=fun q=>by grind
   have hhd:e.children.head?=some f:=(by grind[Exp.children]);have hfl:=Exp.child_lt hf;have hal:=Exp.child_lt ha;split at h
   .split at h
    .split at h
     .rename_i k hfk
      cases h;have hkf:=Zal (e:=f) (x:=k) (by grind);have hkl:=Exp.child_lt hkf;refine⟨Ziq ((he.child hf).child hkf) (he.child ha) (by omega) (by omega) ((hl.child hf).child hkf) (hl.child ha),?_⟩;exact qu (Ztr ((he.child hf).child hkf) (he.child ha)) (big _ _ (by omega) (by omega))
     grind
    .obtain ⟨q,hq,rfl⟩:=qo.1 h
     obtain⟨h1,h2⟩:=Zfg n f q (by omega) (he.child hf) (hl.child hf) (by omega) hq;grind
   .split at h
    .cases h
     refine⟨Ziq (he.child ha) (he.child hf) (by omega) (by omega) (hl.child ha) (hl.child hf),?_⟩;exact qu (Ztr (he.child ha) (he.child hf)) (big _ _ (by omega) (by omega))
    .split at h
     .rename_i h7
      cases h;have hag:=ZeF (f:=f) he h7;refine⟨Ziq (he.child ha) (Zc0 he h7 hf) (by omega) (by omega) (hl.child ha) (Zmw he h7 hl hf),?_⟩;exact qu (Ztr (he.child ha) (Zc0 he h7 hf)) (big _ _ (by omega) (by omega))
     grind
  .rename_i k hk
   have hm:k∈e.children:=Zal (by grind);have hne:e.children≠[]:=fun q=>by grind
   have hhd:e.children.head?=some k:=(by grind[Exp.children]);have hkl:=Exp.child_lt hm;have one:lfE k/\k.weight<=e.weight*(2*e.weight+1):=⟨hl.child hm,by grind⟩;split at h;grind
   .split at h
    grind
    .split at h
     .split at h
      .rw [ZeP k.weight k [] (qe _) (he.child hm).1,qF] at h
       simp only at h;unfold ZbB at h;cases hfd:e.arms.find? fun a=>a.1.con==(Zao k).1.name with
       |none=>grind
       |some a=>
        rw[hfd]at h;simp only at h;split at h
        .cases h
         have hC:CaseOk e k a:=⟨he,hl,hw,hk,qaw hfd⟩;obtain⟨s1,s2,s3,s4⟩:=hC.sub (argL (Zav e) (Zao k).2).length;rw[qaO]at s1 s2 s3;have hsum:=hC.sum;have hch:ZpJ subP (Zh6 (Zav e) a.1.vars (Zao k).2) a.2=ZaV (argL (Zav e) (Zao k).2) (ZaV (renL (Zav e) a.1.vars) a.2):=by
          rw[ZxP,<-Zeq];rfl
         simp only;rw[hch];exact⟨s2,qu s3 (big _ _ (by omega) (by omega))⟩
        grind
      .obtain ⟨q,hq,rfl⟩:=qo.1 h
       obtain⟨h1,h2⟩:=Zfg n k q (by omega) (he.child hm) (hl.child hm) (by omega) hq;grind
     grind
  grind
def ZbX (e:Exp):Nat:=e.fold fun _ l=>1+l.sum
theorem Zie (e:Exp):ZbX e=1+(e.children.map ZbX).sum:=Exp.fold_eq _ e
theorem Zlv (e:Exp):fixE e->e.weight+2<=3*ZbX e:=by
 induction e using Exp.ind with
 |h e ih=>
  intro h;have h1:∀l:List Exp,(∀x∈l,x.weight+2<=3*ZbX x)->(l.map Exp.weight).sum+2*l.length<=3*(l.map ZbX).sum:=by
   intro l
   induction l<;>grind
  have h2:=h1 e.children fun x hx=>ih x hx (h.child hx);have h3:(e.arms.map fun a=>a.1.vars.length).sum<=2*e.arms.length:=by
   have:=Zgu (l:=e.arms) (f:=fun a=>a.1.vars.length) (g:=fun _=>2) fun a ha=>(h.one.2.2.2.2.2.2 a ha).2;simp only[List.map_const',List.sum_replicate_nat]at this;omega
  have h4:=e.children_len;rw[e.weight_eq,Zie];omega
theorem ZmQ (e:Exp):ZbX e<=e.weight:=by
 induction e using Exp.ind with
 |h e ih=>
  have:=Zgu (l:=e.children) (f:=ZbX) (g:=Exp.weight) ih;rw[Zie,e.weight_eq];omega
theorem mkE.low {ds:List DataD}(hc:Zdz ds){e:Exp}:mkE ds e->lowE e:=by
 induction e using Exp.ind with
 |h e ih=>
  intro h;have hall:∀s∈ZbK,nameOk 97 122 s:=by
   intro s hs;simp only[ZbK,Zbl,ql,qz,qU,or_false]at hs;rcases hs with (rfl|rfl|rfl|rfl|rfl|rfl|rfl|rfl)|(rfl|rfl|rfl|rfl|rfl)<;>exact⟨by decide,⟨_,rfl,by decide,by decide⟩,by decide,by decide⟩
  have hcon:∀s,cOk ds s->nameOk 65 90 s:=by
   rintro s (rfl|⟨d,hd,c,hcc,rfl⟩)
   .exact⟨by decide,⟨_,rfl,by decide,by decide⟩,by decide,by decide⟩
   .exact hc d hd c hcc
  obtain⟨_,h2,_,_,_,h6⟩:=h.one;rw[ZdP];refine⟨⟨?_,?_,?_,fun a ha v hv=>hall v ((h2 a ha).2.2.2.2 v hv)⟩,fun x hx=>ih x hx (h.child hx)⟩
  .unfold lowK
   rcases h6 with ⟨k,n,_⟩|⟨k,n,_⟩|⟨k,n,_⟩|⟨k,n,_⟩|⟨k,n,_⟩|⟨k,n,_⟩|⟨k,n,_⟩|⟨k,n,_⟩<;>grind
  .rcases h6 with ⟨k,n,_⟩|⟨k,n,_⟩|⟨k,n,_⟩|⟨k,n,_⟩|⟨k,n,_⟩|⟨k,n,_⟩|⟨k,n,_⟩|⟨k,n,_⟩<;>grind
  .unfold lowK
   rcases h6 with ⟨k,n,_⟩|⟨k,n,_⟩|⟨k,n,_⟩|⟨k,n,_⟩|⟨k,n,_⟩|⟨k,n,_⟩|⟨k,n,_⟩|⟨k,n,_⟩<;>grind
theorem mkE.fix {ds:List DataD}(hc:Zdz ds){e:Exp}:mkE ds e->fixE e:=by
 induction e using Exp.ind with
 |h e ih=>
  intro h;have hcon:∀s,cOk ds s->nameOk 65 90 s:=by
   rintro s (rfl|⟨d,hd,c,hcc,rfl⟩)
   .exact⟨by decide,⟨_,rfl,by decide,by decide⟩,by decide,by decide⟩
   .exact hc d hd c hcc
  obtain⟨_,h2,h3,h4,h5,h6⟩:=h.one;rw[Ze0];refine⟨⟨?_,?_,⟨h5.1,h5.2.1,by have:=h5.2.2;omega⟩,h3,h4,?_,fun a ha=>⟨hcon _ (h2 a ha).2.1,(h2 a ha).2.2.1⟩⟩,fun x hx=>ih x hx (h.child hx)⟩
  .rcases h6 with ⟨k,_⟩|⟨k,_⟩|⟨k,_⟩|⟨k,_⟩|⟨k,_⟩|⟨k,_⟩|⟨k,_⟩|⟨k,_⟩<;>omega
  .rcases h6 with ⟨k,_⟩|⟨k,_⟩|⟨k,_⟩|⟨k,_⟩|⟨k,_⟩|⟨k,_⟩|⟨k,_⟩|⟨k,_⟩<;>omega
  .rcases h6 with ⟨k,_⟩|⟨k,_⟩|⟨k,_⟩|⟨k,_⟩|⟨k,_⟩|⟨k,_⟩|⟨k,_⟩|⟨k,_,_,ha⟩<;>grind
theorem mkE.shp {ds:List DataD}{e:Exp}:mkE ds e->shp e:=by
 induction e using Exp.ind with
 |h e ih=>
  intro h;obtain⟨h1,h2,h3,h4,h5,h6⟩:=h.one;rw[ZeC];refine⟨⟨h.one.wf1,fun k=>⟨h5.1 (by omega),h4.1 (by omega)⟩,?_⟩,fun x hx=>ih x hx (h.child hx)⟩;rcases h6 with ⟨k,_,hk,_⟩|⟨k,_,hk,_⟩|⟨k,_,hk,_⟩|⟨k,_,⟨x,hk⟩,_⟩|⟨k,_,⟨x,y,hk⟩,_⟩|⟨k,_,⟨x,y,hk⟩,_⟩|⟨k,_,⟨x,hk⟩,_⟩|⟨k,_,⟨x,hk⟩,_⟩
  .rw[hk,k];rfl
  .rw[hk,k];rfl
  .rw[hk];rcases k with k | k<;>rw[k]<;>rfl
  .rw[hk,k];rfl
  .rw[hk,k];rfl
  .rw[hk];rcases k with k | k<;>rw[k]<;>rfl
  .rw[hk];rcases k with k | k<;>rw[k]<;>rfl
  .rw[hk,k];rfl
theorem mkE.proper {ds:List DataD}{e:Exp}:mkE ds e->properP e:=by
 induction e using Exp.ind with
 |h e ih=>
  intro h;rw[ZbC];exact⟨fun a ha=>inj_of (h.one.2.1 a ha).2.2.2.1,fun x hx=>ih x hx (h.child hx)⟩
theorem mkE.con {ds:List DataD}(hc:Zdz ds){e:Exp}:mkE ds e->conV e:=by
 induction e using Exp.ind with
 |h e ih=>
  intro h;rw[Zdr];refine⟨fun a ha k hk=>?_,fun x hx=>ih x hx (h.child hx)⟩;have hcon:nameOk 65 90 a.1.con:=by
   rcases (h.one.2.1 a ha).2.1 with q|⟨d,hd,c,hcc,q⟩
   .rw [q]
    exact⟨by decide,⟨_,rfl,by decide,by decide⟩,by decide,by decide⟩
   .rw [q]
    exact hc d hd c hcc
  rw[hk]at hcon;obtain⟨_,⟨c,q1,q2,q3⟩,_⟩:=hcon;unfold Zbj at q1;simp only[qI,qb]at q1;rw[<-q1]at q3;grind
theorem mkE.recZ {ds:List DataD}{e:Exp}:mkE ds e->recZ e:=by
 induction e using Exp.ind with
 |h e ih=>
  intro h;obtain⟨h1,h2,h3,h4,h5,h6⟩:=h.one;rw[ZeR];exact⟨fun k=>⟨h5.1 (by omega),h4.1 (by omega)⟩,fun x hx=>ih x hx (h.child hx)⟩
def posE (e:Exp):Prop:=e.fold fun e l=>(e.pos=0/\∀a∈e.arms,a.1.pos=0)/\∀p∈l,p
theorem ZkL (e:Exp):posE e=((e.pos=0/\∀a∈e.arms,a.1.pos=0)/\∀x∈e.children,posE x):=by
 have:=Exp.fold_eq (fun e (l:List Prop)=>(e.pos=0/\∀a∈e.arms,a.1.pos=0)/\∀p∈l,p) e;unfold posE;rw[this];simp only[qO]
theorem posE.one {e:Exp}(h:posE e):e.pos=0/\∀a∈e.arms,a.1.pos=0:=by grind[ZkL]
theorem posE.child {e x:Exp}(h:posE e)(hx:x∈e.children):posE x:=by grind[ZkL]
theorem mkE.pos {ds:List DataD}{e:Exp}:mkE ds e->posE e:=by
 induction e using Exp.ind with
 |h e ih=>
  intro h;rw[ZkL];exact⟨⟨h.one.1,fun a ha=>(h.one.2.1 a ha).1⟩,fun x hx=>ih x hx (h.child hx)⟩
theorem Zqh (e:Exp):posE (Zan e):=by
 induction e using Exp.ind with
 |h e ih=>
  rw[ZkL];refine⟨?_,fun x hx=>?_⟩
  .rw [ZdT]
   refine⟨rfl,fun a ha=>?_⟩;grind[Zha,ZcL,qk]
  grind[ZbM]
structure StE (e:Exp):Prop where
 ok:okE e
 rz:recZ e
 lf:lfE e
 ps:posE e
theorem mkE.stE {ds:List DataD}(hc:Zdz ds){e:Exp}(h:mkE ds e):StE e:=⟨⟨h.shp,h.proper,h.con hc⟩,h.recZ,⟨h.low hc,h.fix hc⟩,h.pos⟩
theorem StE.step {e:Exp}(h:StE e)(hw:e.weight<=6000){p:Exp×Nat}(hp:ZaO subP Zav ZaR e.weight e=some p):StE (Zan p.1):=by
 obtain⟨h1,h2⟩:=ZqO _ e p h.ok h.rz hp;exact⟨h1,h2,ZuJ (Zfg _ e p (qe _) h.ok h.lf hw hp).1,Zqh _⟩
variable {A:Zab}
def SpineS (cur:Exp)(acc:List Exp):St:=if acc=[] then ⟨[(1,.sc (.ptr 64 0)),(2,.sc (.ptr 128 0)),(4,.sc .nil)],[(64,some (.box (wc cur.row))),(128,some (.box [zi,zi,zs,zi,.nil,.nil,zi,zs,zi,zi,.nil]))]⟩
 else ⟨[(1,.sc (.ptr 64 0)),(2,.sc (.ptr 128 0)),(4,Zen acc)],[(64,some (.box (wc cur.row))),(128,some (.box [zi,zi,zs,zi,.nil,.nil,zi,zs,zi,zi,.nil])),(768,some (.arr 11 (wr (Exp.rows acc)) acc.length))]⟩
variable {A:Zab}
theorem Zgo (e:Exp)(hs:shp e):(Zao e).2.length<e.weight:=by
 have h1:=Zhr e hs;have h3:=(Zao e).1.weight_pos;omega
theorem Zsq (e:Exp)(hs:shp e)(hl:e.weight<=1073741824):(K A).call 41 [expV e] []=some (.tu [expV (Zao e).1,Zen (Zao e).2],[]):=by
 refine fnO v41 ?_;have hsl:=Zgo e hs;unfold v41;simp(disch:=first|exact zd|fail) [-getElem?_pos];refine Zad (fun i s=>∃cur acc,shp cur/\acc.length=i/\Zao e=((Zao cur).1,(Zao cur).2++acc.reverse)/\
  s=⟨[(1,.sc (.ptr 64 0)),(2,.sc (.ptr 128 0)),(4,.sc (.arr 257 i))],[(64,some (.box (wc cur.row))),(128,some (.box [zi,zi,zs,zi,.nil,.nil,zi,zs,zi,zi,.nil])),(257,some (.arr 11 (wr (Exp.rows acc)) 0))]⟩) (Zao e).2.length ⟨e,[],hs,rfl,by simp,by simp⟩ ?_ ?_
 .rintro i s hi ⟨cur,acc,hc,ha,hs,rfl⟩
  have h5:cur.kind=5:=by
   by_cases h5:cur.kind=5
   .exact h5
   .rw [hs,Zda h5] at hi
    simp[ha]at hi
  obtain⟨f,x,hfx,sf,sx,har⟩:=hc.app h5;unfold ZBm;simp(disch:=first|exact zd|fail) [h5,hfx,ha,qI,-getElem?_pos];refine⟨f,sf,acc++[x],by simp[ha],?_,by simp[ha]⟩;rw[hs,Zdq h5 hfx];simp
 .rintro s ⟨cur,acc,hc,ha,hs,rfl⟩
  have h5:¬cur.kind=5:=by
   intro h5;obtain⟨f,x,hfx,sf,sx,har⟩:=hc.app h5;rw[hs,Zdq h5 hfx]at ha;simp at ha;omega
  have hr:(Zao e).2=acc.reverse:=by rw[hs,Zda h5];simp
  have hc1:(Zao e).1=cur:=by rw[hs,Zda h5]
  have hv:=ZnO (A:=A) acc (by omega);unfold ZBm;simp(disch:=first|exact zd|fail) [h5,hv,hr,hc1,-getElem?_pos]
theorem ZyR (e:Exp)(hs:shp e)(hl:e.weight<=1073741824):(K A).call 55 [expV e] []=some (Zae (decide ((Zao e).1.kind=2)),[]):=by
 refine fnO v55 ?_;have h1:=Zsq (A:=A) e hs hl;unfold v55;by_cases h2:(Zao e).1.kind=2
 .simp(disch:=first|exact zd|fail) [h1,h2,-getElem?_pos]
 .simp(disch:=first|exact zd|fail) [h1,h2,-getElem?_pos]
def valP (e:Exp):Prop:=e.kind=3\/e.kind=4\/(Zao e).1.kind=2
instance (e:Exp):Decidable (valP e):=by unfold valP;exact inferInstance
theorem Zua (e:Exp)(hs:shp e)(hl:e.weight<=1073741824):(K A).call 19 [expV e] []=some (Zae (decide (valP e)),[]):=by
 refine fnO v19 ?_;have h1:=ZyR (A:=A) e hs hl;unfold v19 valP;by_cases h3:e.kind=3
 .simp(disch:=first|exact zd|fail) [h3,-getElem?_pos]
 .by_cases h4:e.kind=4
  .simp(disch:=first|exact zd|fail) [h4,-getElem?_pos]
  .simp(disch:=first|exact zd|fail) [h3,h4,h1,-getElem?_pos]
variable {A:Zab}
theorem Znr (s:Str)(h:nameOk 97 122 s):(K A).call 97 [strV s] []=some (Zae false,[]):=by
 refine fnO v97 ?_;have h1:=ZfW (A:=A) s h;unfold v97;simp(disch:=first|exact zd|fail) [h1]
theorem indexS (l:List Str)(hl:l.length<=1073741824)(h:∀s∈l,nameOk 97 122 s):(K A).call 147 [Za3 l,.sc (.c (.fn 97 [] []))] []=some (intV (-1),[]):=by
 refine fnO v147 ?_;unfold v147;simp(disch:=first|exact zd|fail) [-getElem?_pos];refine Zak (fun i=>⟨[(0,Za3 l),(1,.sc (.c (.fn 97 [] []))),(7,intV l.length),(8,intV i)],[]⟩) l.length ?_ ?_ ?_
 .simp
 .intro i hi
  obtain⟨x,hx⟩:=Zaa hi;have h1:=Znr (A:=A) x (h x (qa hx));unfold Zpu;simp(disch:=first|exact zd|fail) [hi,hx,h1,-getElem?_pos]
 .unfold Zpu
  simp(disch:=first|exact zd|fail) [-getElem?_pos]
theorem Zzz (l:List Str)(hl:l.length<=1073741824)(h:∀s∈l,nameOk 97 122 s):(K A).call 96 [Za3 l,.sc (.c (.fn 97 [] []))] []=some (Zae false,[]):=by
 refine fnO v96 ?_;have h1:=indexS (A:=A) l hl h;unfold v96;simp(disch:=first|exact zd|fail) [h1]
theorem indexE (l:List Exp)(hl:l.length<=1073741824)(h:∀x∈l,(K A).call 47 [expV x] []=some (Zae true,[])):(K A).call 148 [Zen l,.sc (.c (.fn 100 [] []))] []=some (intV (-1),[]):=by
 refine fnO v148 ?_;have hn:∀x∈l,(K A).call 100 [expV x] []=some (Zae false,[]):=by
  intro x hx;have h1:=h x hx;refine fnO v100 ?_;unfold v100;simp(disch:=first|exact zd|fail) [h1]
 unfold v148;simp(disch:=first|exact zd|fail) [-getElem?_pos];refine Zak (fun i=>⟨[(0,Zen l),(1,.sc (.c (.fn 100 [] []))),(7,intV l.length),(8,intV i)],[]⟩) l.length ?_ ?_ ?_
 .simp
 .intro i hi
  obtain⟨x,hx⟩:=Zaa hi;have h1:=hn x (qa hx);unfold Zmi;simp(disch:=first|exact zd|fail) [hi,hx,h1,-getElem?_pos]
 .unfold Zmi
  simp(disch:=first|exact zd|fail) [-getElem?_pos]
theorem ZzK (l:List Exp)(hl:l.length<=1073741824)(h:∀x∈l,(K A).call 47 [expV x] []=some (Zae true,[])):(K A).call 98 [Zen l,.sc (.c (.fn 100 [] []))] []=some (Zae false,[]):=by
 refine fnO v98 ?_;have h1:=indexE (A:=A) l hl h;unfold v98;simp(disch:=first|exact zd|fail) [h1]
theorem zeroTy:(K A).call 95 [.ag [zi,zs,zi,zi,.c (.sl [])],.ag [zi,zs,zi,zi,.c (.sl [])]] []=some (Zae true,[]):=Zfq (n:=20) (by kernel_rfl)
variable {A:Zab}
theorem con142 (s:Str)(n:Nat)(h:ZfI s n):(K A).call 142 [strV s,intV n] []=some (Zae true,[]):=by
 refine fnO v142 ?_;unfold v142;rcases h with ⟨rfl,rfl⟩|⟨rfl,rfl⟩|⟨h1,h2,h3,h4⟩
 .simp(disch:=first|exact zd|fail) [-getElem?_pos]
 .simp(disch:=first|exact zd|fail) [-getElem?_pos]
 .have hn:(K A).call 141 [strV s,.sc (.c (.int .u8 65)),.sc (.c (.int .u8 90))] []=some (Zae true,[]):=Zks (A:=A) 65 90 s h3
  have h4':(n:Int)<=4:=by omega
  simp(disch:=first|exact zd|fail) [h1,h2,hn,h4',-getElem?_pos]
theorem ZA5 (f:Nat)(l:List Ty)(hl:l.length<=1073741824)(h:∀x∈l,(K A).call f [tyV x] []=some (Zae false,[])):(K A).call 196 [tysV l,.sc (.c (.fn f [] []))] []=some (intV (-1),[]):=by
 refine fnO v196 ?_;unfold v196;simp(disch:=first|exact zd|fail) [-getElem?_pos];refine Zak (fun i=>⟨[(0,tysV l),(1,.sc (.c (.fn f [] []))),(7,intV l.length),(8,intV i)],[]⟩) l.length ?_ ?_ ?_
 .simp
 .intro i hi
  obtain⟨x,hx⟩:=Zaa hi;have h1:=h x (qa hx);unfold ZvQ;simp(disch:=first|exact zd|fail) [hi,hx,h1,-getElem?_pos]
 .unfold ZvQ
  simp(disch:=first|exact zd|fail) [-getElem?_pos]
theorem Zt2 (f:Nat)(l:List Ty)(hl:l.length<=1073741824)(h:∀x∈l,(K A).call f [tyV x] []=some (Zae false,[])):(K A).call 143 [tysV l,.sc (.c (.fn f [] []))] []=some (Zae false,[]):=by
 refine fnO v143 ?_;have h1:=ZA5 (A:=A) f l hl h;unfold v143;simp(disch:=first|exact zd|fail) [h1]
theorem Zxd {s:Str}{n:Nat}(h:ZfI s n):s≠[]:=by
 rcases h with ⟨rfl,_⟩|⟨rfl,_⟩|⟨_,_,h3,_⟩
 .simp
 .simp
 .rintro rfl
  obtain⟨_,⟨c,hc,_⟩,_⟩:=h3;cases hc
theorem nameOk.ne {lo hi:Nat}{s:Str}(h:nameOk lo hi s):s≠[]:=by
 rintro rfl;obtain⟨_,⟨c,hc,_⟩,_⟩:=h;cases hc
theorem wrT.arg {t x:Ty}(h:wrT t)(hx:x∈t.args):wrT x:=⟨h.1.arg hx,Ty.all.arg h.2 hx⟩
theorem wrT.kinds {t:Ty}(h:wrT t):(t.kind=4/\t.id=0/\t.home=0/\ZfI t.name t.args.length)\/(t.kind=5/\t.id=0/\t.home=0/\t.args=[]/\nameOk 97 122 t.name):=by
 obtain⟨h1,h2,h3,h4,h5,h6,h7,h8⟩:=h.1.one;have h9:=Ty.all.one h.2;by_cases k4:t.kind=4
 .exact .inl ⟨k4,h5 k4⟩
 .by_cases k5:t.kind=5
  .exact .inr ⟨k5,h6 k5⟩
  .by_cases k1:t.kind=1
   .have:=h1 k1
    omega
   .by_cases k2:t.kind=2
    .have a:=h2 k2
     have b:=(h4 k2).1;omega
    .omega
theorem Zr9 (t:Ty):wrT t->t.size<=1073741824->(K A).call 93 [tyV t] []=some (Zae true,[]):=by
 induction t using Ty.ind with
 |h t ih=>
 intro h hl;have hal:=t.args_lt;refine fnO v93 ?_;rcases h.kinds with ⟨k,i0,h0,hc⟩|⟨k,i0,h0,ha,hn⟩
 .have hne:=Zxd hc
  have hcv:=con142 (A:=A) t.name t.args.length hc;have hbad:∀x∈t.args,(K A).call 144 [tyV x] []=some (Zae false,[]):=fun x hx=>by
   have h1:=ih x hx (h.arg hx) (by have:=Ty.arg_lt hx;omega);refine fnO v144 ?_;unfold v144;simp(disch:=first|exact zd|fail) [h1]
  have hnone:=Zt2 (A:=A) 144 t.args (by omega) hbad;unfold v93;simp(disch:=first|exact zd|fail) [k,i0,h0,hne,hcv,hnone,-getElem?_pos]
 .have hne:=hn.ne
  have hnv:(K A).call 141 [strV t.name,.sc (.c (.int .u8 97)),.sc (.c (.int .u8 122))] []=some (Zae true,[]):=Zks (A:=A) 97 122 t.name hn;unfold v93;simp(disch:=first|exact zd|fail) [k,i0,h0,ha,hne,hnv,-getElem?_pos]
theorem Zsy (t:Ty):wrT t->t.size<=1073741824->(K A).call 94 [tyV t] []=some (Zae true,[]):=by
 induction t using Ty.ind with
 |h t ih=>
 intro h hl;have hal:=t.args_lt;refine fnO v94 ?_;have hbad:∀x∈t.args,(K A).call 145 [tyV x] []=some (Zae false,[]):=fun x hx=>by
  have h1:=ih x hx (h.arg hx) (by have:=Ty.arg_lt hx;omega);refine fnO v145 ?_;unfold v145;simp(disch:=first|exact zd|fail) [h1]
 have hnone:=Zt2 (A:=A) 145 t.args (by omega) hbad;unfold v94;rcases h.kinds with ⟨k,_⟩|⟨k,_⟩
 .simp(disch:=first|exact zd|fail) [k,hnone,-getElem?_pos]
 .simp(disch:=first|exact zd|fail) [k,hnone,-getElem?_pos]
theorem StE.child {e x:Exp}(h:StE e)(hx:x∈e.children):StE x:=⟨h.ok.child hx,h.rz.child hx,h.lf.child hx,h.ps.child hx⟩
theorem ZAw (e:Exp):StE e->e.weight<=1073741824->(K A).call 47 [expV e] []=some (Zae true,[]):=by
 induction e using Exp.ind with
 |h e ih=>
 intro hv hl;refine fnO v47 ?_;obtain⟨f1,f2,⟨f3,f4,f5⟩,f6,⟨f7,f8⟩,f9,f10⟩:=hv.lf.2.one;obtain⟨g1,g2,g3,g4⟩:=hv.lf.1.one;obtain⟨hpos,hpa⟩:=hv.ps.one;have hs:=hv.ok.1.one;have hz:=zeroTy (A:=A);have hal:=e.children_le;rw[Exp.children_len]at hal;have hnn:¬e.num<0:=by omega
 have hnb:¬999999999<e.num:=by omega
 have hch:=ZzK (A:=A) e.children (by rw[Exp.children_len];omega) (fun x hx=>ih x hx (hv.child hx) (by have:=Exp.child_lt hx;omega));have ht9:e.kind≠9->wc e.ty.row=[zi,zs,zi,zi,.c (.sl [])]:=fun k=>by rw[f7 k];simp[tz,Ty.row,Ty.rows]
 have hk11:e.kind=1\/e.kind=2\/e.kind=3\/e.kind=4\/e.kind=5\/e.kind=6\/e.kind=7\/e.kind=8\/e.kind=9\/e.kind=10\/e.kind=11:=by omega
 rcases hk11 with h|h|h|h|h|h|h|h|h|h|h
 .have hkl:e.kids.length=0:=by have:=hs.2.2;rw [h] at this;exact this
  have ha:e.arms=[]:=hs.1.2.1 (by omega);have hk:e.kids=[]:=qL.1 hkl;have hlo:=ZfW (A:=A) e.name (g1 (by unfold lowK;omega));have htr:=ht9 (by omega);have hnum:=f3 (by omega);have hc:=ZaT (A:=A) e hk ha;rw[show e.children=[] by simp[Exp.children,hk,ha]]at hch;simp only[Zen,rows0]at hch;unfold v47;simp(maxSteps:=4000000) (disch:=first|exact zd|fail) [h,hpos,hk,ha,hlo,hz,htr,hnum,hc,hch,-getElem?_pos]
  refine Zak (fun i=>⟨[(1,.sc (.ptr 64 0)),(127,.sc (.c (.sl []))),(128,intV 0),(129,intV i)],[(64,some (.box (wc e.row)))]⟩) 0 (by simp) (fun i hi=>by omega) ?_;unfold Zgb;simp(maxSteps:=4000000) (disch:=first|exact zd|fail) [hc,hch,-getElem?_pos]
 .have hkl:e.kids.length=0:=by have:=hs.2.2;rw [h] at this;exact this
  have ha:e.arms=[]:=hs.1.2.1 (by omega);have hk:e.kids=[]:=qL.1 hkl;have hlo:=Zot (A:=A) e.name (g2 h);have htr:=ht9 (by omega);have hnum:=f3 (by omega);have hc:=ZaT (A:=A) e hk ha;rw[show e.children=[] by simp[Exp.children,hk,ha]]at hch;simp only[Zen,rows0]at hch;unfold v47;simp(maxSteps:=4000000) (disch:=first|exact zd|fail) [h,hpos,hk,ha,hlo,hz,htr,hnum,hc,hch,-getElem?_pos]
  refine Zak (fun i=>⟨[(1,.sc (.ptr 64 0)),(127,.sc (.c (.sl []))),(128,intV 0),(129,intV i)],[(64,some (.box (wc e.row)))]⟩) 0 (by simp) (fun i hi=>by omega) ?_;unfold Zgb;simp(maxSteps:=4000000) (disch:=first|exact zd|fail) [hc,hch,-getElem?_pos]
 .have hkl:e.kids.length=0:=by have:=hs.2.2;rw [h] at this;exact this
  have ha:e.arms=[]:=hs.1.2.1 (by omega);have hk:e.kids=[]:=qL.1 hkl;have hn:e.name=[]:=g3 (by unfold lowK;omega) (by omega);have htr:=ht9 (by omega);have hc:=ZaT (A:=A) e hk ha;rw[show e.children=[] by simp[Exp.children,hk,ha]]at hch;simp only[Zen,rows0]at hch;by_cases hnum:e.num=0
  .unfold v47
   simp(maxSteps:=4000000) (disch:=first|exact zd|fail) [h,hpos,hk,ha,hn,hz,htr,hnn,hnb,hnum,hc,hch,-getElem?_pos];refine Zak (fun i=>⟨[(1,.sc (.ptr 64 0)),(127,.sc (.c (.sl []))),(128,intV 0),(129,intV i)],[(64,some (.box (wc e.row)))]⟩) 0 (by simp) (fun i hi=>by omega) ?_;unfold Zgb;simp(maxSteps:=4000000) (disch:=first|exact zd|fail) [hc,hch,-getElem?_pos]
  .unfold v47
   simp(maxSteps:=4000000) (disch:=first|exact zd|fail) [h,hpos,hk,ha,hn,hz,htr,hnn,hnb,hnum,hc,hch,-getElem?_pos];refine Zak (fun i=>⟨[(1,.sc (.ptr 64 0)),(127,.sc (.c (.sl []))),(128,intV 0),(129,intV i)],[(64,some (.box (wc e.row)))]⟩) 0 (by simp) (fun i hi=>by omega) ?_;unfold Zgb;simp(maxSteps:=4000000) (disch:=first|exact zd|fail) [hc,hch,-getElem?_pos]
 .have hkl:e.kids.length=1:=by have:=hs.2.2;rw [h] at this;exact this
  have ha:e.arms=[]:=hs.1.2.1 (by omega);obtain⟨x,hk⟩:∃x,e.kids=[x]:=by
   match hkk:e.kids,hkl with
   |[x],_=>exact⟨x,rfl⟩
  have hlo:=ZfW (A:=A) e.name (g1 (by unfold lowK;omega));have htr:=ht9 (by omega);have hnum:=f3 (by omega);have hc:=ZaP (A:=A) e (by simp[hk]) hl;unfold v47;simp(maxSteps:=4000000) (disch:=first|exact zd|fail) [h,hpos,hk,ha,hlo,hz,htr,hnum,hc,hch,-getElem?_pos]
  refine Zak (fun i=>⟨[(1,.sc (.ptr 64 0)),(127,.sc (.c (.sl []))),(128,intV 0),(129,intV i)],[(64,some (.box (wc e.row)))]⟩) 0 (by simp) (fun i hi=>by omega) ?_;unfold Zgb;simp(maxSteps:=4000000) (disch:=first|exact zd|fail) [hc,hch,-getElem?_pos]
 .have hkl:e.kids.length=2:=by have:=hs.2.2;rw [h] at this;exact this
  have ha:e.arms=[]:=hs.1.2.1 (by omega);obtain⟨x,y,hk⟩:∃x y,e.kids=[x,y]:=by
   match hkk:e.kids,hkl with
   |[x,y],_=>exact⟨x,y,rfl⟩
  have hn:e.name=[]:=g3 (by unfold lowK;omega) (by omega);have htr:=ht9 (by omega);have hnum:=f3 (by omega);have hc:=ZaP (A:=A) e (by simp[hk]) hl;unfold v47;simp(maxSteps:=4000000) (disch:=first|exact zd|fail) [h,hpos,hk,ha,hn,hz,htr,hnum,hc,hch,-getElem?_pos]
  refine Zak (fun i=>⟨[(1,.sc (.ptr 64 0)),(127,.sc (.c (.sl []))),(128,intV 0),(129,intV i)],[(64,some (.box (wc e.row)))]⟩) 0 (by simp) (fun i hi=>by omega) ?_;unfold Zgb;simp(maxSteps:=4000000) (disch:=first|exact zd|fail) [hc,hch,-getElem?_pos]
 .have hkl:e.kids.length=2:=by have:=hs.2.2;rw [h] at this;exact this
  have ha:e.arms=[]:=hs.1.2.1 (by omega);obtain⟨x,y,hk⟩:∃x y,e.kids=[x,y]:=by
   match hkk:e.kids,hkl with
   |[x,y],_=>exact⟨x,y,rfl⟩
  have hlo:=ZfW (A:=A) e.name (g1 (by unfold lowK;omega));have htr:=ht9 (by omega);have hnum:=f3 (by omega);have hc:=ZaP (A:=A) e (by simp[hk]) hl;unfold v47;simp(maxSteps:=4000000) (disch:=first|exact zd|fail) [h,hpos,hk,ha,hlo,hz,htr,hnum,hc,hch,-getElem?_pos]
  refine Zak (fun i=>⟨[(1,.sc (.ptr 64 0)),(127,.sc (.c (.sl []))),(128,intV 0),(129,intV i)],[(64,some (.box (wc e.row)))]⟩) 0 (by simp) (fun i hi=>by omega) ?_;unfold Zgb;simp(maxSteps:=4000000) (disch:=first|exact zd|fail) [hc,hch,-getElem?_pos]
 .have hkl:e.kids.length=2:=by have:=hs.2.2;rw [h] at this;exact this
  have ha:e.arms=[]:=hs.1.2.1 (by omega);obtain⟨x,y,hk⟩:∃x y,e.kids=[x,y]:=by
   match hkk:e.kids,hkl with
   |[x,y],_=>exact⟨x,y,rfl⟩
  have hlo:=ZfW (A:=A) e.name (g1 (by unfold lowK;omega));have htr:=ht9 (by omega);have hnum:=f3 (by omega);have hc:=ZaP (A:=A) e (by simp[hk]) hl;unfold v47;simp(maxSteps:=4000000) (disch:=first|exact zd|fail) [h,hpos,hk,ha,hlo,hz,htr,hnum,hc,hch,-getElem?_pos]
  refine Zak (fun i=>⟨[(1,.sc (.ptr 64 0)),(127,.sc (.c (.sl []))),(128,intV 0),(129,intV i)],[(64,some (.box (wc e.row)))]⟩) 0 (by simp) (fun i hi=>by omega) ?_;unfold Zgb;simp(maxSteps:=4000000) (disch:=first|exact zd|fail) [hc,hch,-getElem?_pos]
 .have hkl:e.kids.length=1:=by have:=hs.2.2;rw [h] at this;exact this
  obtain⟨x,hk⟩:∃x,e.kids=[x]:=by
   match hkk:e.kids,hkl with
   |[x],_=>exact⟨x,rfl⟩
  have hn:e.name=[]:=g3 (by unfold lowK;omega) (by omega);have htr:=ht9 (by omega);have hnum:=f3 (by omega);have hc:=ZaP (A:=A) e (by simp[hk]) hl;have hne:e.arms≠[]:=f9 h;have hpa0:0<e.arms.length:=qae.2 hne;unfold v47;simp(maxSteps:=4000000) (disch:=first|exact zd|fail) [h,hpos,hk,hn,hz,htr,hnum,hpa0,-getElem?_pos]
  refine Zak (fun i=>⟨[(1,.sc (.ptr 64 0)),(127,.sc (.c (.sl (Exp.armRows e.arms)))),(128,intV e.arms.length),(129,intV i)],[(64,some (.box (wc e.row)))]⟩) e.arms.length (by simp) (fun i hi=>?_) ?_
  .obtain ⟨p,hp⟩:=Zaa hi
   have hpm:=qa hp;have q1:=hpa p hpm;obtain⟨q2,q3⟩:=f10 p hpm;have hu:=Zot (A:=A) p.1.con q2;have hav:=Zzz (A:=A) p.1.vars (by omega) (g4 p hpm);have q3':¬(4:Int)<p.1.vars.length:=(by omega);have q3'':¬4<p.1.vars.length:=(by omega);unfold Zgb;simp(maxSteps:=4000000) (disch:=first|exact zd|fail) [hi,hp,q1,q3',q3'',hu,hav,-getElem?_pos]
  .unfold Zgb
   simp(maxSteps:=4000000) (disch:=first|exact zd|fail) [hc,hch,-getElem?_pos]
 .have hkl:e.kids.length=1:=by have:=hs.2.2;rw [h] at this;exact this
  have ha:e.arms=[]:=hs.1.2.1 (by omega);obtain⟨x,hk⟩:∃x,e.kids=[x]:=by
   match hkk:e.kids,hkl with
   |[x],_=>exact⟨x,rfl⟩
  have hn:e.name=[]:=g3 (by unfold lowK;omega) (by omega);have hw:=f8 h;have hv1:=Zr9 (A:=A) e.ty hw f6;have hv2:=Zsy (A:=A) e.ty hw f6;have hnum:=f3 (by omega);have hc:=ZaP (A:=A) e (by simp[hk]) hl;unfold v47;simp(maxSteps:=4000000) (disch:=first|exact zd|fail) [h,hpos,hk,ha,hn,hv1,hv2,hnum,hc,hch,-getElem?_pos]
  refine Zak (fun i=>⟨[(1,.sc (.ptr 64 0)),(127,.sc (.c (.sl []))),(128,intV 0),(129,intV i)],[(64,some (.box (wc e.row)))]⟩) 0 (by simp) (fun i hi=>by omega) ?_;unfold Zgb;simp(maxSteps:=4000000) (disch:=first|exact zd|fail) [hc,hch,-getElem?_pos]
 .have hkl:e.kids.length=0:=by have:=hs.2.2;rw [h] at this;exact this
  have ha:e.arms=[]:=hs.1.2.1 (by omega);have hk:e.kids=[]:=qL.1 hkl;have hn:e.name=[]:=g3 (by unfold lowK;omega) (by omega);have htr:=ht9 (by omega);have hnum:=f3 (by omega);have hc:=ZaT (A:=A) e hk ha;rw[show e.children=[] by simp[Exp.children,hk,ha]]at hch;simp only[Zen,rows0]at hch;unfold v47;simp(maxSteps:=4000000) (disch:=first|exact zd|fail) [h,hpos,hk,ha,hn,hz,htr,hnum,hc,hch,-getElem?_pos]
  refine Zak (fun i=>⟨[(1,.sc (.ptr 64 0)),(127,.sc (.c (.sl []))),(128,intV 0),(129,intV i)],[(64,some (.box (wc e.row)))]⟩) 0 (by simp) (fun i hi=>by omega) ?_;unfold Zgb;simp(maxSteps:=4000000) (disch:=first|exact zd|fail) [hc,hch,-getElem?_pos]
 .have hkl:e.kids.length=1:=by have:=hs.2.2;rw [h] at this;exact this
  have ha:e.arms=[]:=hs.1.2.1 (by omega);obtain⟨x,hk⟩:∃x,e.kids=[x]:=by
   match hkk:e.kids,hkl with
   |[x],_=>exact⟨x,rfl⟩
  have hn:e.name=[]:=g3 (by unfold lowK;omega) (by omega);have htr:=ht9 (by omega);have hnum:=f3 (by omega);have hc:=ZaP (A:=A) e (by simp[hk]) hl;unfold v47;simp(maxSteps:=4000000) (disch:=first|exact zd|fail) [h,hpos,hk,ha,hn,hz,htr,hnum,hc,hch,-getElem?_pos]
  refine Zak (fun i=>⟨[(1,.sc (.ptr 64 0)),(127,.sc (.c (.sl []))),(128,intV 0),(129,intV i)],[(64,some (.box (wc e.row)))]⟩) 0 (by simp) (fun i hi=>by omega) ?_;unfold Zgb;simp(maxSteps:=4000000) (disch:=first|exact zd|fail) [hc,hch,-getElem?_pos]
end Go.Vs.Tryz
namespace Go.Vs
theorem Zwu {C:Ctx}{a b c d:VCode}{Q:Ex->St->Prop}{s:St}(s1:St)(h1:wp C (.seq a b) (fun e s=>e=.normal/\s=s1) s)(h2:wp C (.seq c d) Q s1):wp C (.seq a (.seq (.seq b c) d)) Q s:=by
 rw[wp_seq]at h1 |-;refine ZaU h1 ?_;intro e s' h;cases e with
 |normal=>
  simp only[Zdt]at h |-;rw[wp_seq,wp_seq];refine ZaU h ?_;rintro e2 s2 ⟨rfl,rfl⟩;simp only[Zdt];rw[wp_seq]at h2;exact h2
 |exit i=>exact absurd h.1 (by simp)
 |ret=>exact absurd h.1 (by simp)
end Go.Vs
namespace Go.Vs.Tryz
open Go Go.Vs
variable {A:Zab}
def allA (e:Exp)(out:List Str)(i:Nat):List Str:=out++(if e.name=[] then [] else [e.name])++((e.arms.take i).map fun a=>a.1.vars).flatten
def allC (e:Exp)(out:List Str)(i:Nat):List Str:=allA e out e.arms.length++((e.children.take i).map ZaB).flatten
theorem ZlE {e:Exp}{out:List Str}{i:Nat}{a:ArmH×Exp}(h:e.arms[i]?=some a):allA e out (i+1)=allA e out i++a.1.vars:=by
 unfold allA;rw[Zam h];simp
theorem ZhU {e x:Exp}{out:List Str}{i:Nat}(h:e.children[i]?=some x):allC e out (i+1)=allC e out i++ZaB x:=by
 unfold allC;rw[Zam h];simp
theorem ZoY (e:Exp)(out:List Str):allC e out e.children.length=out++ZaB e:=by
 unfold allC allA;rw[qaO,qaO,Zk3];simp
theorem Zd6 (e:Exp):(ZaB e).length<=e.weight:=by
 induction e using Exp.ind with
 |h e ih=>
  have h1:((e.children.map ZaB).flatten).length<=(e.children.map Exp.weight).sum:=by
   generalize e.children=l at ih
   induction l with
   |nil=>simp
   |cons x l ihl=>
    have:=ih x (by simp);have:=ihl fun y hy=>ih y (by simp[hy]);simp only[qq,qD,qv,qS];omega
  have h2:((e.arms.map fun a=>a.1.vars).flatten).length=(e.arms.map fun a=>a.1.vars.length).sum:=by
   simp[qaH];congr 1
  have h3:(if e.name=[] then [] else [e.name]).length<=1:=by split<;>simp
  rw[Zk3,qv,qv,h2,e.weight_eq];omega
theorem ZA6 {e:Exp}{out:List Str}{i j:Nat}(h:i<=j):(allA e out i).length<=(allA e out j).length:=by
 obtain⟨k,rfl⟩:=Nat.exists_eq_add_of_le h
 induction k with
 |zero=>exact qe _
 |succ k ih=>
  refine qu (ih (by omega)) ?_;by_cases hk:i+k<e.arms.length
  .obtain ⟨a,ha⟩:=Zaa hk
   rw[<-qaE,ZlE ha,qv];omega
  .unfold allA
   rw[qf (by omega),qf (by omega)];exact qe _
theorem Zu1 {e:Exp}{out:List Str}{i j:Nat}(h:i<=j):(allC e out i).length<=(allC e out j).length:=by
 obtain⟨k,rfl⟩:=Nat.exists_eq_add_of_le h
 induction k with
 |zero=>exact qe _
 |succ k ih=>
  refine qu (ih (by omega)) ?_;by_cases hk:i+k<e.children.length
  .obtain ⟨a,ha⟩:=Zaa hk
   rw[<-qaE,ZhU ha,qv];omega
  .unfold allC
   rw[qf (by omega),qf (by omega)];exact qe _
theorem ZgS (e:Exp)(out:List Str){i:Nat}(h:i<=e.children.length):(allC e out i).length<=out.length+e.weight:=by
 refine qu (Zu1 h) ?_;have:=Zd6 e;rw[ZoY,qv];omega
theorem Zyh (e:Exp)(out:List Str):∀i,i<=e.children.length->(allC e out i).length<=out.length+1+(e.arms.map fun a=>a.1.vars.length).sum+((e.children.take i).map Exp.weight).sum
 |0,_=>by
  have h2:((e.arms.map fun a=>a.1.vars).flatten).length=(e.arms.map fun a=>a.1.vars.length).sum:=by
   simp[qaH];congr 1
  have h3:(if e.name=[] then [] else [e.name]).length<=1:=by split<;>simp
  unfold allC allA;simp only[qaO,List.take_zero,qX,List.flatten_nil,qF,qv,h2,qaQ];omega
 |i+1,hi=>by
  obtain⟨x,hx⟩:=Zaa (l:=e.children) (i:=i) (by omega);have h1:=Zyh e out i (by omega);have h2:=Zd6 x;rw[ZhU hx,Zam hx,qaf,qaz,qv];simp only[qq,qX,qS,qaQ];omega
theorem Zx0 {e x:Exp}(out:List Str){i:Nat}(hx:e.children[i]?=some x):(allC e out i).length+x.weight<=out.length+e.weight:=by
 have hi:=(qd.1 hx).1;have h1:=Zyh e out i (by omega);have h2:=ZiG (e:=e) (i:=i+1);rw[Zam hx,qaf,qaz]at h2;simp only[qq,qX,qS,qaQ]at h2;rw[e.weight_eq];omega
theorem ZjM (e:Exp)(out:List Str){i:Nat}(h:i<=e.arms.length):(allA e out i).length<=out.length+e.weight:=by
 refine qu (ZA6 h) ?_;have h1:=ZgS e out (qad e.children.length);have h2:allC e out 0=allA e out e.arms.length:=by unfold allC;simp
 rw[h2]at h1;exact h1
theorem all148 (e:Exp):∀(out:List Str),out.length+e.weight<=1073741824->
 (K A).call 208 [.sc (.arr 0 out.length),expV e] [.arr 1 (wr (Zai out)) 0]=some (.sc (.arr 0 (out++ZaB e).length),[.arr 1 (wr (Zai (out++ZaB e))) 0]):=by
 induction e using Exp.ind with
 |h e ih=>
 intro out hl;refine fnO v208 ?_;have hle:=e.children_le;have hc:=ZbS (A:=A) e (by rw[e.children_len]at hle;omega);have hwp:=e.weight_pos;have hb0:=ZjM e out (qad _);unfold v208;refine Zeh ⟨[(0,.sc (.arr 0 out.length)),(3,.sc (.ptr 64 0))],[(0,some (.arr 1 (wr (Zai out)) 0)),(64,some (.box (wc e.row)))]⟩ (by simp) ?_
 refine Zwu ⟨[(0,.sc (.arr 0 (allA e out 0).length)),(3,.sc (.ptr 64 0)),(5,intV 0)],[(0,some (.arr 1 (wr (Zai (allA e out 0))) 0)),(64,some (.box (wc e.row)))]⟩ ?_ ?_
 .by_cases h0:e.name=[]
  .have h1:allA e out 0=out:=by unfold allA;simp [h0]
   rw[h1];simp(disch:=first|exact zd|fail) [h0]
  .have h1:allA e out 0=out++[e.name]:=by unfold allA;simp [h0]
   rw[h1];simp(disch:=first|exact zd|fail) [h0]
 .simp (disch:=first|exact zd|fail)
  refine Zak (fun i=>⟨[(0,.sc (.arr 0 (allA e out i).length)),(3,.sc (.ptr 64 0)),(5,intV i)],[(0,some (.arr 1 (wr (Zai (allA e out i))) 0)),(64,some (.box (wc e.row)))]⟩) e.arms.length ?_ ?_ ?_
  .simp
  .intro i hi
   obtain⟨a,ha⟩:=Zaa hi;have hb:=ZjM e out (i:=i+1) (by omega);have hs:=ZlE (out:=out) ha;rw[hs]at hb |-;generalize allA e out i=l at *
   rw[qv]at hb;have hi2:(i:Int)<e.arms.length:=(by omega);have hi3:i<1073741824:=(by rw[e.children_len]at hle;omega);unfold Zp3;simp(disch:=first|exact zd|fail) [hi,hi2,ha,-getElem?_pos]
  .have h0:allA e out e.arms.length=allC e out 0:=by unfold allC;simp
   rw[h0];unfold Zp3;simp(disch:=first|exact zd|fail) [hc];refine Zak (fun i=>⟨[(0,.sc (.arr 0 (allC e out i).length)),(6,.sc (.arr 2016 e.children.length)),(7,intV i)],[(0,some (.arr 1 (wr (Zai (allC e out i))) 0)),(2016,some (.arr 11 (wr (Exp.rows e.children)) 0))]⟩) e.children.length ?_ ?_ ?_
   .simp
   .intro i hi
    obtain⟨x,hx⟩:=Zaa hi;have hm:=qa hx;have hb:=ZgS e out (i:=i+1) (by omega);have hs:=ZhU (out:=out) hx;have hbi:=ZgS e out (i:=i) (by omega);have hrec:=ih x hm (allC e out i) (by have:=Zx0 out hx;omega);rw[<-hs]at hrec;have hlen:(allC e out i).length<=(allC e out (i+1)).length:=Zu1 (by omega);have hi2:(i:Int)<(e.kids.length:Int)+e.arms.length:=(by rw[e.children_len]at hi;omega)
    have hi3:i<1073741824:=(by omega);unfold Zry;simp(disch:=first|exact zd|fail) [hi,hi2,hx,hrec,hlen,-getElem?_pos]
   .rw [ZoY]
    unfold Zry;simp(disch:=first|exact zd|fail)
theorem Zxz (e:Exp)(hl:e.weight<=1073741824):(K A).call 162 [expV e] []=some (Za3 (ZaB e),[]):=by
 refine fnO v162 ?_;have h:=all148 (A:=A) e [] (by simpa using hl);have hn:Zai []=[]:=rfl;simp[hn]at h;unfold v162;simp[h,hn]
theorem ZkZ (taken:List Str)(ht:taken.length<=268435456):(K A).call 161 [Za3 taken] []=some (strV (Zat 0 taken),[]):=by
 refine fnO v161 ?_;have h:(K A).call 110 [intV 0,Za3 taken] []=some (strV (Zat 0 taken),[]):=Zrs 0 taken (by omega) ht;unfold v161;simp[h]
theorem Znn (n x:Str)(b s:Exp)(hb:b.wf)(hs:s.wf)(hbl:b.weight<=1073741824)(hsl:s.weight<=1073741824):(K A).call 160 [strV n,strV x,expV b,expV s] []=some (Zae (decide (n∈Zaf b/\x∈Zaf s)),[]):=by
 refine fnO v160 ?_;have h1:=Zmh (A:=A) b hb hbl;have h2:=Zmh (A:=A) s hs hsl;rw[ZeS b hb]at h1;rw[ZeS s hs]at h2;have l1:(Zaf b).length<=1073741824:=by have:=Zb8 b;omega
 have l2:(Zaf s).length<=1073741824:=by have:=Zb8 s;omega
 have g1:=ZmU (A:=A) (Zaf b) n (by omega);have g2:=ZmU (A:=A) (Zaf s) x (by omega);generalize Zaf b=P at *
 generalize Zaf s=Q at *
 unfold v160;by_cases q1:n∈P
 .by_cases q2:x∈Q
  .simp(disch:=first|exact zd|fail) [h1,h2,g1,g2,q1,q2,-getElem?_pos]
  .simp(disch:=first|exact zd|fail) [h1,h2,g1,g2,q1,q2,-getElem?_pos]
 .simp(disch:=first|exact zd|fail) [h1,h2,g1,g2,q1,-getElem?_pos]
end Go.Vs.Tryz
