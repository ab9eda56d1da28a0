/- Equal up to the names that are bound, by the reference, walked. -/
import Derived.Test.YtccmnfpbcmccpaaGreatDoorR7a
set_option linter.unusedSimpArgs false
set_option linter.unusedVariables false
set_option linter.deprecated false
set_option maxHeartbeats 16000000
set_option maxRecDepth 10000
namespace Go.Vs.Tryz
open Go Go.Vs
variable {A:Zab}
def tyBd (e:Exp):Prop:=e.fold fun e l=>e.ty.size<=1073741824/\∀p∈l,p
theorem Zeg (e:Exp):tyBd e=(e.ty.size<=1073741824/\∀x∈e.children,tyBd x):=by
 have:=Exp.fold_eq (fun e (l:List Prop)=>e.ty.size<=1073741824/\∀p∈l,p) e;unfold tyBd;rw[this];simp only[qQ]
theorem tyBd.one {e:Exp}(h:tyBd e):e.ty.size<=1073741824:=by rw[Zeg]at h;exact h.1
theorem tyBd.child {e x:Exp}(h:tyBd e)(hx:x∈e.children):tyBd x:=by rw[Zeg]at h;exact h.2 x hx
theorem ZA5 (a:Exp):∀(b:Exp)(l r:List Str),a.wf->b.wf->tyBd a->l.length+a.weight<=1073741824->r.length+b.weight<=1073741824->
 ∃x,IffB (ZaC a b l r) x/\(K A).call 59 [expV a,expV b,ZaF l,ZaF r] []=some x:=by
 induction a using Exp.ind with
 |h a ih=>
 intro b l r hw hv ht hl hr;rw[ZaS];refine fnE v59 ?_;have hal:=a.children_le;have hbl:=b.children_le;rw[Exp.children_len]at hal hbl;by_cases h1:a.kind=b.kind
 case neg=>
  unfold v59;simp(maxSteps:=4000000) (disch:=first|exact zd|fail) [h1,-getElem?_pos];exact IffB.no fun h=>h1 h.1.1
 by_cases h2:a.num=b.num
 case neg=>
  unfold v59;simp(maxSteps:=4000000) (disch:=first|exact zd|fail) [h1,h2,-getElem?_pos];exact IffB.no fun h=>h2 h.1.2.1
 obtain⟨_,⟨t,h3,rfl⟩,hc3⟩:=teq85 (A:=A) 1073741824 a.ty b.ty ht.one (by omega);cases t with
 |false=>
  unfold v59;simp(maxSteps:=4000000) (disch:=first|exact zd|fail) [h1,h2,hc3,-getElem?_pos];exact IffB.no fun h=>by have:=h3.2 h.1.2.2.1;cases this
 |true=>
 have h3':=h3.1 rfl;by_cases h4:a.kids.length=b.kids.length
 case neg=>
  have h4':¬(a.kids.length:Int)=b.kids.length:=by omega
  unfold v59;simp(maxSteps:=4000000) (disch:=first|exact zd|fail) [h1,h2,hc3,h4,h4',-getElem?_pos];exact IffB.no fun h=>h4 h.1.2.2.2.1
 by_cases h5:a.arms.length=b.arms.length
 case neg=>
  have h5':¬(a.arms.length:Int)=b.arms.length:=by omega
  unfold v59;simp(maxSteps:=4000000) (disch:=first|exact zd|fail) [h1,h2,hc3,h4,h5,h5',-getElem?_pos];exact IffB.no fun h=>h5 h.1.2.2.2.2
 have hhead:headEq a b:=⟨h1,h2,h3',h4,h5⟩;by_cases k1:b.kind=1
 .have p1:=Zlb (A:=A) l a.name (by omega)
  have p2:=Zlb (A:=A) r b.name (by omega);have hfin:∀v:Bool,(v=true↔Zd7 l r a.name b.name)->IffB (headEq a b/\(a.kind=1->Zd7 l r a.name b.name)/\(a.kind=2->a.name=b.name)/\
   (a.kind≠1->a.kind≠2->Zce a b/\∀(i:Nat) x y,a.children[i]?=some x->b.children[i]?=some y->ZaC x y (l++a.bound i) (r++b.bound i))) (Zaf v,[]):=fun v hv=>
   ⟨v,hv.trans ⟨fun h=>⟨hhead,fun _=>h,fun h2=>by omega,fun h2=>absurd (h1.trans k1) h2⟩,fun h=>h.2.1 (h1.trans k1)⟩,rfl⟩
  generalize (headEq a b/\(a.kind=1->Zd7 l r a.name b.name)/\(a.kind=2->a.name=b.name)/\
   (a.kind≠1->a.kind≠2->Zce a b/\∀(i:Nat) x y,a.children[i]?=some x->b.children[i]?=some y->ZaC x y (l++a.bound i) (r++b.bound i)))=P at hfin |-
  unfold Zd7 at hfin;unfold v59;by_cases q1:rlast l a.name=rlast r b.name
  .by_cases q2:0<=rlast r b.name
   .simp (maxSteps:=4000000) (disch:=first|exact zd|fail) [h1,h2,hc3,h4,h5,k1,p1,p2,q1,q2,-getElem?_pos]
    exact hfin true (by simp[q1,q2])
   .by_cases q3:a.name=b.name
    .rw [q3] at p1 q1 hfin
     simp(maxSteps:=4000000) (disch:=first|exact zd|fail) [h1,h2,hc3,h4,h5,k1,p1,p2,q1,q2,q3,-getElem?_pos];exact hfin true (by simp[q1])
    .simp (maxSteps:=4000000) (disch:=first|exact zd|fail) [h1,h2,hc3,h4,h5,k1,p1,p2,q1,q2,q3,-getElem?_pos]
     exact hfin false (by simp[q1,q2,q3])
  .simp (maxSteps:=4000000) (disch:=first|exact zd|fail) [h1,h2,hc3,h4,h5,k1,p1,p2,q1,-getElem?_pos]
   exact hfin false (by simp[q1])
 by_cases k2:b.kind=2
 .have hfin:∀v:Bool,(v=true↔a.name=b.name)->IffB (headEq a b/\(a.kind=1->Zd7 l r a.name b.name)/\(a.kind=2->a.name=b.name)/\
   (a.kind≠1->a.kind≠2->Zce a b/\∀(i:Nat) x y,a.children[i]?=some x->b.children[i]?=some y->ZaC x y (l++a.bound i) (r++b.bound i))) (Zaf v,[]):=fun v hv=>
   ⟨v,hv.trans ⟨fun h=>⟨hhead,fun h2=>by omega,fun _=>h,fun _ h2=>absurd (h1.trans k2) h2⟩,fun h=>h.2.2.1 (h1.trans k2)⟩,rfl⟩
  generalize (headEq a b/\(a.kind=1->Zd7 l r a.name b.name)/\(a.kind=2->a.name=b.name)/\
   (a.kind≠1->a.kind≠2->Zce a b/\∀(i:Nat) x y,a.children[i]?=some x->b.children[i]?=some y->ZaC x y (l++a.bound i) (r++b.bound i)))=P at hfin |-
  unfold v59;by_cases q3:a.name=b.name
  .simp (maxSteps:=4000000) (disch:=first|exact zd|fail) [h1,h2,hc3,h4,h5,k1,k2,q3,-getElem?_pos]
   exact hfin true (by simp[q3])
  .simp (maxSteps:=4000000) (disch:=first|exact zd|fail) [h1,h2,hc3,h4,h5,k1,k2,q3,-getElem?_pos]
   exact hfin false (by simp[q3])
 have hfin:∀v:Bool,(v=true↔Zce a b/\∀(i:Nat) x y,a.children[i]?=some x->b.children[i]?=some y->ZaC x y (l++a.bound i) (r++b.bound i))->IffB (headEq a b/\(a.kind=1->Zd7 l r a.name b.name)/\(a.kind=2->a.name=b.name)/\
  (a.kind≠1->a.kind≠2->Zce a b/\∀(i:Nat) x y,a.children[i]?=some x->b.children[i]?=some y->ZaC x y (l++a.bound i) (r++b.bound i))) (Zaf v,[]):=fun v hv=>
  ⟨v,hv.trans ⟨fun h=>⟨hhead,fun h2=>by omega,fun h2=>by omega,fun _ _=>h⟩,fun h=>h.2.2.2 (by omega) (by omega)⟩,rfl⟩
 generalize (headEq a b/\(a.kind=1->Zd7 l r a.name b.name)/\(a.kind=2->a.name=b.name)/\
  (a.kind≠1->a.kind≠2->Zce a b/\∀(i:Nat) x y,a.children[i]?=some x->b.children[i]?=some y->ZaC x y (l++a.bound i) (r++b.bound i)))=P at hfin |-
 have c1:=Zck (A:=A) a (by omega);have c2:=Zck (A:=A) b (by omega);unfold v59;simp(maxSteps:=4000000) (disch:=first|exact zd|fail) [h1,h2,hc3,h4,h5,k1,k2,-getElem?_pos];refine Zad (fun i s=>(∀(j:Nat) p q,j<i->a.arms[j]?=some p->b.arms[j]?=some q->p.1.con=q.1.con/\p.1.vars.length=q.1.vars.length)/\
  s=⟨[(2,ZaF l),(3,ZaF r),(4,.sc (.ptr 64 0)),(5,.sc (.ptr 128 0)),(11,intV i)],[(64,some (.box (wc a.row))),(128,some (.box (wc b.row)))]⟩) b.arms.length ⟨by omega,by simp⟩ ?_ ?_
 .rintro i s hi ⟨hs,rfl⟩
  obtain⟨p,hp⟩:=Zaa (l:=a.arms) (i:=i) (by omega);obtain⟨q,hq⟩:=Zaa (l:=b.arms) (i:=i) (by omega);have hi2:(i:Int)<a.arms.length:=by omega
  unfold ZwJ;by_cases q1:p.1.con=q.1.con
  .by_cases q2:p.1.vars.length=q.1.vars.length
   .simp (maxSteps:=4000000) (disch:=first|exact zd|fail) [hi,hi2,hp,hq,q1,q2,-getElem?_pos]
    intro j pa pe qa qe hj hp' hq';by_cases hji:j=i
    .subst hji
     rw[hp]at hp';rw[hq]at hq';cases hp';cases hq';exact⟨q1,q2⟩
    .exact hs j _ _ (by omega) hp' hq'
   .have q2':¬(p.1.vars.length:Int)=q.1.vars.length:=by omega
    simp(maxSteps:=4000000) (disch:=first|exact zd|fail) [hi,hi2,hp,hq,q1,q2,q2',-getElem?_pos];exact hfin false (by simp;intro h;exact absurd (h i p q hp hq).2 q2)
  .simp (maxSteps:=4000000) (disch:=first|exact zd|fail) [hi,hi2,hp,hq,q1,-getElem?_pos]
   exact hfin false (by simp;intro h;exact absurd (h i p q hp hq).1 q1)
 .rintro s ⟨hs,rfl⟩
  have harms:Zce a b:=fun i p q hp hq=>hs i p q (by have:=(qd.1 hq).1;exact this) hp hq;unfold ZwJ;simp(maxSteps:=4000000) (disch:=first|exact zd|fail) [h4,h5,c1,c2,-getElem?_pos];have hbn:b.children.length=b.kids.length+b.arms.length:=b.children_len;have han:a.children.length=b.kids.length+b.arms.length:=by rw[a.children_len];omega
  refine Zad (fun i s=>(∀(j:Nat) x y,j<i->a.children[j]?=some x->b.children[j]?=some y->ZaC x y (l++a.bound j) (r++b.bound j))/\
   s=⟨[(2,ZaF l),(3,ZaF r),(4,.sc (.ptr 64 0)),(5,.sc (.ptr 128 0)),(12,.sc (.arr 7776 (b.kids.length+b.arms.length))),(13,.sc (.arr 7904 (b.kids.length+b.arms.length))),(14,intV i)],
    [(64,some (.box (wc a.row))),(128,some (.box (wc b.row))),(7776,some (.arr 11 (wr (Exp.rows a.children)) 0)),(7904,some (.arr 11 (wr (Exp.rows b.children)) 0))]⟩) (b.kids.length+b.arms.length) ⟨by omega,by simp⟩ ?_ ?_
  .rintro i s hi ⟨hs2,rfl⟩
   obtain⟨x,hx⟩:=Zaa (l:=a.children) (i:=i) (by omega);obtain⟨y,hy⟩:=Zaa (l:=b.children) (i:=i) (by omega);have hi2:(i:Int)<(b.kids.length:Int)+b.arms.length:=(by omega);have mx:=qb hx;have my:=qb hy;have bx:=Zdp hx;have bY:=Zdp hy;have w1:=ZkY (A:=A) a i hw.one (by omega) (by omega);have w2:=ZkY (A:=A) b i hv.one (by omega) (by omega)
   obtain⟨_,⟨v,hval,rfl⟩,hc⟩:=ih x mx y (l++a.bound i) (r++b.bound i) (hw.child mx) (hv.child my) (ht.child mx) (by simp;omega) (by simp;omega);have hneg:=fun(h:ZaC x y (l++a.bound i) (r++b.bound i)->False)=>hfin false (by simp;intro _;exact⟨i,x,hx,y,hy,h⟩)
   have hstep:ZaC x y (l++a.bound i) (r++b.bound i)->∀(j:Nat) x' y',j<i+1->a.children[j]?=some x'->b.children[j]?=some y'->ZaC x' y' (l++a.bound j) (r++b.bound j):=by
    intro hxy j x' y' hj hx' hy';by_cases hji:j=i
    .subst hji
     rw[hx]at hx';rw[hy]at hy';cases hx';cases hy';exact hxy
    .exact hs2 j x' y' (by omega) hx' hy'
   generalize a.bound i=ab at w1 hc hval hneg hstep bx;generalize b.bound i=bb at w2 hc hval hneg hstep bY;unfold ZAs;cases v with
   |true=>
    have hxy:=hval.1 rfl;simp(maxSteps:=4000000) (disch:=first|exact zd|fail) [hi2,hx,hy,w1,w2,hc,han,hbn,-getElem?_pos];exact hstep hxy
   |false=>
    simp(maxSteps:=4000000) (disch:=first|exact zd|fail) [hi2,hx,hy,w1,w2,hc,han,hbn,-getElem?_pos];exact hneg fun h=>by have:=hval.2 h;cases this
  .rintro s ⟨hs2,rfl⟩
   have hall:∀(j:Nat) x y,a.children[j]?=some x->b.children[j]?=some y->ZaC x y (l++a.bound j) (r++b.bound j):=fun j x y hx hy=>hs2 j x y (by have:=(qd.1 hx).1;omega) hx hy;unfold ZAs;simp(maxSteps:=4000000) (disch:=first|exact zd|fail) [han,hbn,-getElem?_pos];exact hfin true (by simp[harms];exact hall)
theorem Zvo (a b:Exp)(hw:a.wf)(hv:b.wf)(ht:tyBd a)(hl:a.weight<=1073741824)(hr:b.weight<=1073741824):
 ∃x,IffB (ZaC a b [] []) x/\(K A).call 24 [expV a,expV b] []=some x:=by
 refine fnE v24 ?_;obtain⟨_,⟨v,hval,rfl⟩,hc⟩:=ZA5 (A:=A) a b [] [] hw hv ht (by simpa using hl) (by simpa using hr);simp[ZaF]at hc;unfold v24;simp(maxSteps:=4000000) (disch:=first|exact zd|fail) [hc,-getElem?_pos];exact⟨v,hval,rfl⟩
variable {A:Zab}
@[simp] theorem tz_size:tz.size<=46656:=by decide
def cOk (ds:List DataD)(s:Str):Prop:=s=[71,111,110,101]\/∃d∈ds,∃c∈d.cons,s=c.name
def rawS (ds:List DataD)(e:Exp):Prop:=
 (e.kind=1/\e.name∈Zbm/\e.kids=[]/\e.arms=[])\/(e.kind=2/\cOk ds e.name/\e.kids=[]/\e.arms=[])\/((e.kind=3\/e.kind=10)/\e.name=[]/\e.kids=[]/\e.arms=[])\/
 (e.kind=4/\e.name∈Zbm/\(∃x,e.kids=[x])/\e.arms=[])\/(e.kind=5/\e.name=[]/\(∃x y,e.kids=[x,y])/\e.arms=[])\/((e.kind=6\/e.kind=7)/\e.name∈Zbm/\(∃x y,e.kids=[x,y])/\e.arms=[])\/
 ((e.kind=9\/e.kind=11)/\e.name=[]/\(∃x,e.kids=[x])/\e.arms=[])\/(e.kind=8/\e.name=[]/\∃x,e.kids=[x])
def armE (ds:List DataD)(a:ArmH×Exp):Prop:=a.1.pos=0/\cOk ds a.1.con/\a.1.vars.length<=4/\∀v∈a.1.vars,v∈Zbm
def rawE1 (ds:List DataD)(e:Exp):Prop:=e.pos=0/\(∀a∈e.arms,armE ds a)/\e.ty.size<=46656/\(e.kind≠9->e.ty=tz)/\(e.kind≠3->e.num=0)/\rawS ds e
def rawE (ds:List DataD)(e:Exp):Prop:=e.fold fun e l=>rawE1 ds e/\∀p∈l,p
theorem Zsm (ds:List DataD)(e:Exp):rawE ds e=(rawE1 ds e/\∀x∈e.children,rawE ds x):=by
 have:=Exp.fold_eq (fun e (l:List Prop)=>rawE1 ds e/\∀p∈l,p) e;unfold rawE;rw[this];simp only[qQ]
theorem rawE.one {ds:List DataD}{e:Exp}(h:rawE ds e):rawE1 ds e:=by rw[Zsm]at h;exact h.1
theorem rawE.child {ds:List DataD}{e x:Exp}(h:rawE ds e)(hx:x∈e.children):rawE ds x:=by rw[Zsm]at h;exact h.2 x hx
theorem rawE1.wf1 {ds:List DataD}{e:Exp}(h:rawE1 ds e):e.wf1:=by
 obtain⟨_,_,_,_,_,h⟩:=h;unfold Exp.wf1;rcases h with ⟨k,_,hk,ha⟩|⟨k,_,hk,ha⟩|⟨k,_,hk,ha⟩|⟨k,_,⟨x,hk⟩,ha⟩|⟨k,_,⟨x,y,hk⟩,ha⟩|⟨k,_,⟨x,y,hk⟩,ha⟩|⟨k,_,⟨x,hk⟩,ha⟩|⟨k,_,x,hk⟩
 all_goals
  refine⟨fun h=>?_,fun h=>?_,fun h=>?_⟩
  all_goals first | exact ha | exact hk | (rw[hk];rfl) | (exfalso;omega)
theorem rawE.wf {ds:List DataD}{e:Exp}:rawE ds e->e.wf:=by
 induction e using Exp.ind with
 |h e ih=>
  intro h;rw[Exp.wf_eq];exact⟨h.one.wf1,fun x hx=>ih x hx (h.child hx)⟩
theorem rawE.tyBd {ds:List DataD}{e:Exp}:rawE ds e->tyBd e:=by
 induction e using Exp.ind with
 |h e ih=>
  intro h;rw[Zeg];exact⟨qx h.one.2.2.1 (by decide),fun x hx=>ih x hx (h.child hx)⟩
def wB (d:Nat):Nat:=32*8 ^ d
def RawQ (L:List Int)(ds:List DataD)(B:Nat)(r:V×List Obj):Prop:=∃e J,rawE ds e/\e.weight<=B/\J<=L.length/\r=(expV e,[ZaL L J])
def ArmQ (L:List Int)(ds:List DataD)(dd:DataD)(x:Exp)(B d i:Nat)(s:St):Prop:=∃arms J,arms.length=i/\J<=L.length/\(∀a∈arms,armE ds a/\rawE ds a.2/\a.2.weight<=B)/\
 s=⟨[(0,.sc (.ptr 0 0)),(1,Zap ds),(2,intV (d+1)),(6,.sc (.ptr 64 0)),(13,.sc (.ptr 10176 0)),(14,.sc (.ptr 10752 0)),(15,intV i)],
  [(0,some (ZaL L J)),(64,some (.box [zi,zi,zs,zi,.nil,.nil,zi,zs,zi,zi,.nil])),(10176,some (.box (wc (ZaG dd)))),(10624,some (.arr 11 [wc x.row] 0)),
    (10752,some (.box [.c (.int .i64 8),zi,zs,zi,.arr 10624 1,.arr 10822 i,zi,zs,zi,zi,.nil])),(10822,some (.arr 14 (wr (Exp.armRows arms)) 0))]⟩
def VarQ (L:List Int)(ds:List DataD)(dd:DataD)(x:Exp)(arms:List (ArmH×Exp))(con:Str)(d i j:Nat)(s:St):Prop:=∃vars J,vars.length=j/\(∀v∈vars,v∈Zbm)/\J<=L.length/\
 s=⟨[(0,.sc (.ptr 0 0)),(1,Zap ds),(2,intV (d+1)),(6,.sc (.ptr 64 0)),(13,.sc (.ptr 10176 0)),(14,.sc (.ptr 10752 0)),(15,intV i),(16,.sc (.ptr 11712 0)),(17,intV j)],
  [(0,some (ZaL L J)),(64,some (.box [zi,zi,zs,zi,.nil,.nil,zi,zs,zi,zi,.nil])),(10176,some (.box (wc (ZaG dd)))),(10624,some (.arr 11 [wc x.row] 0)),
    (10752,some (.box [.c (.int .i64 8),zi,zs,zi,.arr 10624 1,.arr 10822 i,zi,zs,zi,zi,.nil])),(10822,some (.arr 14 (wr (Exp.armRows arms)) 0)),
    (11712,some (.box [zi,.c (.str con),.arr 11779 j,zi,zi,zs,zi,.nil,.nil,zi,zs,zi,zi,.nil])),(11779,some (.arr 1 (wr (Zai vars)) 0))]⟩
def MadeQ (ds7:List DataD)(L:List Int)(r:V×List Obj):Prop:=∃a b J ds,(∀d∈ds,d∈ds7)/\Zks ds/\rawE ds a/\a.weight<=wB 4/\rawE ds b/\b.weight<=wB 3/\J<=L.length/\r=(.tu [expV a,expV b,.sc (.ptr 0 0)],[ZaL L J])
variable {A:Zab}
def ZpQ (ds:List DataD):Prop:=∀d∈ds,d.cons.length<=2/\∀c∈d.cons,c.fields.length<=2
def wS:Nat->Nat
 |0=>1
 |d+1=>3*wS d+5
theorem Zyo:∀d,1<=wS d
 |0=>qg _
 |d+1=>by grind[wS]
def RawS (L:List Int)(ds:List DataD)(B:Nat)(r:V×List Obj):Prop:=∃e J,rawE ds e/\e.weight<=B/\J<=L.length/\r=(expV e,[ZaL L J])
def ArmS (L:List Int)(ds:List DataD)(dd:DataD)(x:Exp)(B d i:Nat)(s:St):Prop:=∃arms J,arms.length=i/\J<=L.length/\(∀a∈arms,armE ds a/\rawE ds a.2/\a.2.weight<=B/\a.1.vars.length<=2)/\
 s=⟨[(0,.sc (.ptr 0 0)),(1,Zap ds),(2,intV (d+1)),(6,.sc (.ptr 64 0)),(13,.sc (.ptr 10176 0)),(14,.sc (.ptr 10752 0)),(15,intV i)],
  [(0,some (ZaL L J)),(64,some (.box [zi,zi,zs,zi,.nil,.nil,zi,zs,zi,zi,.nil])),(10176,some (.box (wc (ZaG dd)))),(10624,some (.arr 11 [wc x.row] 0)),
    (10752,some (.box [.c (.int .i64 8),zi,zs,zi,.arr 10624 1,.arr 10822 i,zi,zs,zi,zi,.nil])),(10822,some (.arr 14 (wr (Exp.armRows arms)) 0))]⟩
def MadeS (ds7:List DataD)(L:List Int)(r:V×List Obj):Prop:=∃a b J ds,(∀d∈ds,d∈ds7)/\Zks ds/\rawE ds a/\a.weight<=wS 4/\rawE ds b/\b.weight<=wS 3/\J<=L.length/\r=(.tu [expV a,expV b,.sc (.ptr 0 0)],[ZaL L J])
variable {A:Zab}
def rigids:List Ty:=[.mk 3 [] 0 0 [],.mk 3 [] 1 3 []]
def vars2:List Ty:=[.mk 1 [] 0 0 [],.mk 1 [] 1 0 []]
def ctxV (l:List EntD):V:=match l with
 |[]=>.sc .nil
 |l=>Zc6 l
def CtxP (L:List Int)(r:V×List Obj):Prop:=∃(l:List EntD)(t:Ty)(J:Nat),l.length<=3/\(∀x∈l,x.name∈Zbm)/\J<=L.length/\r=(.tu [Zc6 l,tyV t],[ZaL L J])
def CtxI (L:List Int)(ds:List DataD)(n i:Nat)(s:St):Prop:=∃(l:List EntD)(J p:Nat),l.length=i/\(∀x∈l,x.name∈Zbm)/\J<=L.length/\(p=0\/p=2)/\
 s=⟨[(0,.sc (.ptr 0 0)),(1,Zap ds),(5,.sc (.ptr 128 0)),(6,.sc (.arr 320 2)),(7,ctxV l),(8,intV n),(9,intV i)],
  [(0,some (ZaL L J)),(128,some (.box [zi,zs,zi,zi,.nil])),(320,some (.arr 5 (wr (Ty.rows rigids)) p))]⟩
variable {A:Zab}
def varExp (s:Str):Exp:=.mk 1 0 s 0 [] [] tz
def ZrO (e:Exp)(l:List (Exp×List Exp)):Exp×List Exp:=
 if e.kind=5 then match e.kids,l with
  |[_,x],r::_=>(r.1,r.2++[x])
  |_,_=>(e,[])
 else (e,[])
def Zau (e:Exp):Exp×List Exp:=e.fold ZrO
theorem ZcX {e f x:Exp}(h:e.kind=5)(hk:e.kids=[f,x]):Zau e=((Zau f).1,(Zau f).2++[x]):=by
 unfold Zau;rw[Exp.fold_eq];simp[ZrO,h,hk,Exp.children]
theorem Zdh {e:Exp}(h:e.kind≠5):Zau e=(e,[]):=by
 unfold Zau;rw[Exp.fold_eq];simp[ZrO,h]
def sizeM (e:Exp):Nat:=e.fold fun e l=>if e.kind=5 then l.sum else if e.kind=8 then 1+(l.drop 1).sum else 1+l.sum
def Zwx (e:Exp):Prop:=e.pos=0/\e.num=0/\e.ty=tz/\
 ((e.kind=1/\nameOk 97 122 e.name/\e.kids=[]/\e.arms=[])\/(e.kind=2/\nameOk 65 90 e.name/\e.kids=[]/\e.arms=[]) \/
   (e.kind=4/\nameOk 97 122 e.name/\(∃x,e.kids=[x])/\e.arms=[])\/
   (e.kind=5/\e.name=[]/\(∃f x,e.kids=[f,x]/\(f.kind=1\/f.kind=2\/f.kind=5))/\e.arms=[])\/
   (e.kind=8/\e.name=[]/\(∃x,e.kids=[x]/\x.kind=1)/\e.arms≠[]/\∀a∈e.arms,a.1.pos=0/\nameOk 65 90 a.1.con/\a.1.vars.length<=4/\∀v∈a.1.vars,nameOk 97 122 v))
def good (e:Exp):Prop:=e.fold fun e l=>Zwx e/\∀p∈l,p
theorem Zs3 (e:Exp):good e=(Zwx e/\∀x∈e.children,good x):=by
 have:=Exp.fold_eq (fun e (l:List Prop)=>Zwx e/\∀p∈l,p) e;unfold good;rw[this];simp only[qQ]
theorem good.one {e:Exp}(h:good e):Zwx e:=by rw[Zs3]at h;exact h.1
theorem good.child {e x:Exp}(h:good e)(hx:x∈e.children):good x:=by rw[Zs3]at h;exact h.2 x hx
theorem good.cases {e:Exp}(h:good e):(e.kind=1/\nameOk 97 122 e.name/\e.kids=[]/\e.arms=[])\/(e.kind=2/\nameOk 65 90 e.name/\e.kids=[]/\e.arms=[])\/
 (e.kind=4/\nameOk 97 122 e.name/\(∃x,e.kids=[x]/\good x)/\e.arms=[])\/
 (e.kind=5/\e.name=[]/\(∃f x,e.kids=[f,x]/\(f.kind=1\/f.kind=2\/f.kind=5)/\good f/\good x)/\e.arms=[])\/
 (e.kind=8/\e.name=[]/\(∃x,e.kids=[x]/\x.kind=1/\good x)/\e.arms≠[]/\∀a∈e.arms,a.1.pos=0/\nameOk 65 90 a.1.con/\a.1.vars.length<=4/\(∀v∈a.1.vars,nameOk 97 122 v)/\good a.2):=by
 obtain⟨_,_,_,h1⟩:=h.one;rcases h1 with h1|h1|⟨a,b,⟨x,hx⟩,c⟩|⟨a,b,⟨f,x,hx,hf⟩,c⟩|⟨a,b,⟨x,hx,hk⟩,c,d⟩
 .exact .inl h1
 .exact .inr (.inl h1)
 .exact .inr (.inr (.inl ⟨a,b,⟨x,hx,h.child (by simp[Exp.children,hx])⟩,c⟩))
 .exact .inr (.inr (.inr (.inl ⟨a,b,⟨f,x,hx,hf,h.child (by simp[Exp.children,hx]),h.child (by simp[Exp.children,hx])⟩,c⟩)))
 .refine .inr (.inr (.inr (.inr ⟨a,b,⟨x,hx,hk,h.child (by simp [Exp.children,hx])⟩,c,fun y hy => ?_⟩)))
  obtain⟨p,q,r,s⟩:=d y hy;exact⟨p,q,r,s,h.child (by simp only[Exp.children,qn,qF];exact .inr ⟨y,hy,rfl⟩)⟩
theorem Zar {e x:Exp}(h:x∈e.kids):x∈e.children:=List.mem_append_left _ h
theorem ZbM {e:Exp}{a:ArmH×Exp}(h:a∈e.arms):a.2∈e.children:=List.mem_append_right _ (qaI h)
variable {A:Zab}
abbrev Zhb (l:List Exp):V:=.sc (.c (.sl (Exp.rows l)))
theorem ZnX (l:List Exp)(h:l.length<=1073741824):(K A).call 80 [.sc (.arr 0 l.length)] [.arr 11 (wr (Exp.rows l)) 0]=some (.tu [],[.arr 11 (wr (Exp.rows l.reverse)) 0]):=by
 obtain⟨_,rfl,h2⟩:=Zq5 (A:=A) l h;rw[Zra]at h2;exact h2
def SpineI (e:Exp)(i:Nat)(s:St):Prop:=∃cur acc,good cur/\(cur.kind=1\/cur.kind=2\/cur.kind=5)/\acc.length=i/\Zau e=((Zau cur).1,(Zau cur).2++acc.reverse)/\
 s=⟨[(1,.sc (.ptr 64 0)),(2,.sc (.ptr 128 0)),(4,.sc (.arr 257 i))],[(64,some (.box (wc cur.row))),(128,some (.box [zi,zi,zs,zi,.nil,.nil,zi,zs,zi,zi,.nil])),(257,some (.arr 11 (wr (Exp.rows acc)) 0))]⟩
def ZjX (s:Str):Exp:=.mk 2 0 s 0 [] [] tz
def kid0 (e:Exp):Exp:=(e.kids[0]?).getD e
def con0 (e:Exp):Exp:=ZjX (((e.arms[0]?).map fun a=>a.1.con).getD [])
def cmpF (rank:List Str->Exp->Int):Nat->List Str->List Str->Exp->Exp->Int
 |0,_,_,_,_=>0
 |n+1,l,m,a,b=>orI [cmpI (sizeM a) (sizeM b),cmpI (kindM a) (kindM b),
  if a.kind=4 then cmpF rank n (l++[a.name]) (m++[b.name]) (kid0 a) (kid0 b)
  else if a.kind=8 then orI (cmpI (rank l (kid0 a)) (rank m (kid0 b))::cmpI (rank l (con0 a)) (rank m (con0 b)) ::
   (List.zipWith (fun p q=>cmpF rank n (l++p.1.vars) (m++q.1.vars) p.2 q.2) a.arms b.arms++[cmpI a.arms.length b.arms.length]))
  else orI [cmpI (rank l (Zau a).1) (rank m (Zau b).1),cmpI (Zau a).2.length (Zau b).2.length,orI (List.zipWith (cmpF rank n l m) (Zau a).2 (Zau b).2)]]
variable (rk:List Str->Exp->Int)
def cmpR (n:Nat)(l m:List Str)(a b:Exp):Int:=
 if a.kind=4 then cmpF rk n (l++[a.name]) (m++[b.name]) (kid0 a) (kid0 b)
 else if a.kind=8 then orI (cmpI (rk l (kid0 a)) (rk m (kid0 b))::cmpI (rk l (con0 a)) (rk m (con0 b)) ::
  (List.zipWith (fun p q=>cmpF rk n (l++p.1.vars) (m++q.1.vars) p.2 q.2) a.arms b.arms++[cmpI a.arms.length b.arms.length]))
 else orI [cmpI (rk l (Zau a).1) (rk m (Zau b).1),cmpI (Zau a).2.length (Zau b).2.length,orI (List.zipWith (cmpF rk n l m) (Zau a).2 (Zau b).2)]
def Tri (x y z:Int):Prop:=(x=0->y=0->z=0)/\(x<=0->y<=0->(x<0\/y<0)->z<0)
def ZwR (ds:List DataD)(e:Exp)(N:List Str):Prop:=(e.kind=1->e.name∈N)/\(e.kind=2->∃d∈ds,e.name∈Zb7 d)/\
 (e.kind=8->∃d∈ds,(e.arms.map fun a=>a.1.con)=Zb7 d/\(e.arms.map fun a=>a.1.vars.length)=d.cons.map fun c=>c.fields.length)
def Zww (ds:List DataD)(e:Exp)(l:List (List Str->Prop))(N:List Str):Prop:=ZwR ds e N/\∀(i:Nat) p,l[i]?=some p->p (N++e.bound i)
def ZfN (ds:List DataD)(e:Exp):List Str->Prop:=e.fold (Zww ds)
def uniq (ds:List DataD):Prop:=∀d∈ds,∀d'∈ds,∀c,c∈Zb7 d->c∈Zb7 d'->d=d'
theorem Zis {ds:List DataD}{i j:Nat}(h:i<=j):Zfr ds i<=Zfr ds j:=by
 unfold Zfr;have:ds.take i=(ds.take j).take i:=by rw[List.take_take,qbf h]
 rw[this,qax];exact ZcS
theorem ZqD {ds:List DataD}{i j k k':Nat}{d d':DataD}(hi:ds[i]?=some d)(hj:ds[j]?=some d')(hk:k<d.cons.length)(hk':k'<d'.cons.length)(h:k+Zfr ds i=k'+Zfr ds j):i=j/\k=k':=by
 have h1:=Ziq hi;have h2:=Ziq hj;rcases Nat.lt_trichotomy i j with h3|h3|h3
 .have:=Zis (ds:=ds) (i:=i+1) (j:=j) h3
  omega
 .subst h3
  omega
 .have:=Zis (ds:=ds) (i:=j+1) (j:=i) h3
  omega
theorem Zo3 {ds:List DataD}{S l:List Str}{e:Exp}(h:e.kind=2)(hd:∃d∈ds,e.name∈Zb7 d):∃(i k:Nat)(d:DataD),ds[i]?=some d/\(Zb7 d)[k]?=some e.name/\Zmg ds S l e=S.length+l.length+k+Zfr ds i:=by
 obtain⟨d0,h0,hc⟩:=hd;have hlt:Zf4 ds e.name<ds.length:=by
  unfold Zf4;rw[List.findIdx_lt_length];exact⟨d0,h0,by simpa using hc⟩
 obtain⟨d,hd,hm⟩:=Zvf hlt;refine⟨Zf4 ds e.name,Zbw (Zb7 d) e.name,d,hd,Zeh (Za7.2 hm),?_⟩;unfold Zmg;rw[if_neg (by omega),if_pos h];have hf:ZzL ds e.name=(((Zf4 ds e.name:Nat):Int),((Zbw (Zb7 d) e.name:Nat):Int),true):=by
  unfold ZzL;rw[hd]
 rw[hf];simp
theorem ZkN {l:List Str}{s:Str}(h:s∈l):0<=rlast l s/\rlast l s<l.length:=by
 refine⟨Zdl h,?_⟩;unfold rlast;rw[if_pos h];have:=Za7.2 (qav.2 h);rw[qao]at this;omega
theorem ZlG {l:List Str}{s:Str}(h:s∈l):l[(rlast l s).toNat]?=some s:=by
 unfold rlast;rw[if_pos h];have hp:=Za7.2 (qav.2 h);have hx:=Zeh hp;rw[qao]at hp;rw[ZfK hp]at hx;rw[show((l.length:Int)-1-(Zbw l.reverse s:Int)).toNat=l.length-1-Zbw l.reverse s by omega];exact hx
section
variable {ds:List DataD}{S l m:List Str}{a b:Exp}
theorem ZxP (hlm:l.length=m.length)(ha:a.kind=2)(hb:b.kind=2)(da:∃d∈ds,a.name∈Zb7 d)(db:∃d∈ds,b.name∈Zb7 d):Zmg ds S l a=Zmg ds S m b↔a.name=b.name:=by
 constructor
 .intro h
  obtain⟨i,k,d,h1,h2,h3⟩:=Zo3 (S:=S) (l:=l) ha da;obtain⟨i',k',d',h1',h2',h3'⟩:=Zo3 (S:=S) (l:=m) hb db;rw[h3,h3']at h;have hk:=(qd.1 h2).1;have hk':=(qd.1 h2').1;rw[cnames_len]at hk hk';obtain⟨rfl,rfl⟩:=ZqD h1 h1' hk hk' (by omega);rw[h1]at h1';cases h1';rw[h2]at h2';exact qaA h2'
 .intro h
  unfold Zmg;rw[if_neg (by omega),if_pos ha,if_neg (by omega),if_pos hb,h,hlm]
end
def ZAf (e:Exp):Prop:=e.kind=1\/e.kind=2\/e.kind=5
theorem good.app {e:Exp}(g:good e)(h:e.kind=5):∃f x,e.kids=[f,x]/\ZAf f/\good f/\good x/\e.arms=[]:=by
 rcases g.cases with h1|h1|h1|⟨_,_,⟨f,x,h2,h3,h4,h5⟩,h6⟩|h1
 .omega
 .omega
 .omega
 .exact⟨f,x,h2,h3,h4,h5,h6⟩
 .omega
theorem good.case {e:Exp}(g:good e)(h:e.kind=8):∃x,e.kids=[x]/\x.kind=1/\good x/\e.arms≠[]/\∀a∈e.arms,good a.2:=by
 rcases g.cases with h1|h1|h1|h1|⟨_,_,⟨x,h2,h3,h4⟩,h5,h6⟩
 .omega
 .omega
 .omega
 .omega
 .exact⟨x,h2,h3,h4,h5,fun a ha=>(h6 a ha).2.2.2.2⟩
structure CaseP (ds:List DataD)(N:List Str)(e x:Exp)(d:DataD):Prop where
 kids:e.kids=[x]
 kind:x.kind=1
 good:Go.Vs.Tryz.good x
 sc:ZfN ds x N
 ne:e.arms≠[]
 mem:d∈ds
 cons:(e.arms.map fun a=>a.1.con)=Zb7 d
 vars:(e.arms.map fun a=>a.1.vars.length)=d.cons.map fun c=>c.fields.length
 arms:∀(i:Nat) a,e.arms[i]?=some a->Go.Vs.Tryz.good a.2/\ZfN ds a.2 (N++a.1.vars)/\a.2.weight<e.weight
theorem CaseP.con0 {ds:List DataD}{N:List Str}{e x:Exp}{d:DataD}(h:CaseP ds N e x d):∃s,(Zb7 d)[0]?=some s/\Go.Vs.Tryz.con0 e=ZjX s:=by
 cases ha:e.arms with
 |nil=>exact absurd ha h.ne
 |cons a r=>
  refine⟨a.1.con,?_,?_⟩
  .rw[<-h.cons,ha];rfl
  .unfold Go.Vs.Tryz.con0
   rw[ha];rfl
theorem CaseP.same {ds:List DataD}{S N l m:List Str}{a b x y:Exp}{d d':DataD}(hu:uniq ds)(hlm:l.length=m.length)(ha:CaseP ds (N++l) a x d)(hb:CaseP ds (N++m) b y d'):Zmg ds S l (Go.Vs.Tryz.con0 a)=Zmg ds S m (Go.Vs.Tryz.con0 b)↔d=d':=by
 obtain⟨s,h1,h2⟩:=ha.con0;obtain⟨t,h3,h4⟩:=hb.con0;have m1:s∈Zb7 d:=qb h1;have m2:t∈Zb7 d':=qb h3;rw[h2,h4,ZxP (a:=ZjX s) (b:=ZjX t) hlm rfl rfl ⟨d,ha.mem,m1⟩ ⟨d',hb.mem,m2⟩];show s=t↔_;constructor
 .rintro rfl
  exact hu d ha.mem d' hb.mem s m1 m2
 .rintro rfl
  rw[h1]at h3;exact qaA h3
theorem CaseP.len {ds:List DataD}{N:List Str}{e x:Exp}{d:DataD}(h:CaseP ds N e x d):e.arms.length=d.cons.length:=by
 have:=congrArg List.length h.vars;simpa using this
variable {A:Zab}
@[simp] theorem range_5:List.range 5=[0,1,2,3,4]:=rfl
abbrev rkM (ds:List DataD)(ctx:List EntD):=Zmg ds (seenN ctx)
end Go.Vs.Tryz
