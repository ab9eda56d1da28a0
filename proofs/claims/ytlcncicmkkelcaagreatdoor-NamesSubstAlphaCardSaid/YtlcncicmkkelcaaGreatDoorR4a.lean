/- Equal up to the names that are bound, by the reference, walked. (Parts of one proof, put together.) -/
import Derived.Test.YtlcncicmkkelcaaGreatDoorR3a
import Derived.Test.YtlcncicmkkelcaaGreatDoorR2a
set_option linter.unusedSimpArgs false
set_option linter.unusedVariables false
set_option linter.deprecated false
set_option maxHeartbeats 16000000
set_option maxRecDepth 10000
namespace Go.Vs.Tryz
open Go Go.Vs
variable {A:Zac}
def tyBd (e:Exp):Prop:=e.fold fun e l=>e.ty.size≤1073741824∧∀ p∈l,p
theorem Zc6 (e:Exp):tyBd e=(e.ty.size≤1073741824∧∀ x∈e.children,tyBd x):=by
 have:=Exp.fold_eq (fun e (l:List Prop)=>e.ty.size≤1073741824∧∀ p∈l,p) e
 unfold tyBd
 rw [this]
 simp only [List.forall_mem_map]
theorem tyBd.one {e:Exp}(h:tyBd e):e.ty.size≤1073741824:=by rw [Zc6] at h;exact h.1
theorem tyBd.child {e x:Exp}(h:tyBd e)(hx:x∈e.children):tyBd x:=by rw [Zc6] at h;exact h.2 x hx
theorem ZrT (a:Exp):∀ (b:Exp)(l r:List Str),a.wf→b.wf→tyBd a→l.length+a.weight≤1073741824→r.length+b.weight≤1073741824 →
 ∃ x,IffB (Zbb a b l r) x∧(K A).call 66 [expV a,expV b,ZaB l,ZaB r] []=some x:=by
 induction a using Exp.ind with
 | h a ih =>
 intro b l r hw hv ht hl hr
 rw [ZbW]
 refine ZcD _ (vf:=v66) (by kernel_rfl) rfl (by simp) ?_
 have hal:=a.children_le
 have hbl:=b.children_le
 rw [Exp.children_len] at hal hbl
 by_cases h1:a.kind=b.kind
 case neg =>
  unfold v66
  simp (maxSteps:=4000000) (disch:=first|omega|(simp;done)|(simp;omega)) [h1,-getElem?_pos]
  exact IffB.no fun h=>h1 h.1.1
 by_cases h2:a.num=b.num
 case neg =>
  unfold v66
  simp (maxSteps:=4000000) (disch:=first|omega|(simp;done)|(simp;omega)) [h1,h2,-getElem?_pos]
  exact IffB.no fun h=>h2 h.1.2.1
 obtain ⟨_,⟨t,h3,rfl⟩,hc3⟩:=teq85 (A:=A) 1073741824 a.ty b.ty ht.one (by omega)
 cases t with
 | false =>
  unfold v66
  simp (maxSteps:=4000000) (disch:=first|omega|(simp;done)|(simp;omega)) [h1,h2,hc3,-getElem?_pos]
  exact IffB.no fun h=>by have:=h3.2 h.1.2.2.1;cases this
 | true =>
 have h3':=h3.1 rfl
 by_cases h4:a.kids.length=b.kids.length
 case neg =>
  have h4':¬(a.kids.length:Int)=b.kids.length:=by omega
  unfold v66
  simp (maxSteps:=4000000) (disch:=first|omega|(simp;done)|(simp;omega)) [h1,h2,hc3,h4,h4',-getElem?_pos]
  exact IffB.no fun h=>h4 h.1.2.2.2.1
 by_cases h5:a.arms.length=b.arms.length
 case neg =>
  have h5':¬(a.arms.length:Int)=b.arms.length:=by omega
  unfold v66
  simp (maxSteps:=4000000) (disch:=first|omega|(simp;done)|(simp;omega)) [h1,h2,hc3,h4,h5,h5',-getElem?_pos]
  exact IffB.no fun h=>h5 h.1.2.2.2.2
 have hhead:headEq a b:=⟨h1,h2,h3',h4,h5⟩
 by_cases k1:b.kind=1
 ·have p1:=ZiV (A:=A) l a.name (by omega)
  have p2:=ZiV (A:=A) r b.name (by omega)
  have hfin:∀ v:Bool,(v=true↔Zdj l r a.name b.name)→IffB (headEq a b∧(a.kind=1→Zdj l r a.name b.name)∧(a.kind=2→a.name=b.name) ∧
   (a.kind≠1→a.kind≠2→ZbZ a b∧∀ (i:Nat) x y,a.children[i]?=some x→b.children[i]?=some y→Zbb x y (l++a.bound i) (r++b.bound i))) (Zah v,[]):=fun v hv =>
   ⟨v,hv.trans ⟨fun h=>⟨hhead,fun _=>h,fun h2=>by omega,fun h2=>absurd (h1.trans k1) h2⟩,fun h=>h.2.1 (h1.trans k1)⟩,rfl⟩
  generalize (headEq a b∧(a.kind=1→Zdj l r a.name b.name)∧(a.kind=2→a.name=b.name) ∧
   (a.kind≠1→a.kind≠2→ZbZ a b∧∀ (i:Nat) x y,a.children[i]?=some x→b.children[i]?=some y→Zbb x y (l++a.bound i) (r++b.bound i)))=P at hfin ⊢
  unfold Zdj at hfin
  unfold v66
  by_cases q1:rlast l a.name=rlast r b.name
  ·by_cases q2:0≤rlast r b.name
   ·simp (maxSteps:=4000000) (disch:=first|omega|(simp;done)|(simp;omega)) [h1,h2,hc3,h4,h5,k1,p1,p2,q1,q2,-getElem?_pos]
    exact hfin true (by simp [q1,q2])
   ·by_cases q3:a.name=b.name
    ·rw [q3] at p1 q1 hfin
     simp (maxSteps:=4000000) (disch:=first|omega|(simp;done)|(simp;omega)) [h1,h2,hc3,h4,h5,k1,p1,p2,q1,q2,q3,-getElem?_pos]
     exact hfin true (by simp [q1])
    ·simp (maxSteps:=4000000) (disch:=first|omega|(simp;done)|(simp;omega)) [h1,h2,hc3,h4,h5,k1,p1,p2,q1,q2,q3,-getElem?_pos]
     exact hfin false (by simp [q1,q2,q3])
  ·simp (maxSteps:=4000000) (disch:=first|omega|(simp;done)|(simp;omega)) [h1,h2,hc3,h4,h5,k1,p1,p2,q1,-getElem?_pos]
   exact hfin false (by simp [q1])
 by_cases k2:b.kind=2
 ·have hfin:∀ v:Bool,(v=true↔a.name=b.name)→IffB (headEq a b∧(a.kind=1→Zdj l r a.name b.name)∧(a.kind=2→a.name=b.name) ∧
   (a.kind≠1→a.kind≠2→ZbZ a b∧∀ (i:Nat) x y,a.children[i]?=some x→b.children[i]?=some y→Zbb x y (l++a.bound i) (r++b.bound i))) (Zah v,[]):=fun v hv =>
   ⟨v,hv.trans ⟨fun h=>⟨hhead,fun h2=>by omega,fun _=>h,fun _ h2=>absurd (h1.trans k2) h2⟩,fun h=>h.2.2.1 (h1.trans k2)⟩,rfl⟩
  generalize (headEq a b∧(a.kind=1→Zdj l r a.name b.name)∧(a.kind=2→a.name=b.name) ∧
   (a.kind≠1→a.kind≠2→ZbZ a b∧∀ (i:Nat) x y,a.children[i]?=some x→b.children[i]?=some y→Zbb x y (l++a.bound i) (r++b.bound i)))=P at hfin ⊢
  unfold v66
  by_cases q3:a.name=b.name
  ·simp (maxSteps:=4000000) (disch:=first|omega|(simp;done)|(simp;omega)) [h1,h2,hc3,h4,h5,k1,k2,q3,-getElem?_pos]
   exact hfin true (by simp [q3])
  ·simp (maxSteps:=4000000) (disch:=first|omega|(simp;done)|(simp;omega)) [h1,h2,hc3,h4,h5,k1,k2,q3,-getElem?_pos]
   exact hfin false (by simp [q3])
 have hfin:∀ v:Bool,(v=true↔ZbZ a b∧∀ (i:Nat) x y,a.children[i]?=some x→b.children[i]?=some y→Zbb x y (l++a.bound i) (r++b.bound i))→IffB (headEq a b∧(a.kind=1→Zdj l r a.name b.name)∧(a.kind=2→a.name=b.name) ∧
  (a.kind≠1→a.kind≠2→ZbZ a b∧∀ (i:Nat) x y,a.children[i]?=some x→b.children[i]?=some y→Zbb x y (l++a.bound i) (r++b.bound i))) (Zah v,[]):=fun v hv =>
  ⟨v,hv.trans ⟨fun h=>⟨hhead,fun h2=>by omega,fun h2=>by omega,fun _ _=>h⟩,fun h=>h.2.2.2 (by omega) (by omega)⟩,rfl⟩
 generalize (headEq a b∧(a.kind=1→Zdj l r a.name b.name)∧(a.kind=2→a.name=b.name) ∧
  (a.kind≠1→a.kind≠2→ZbZ a b∧∀ (i:Nat) x y,a.children[i]?=some x→b.children[i]?=some y→Zbb x y (l++a.bound i) (r++b.bound i)))=P at hfin ⊢
 have c1:=ZcJ (A:=A) a (by omega)
 have c2:=ZcJ (A:=A) b (by omega)
 unfold v66
 simp (maxSteps:=4000000) (disch:=first|omega|(simp;done)|(simp;omega)) [h1,h2,hc3,h4,h5,k1,k2,-getElem?_pos]
 refine Zal (fun i s=>(∀ (j:Nat) p q,j<i→a.arms[j]?=some p→b.arms[j]?=some q→p.1.con=q.1.con∧p.1.vars.length=q.1.vars.length) ∧
  s=⟨[(2,ZaB l),(3,ZaB r),(4,.sc (.ptr 64 0)),(5,.sc (.ptr 128 0)),(11,intV i)],[(64,some (.box (wc a.row))),(128,some (.box (wc b.row)))]⟩) b.arms.length ⟨by omega,by simp⟩ ?_ ?_
 ·rintro i s hi ⟨hs,rfl⟩
  obtain ⟨p,hp⟩:=Zaa (l:=a.arms) (i:=i) (by omega)
  obtain ⟨q,hq⟩:=Zaa (l:=b.arms) (i:=i) (by omega)
  have hi2:(i:Int)<a.arms.length:=by omega
  unfold Ztw
  by_cases q1:p.1.con=q.1.con
  ·by_cases q2:p.1.vars.length=q.1.vars.length
   ·simp (maxSteps:=4000000) (disch:=first|omega|(simp;done)|(simp;omega)) [hi,hi2,hp,hq,q1,q2,-getElem?_pos]
    intro j pa pe qa qe hj hp' hq'
    by_cases hji:j=i
    ·subst hji
     rw [hp] at hp'
     rw [hq] at hq'
     cases hp'
     cases hq'
     exact ⟨q1,q2⟩
    ·exact hs j _ _ (by omega) hp' hq'
   ·have q2':¬(p.1.vars.length:Int)=q.1.vars.length:=by omega
    simp (maxSteps:=4000000) (disch:=first|omega|(simp;done)|(simp;omega)) [hi,hi2,hp,hq,q1,q2,q2',-getElem?_pos]
    exact hfin false (by simp;intro h;exact absurd (h i p q hp hq).2 q2)
  ·simp (maxSteps:=4000000) (disch:=first|omega|(simp;done)|(simp;omega)) [hi,hi2,hp,hq,q1,-getElem?_pos]
   exact hfin false (by simp;intro h;exact absurd (h i p q hp hq).1 q1)
 ·rintro s ⟨hs,rfl⟩
  have harms:ZbZ a b:=fun i p q hp hq=>hs i p q (by have:=(List.getElem?_eq_some_iff.1 hq).1;exact this) hp hq
  unfold Ztw
  simp (maxSteps:=4000000) (disch:=first|omega|(simp;done)|(simp;omega)) [h4,h5,c1,c2,-getElem?_pos]
  have hbn:b.children.length=b.kids.length+b.arms.length:=b.children_len
  have han:a.children.length=b.kids.length+b.arms.length:=by rw [a.children_len];omega
  refine Zal (fun i s=>(∀ (j:Nat) x y,j<i→a.children[j]?=some x→b.children[j]?=some y→Zbb x y (l++a.bound j) (r++b.bound j)) ∧
   s=⟨[(2,ZaB l),(3,ZaB r),(4,.sc (.ptr 64 0)),(5,.sc (.ptr 128 0)),(12,.sc (.arr 7776 (b.kids.length+b.arms.length))),(13,.sc (.arr 7904 (b.kids.length+b.arms.length))),(14,intV i)],
    [(64,some (.box (wc a.row))),(128,some (.box (wc b.row))),(7776,some (.arr 11 (wr (Exp.rows a.children)) 0)),(7904,some (.arr 11 (wr (Exp.rows b.children)) 0))]⟩) (b.kids.length+b.arms.length) ⟨by omega,by simp⟩ ?_ ?_
  ·rintro i s hi ⟨hs2,rfl⟩
   obtain ⟨x,hx⟩:=Zaa (l:=a.children) (i:=i) (by omega)
   obtain ⟨y,hy⟩:=Zaa (l:=b.children) (i:=i) (by omega)
   have hi2:(i:Int)<(b.kids.length:Int)+b.arms.length:=by omega
   have mx:=List.mem_of_getElem? hx
   have my:=List.mem_of_getElem? hy
   have bx:=ZcR hx
   have bY:=ZcR hy
   have w1:=Zir (A:=A) a i hw.one (by omega) (by omega)
   have w2:=Zir (A:=A) b i hv.one (by omega) (by omega)
   obtain ⟨_,⟨v,hval,rfl⟩,hc⟩:=ih x mx y (l++a.bound i) (r++b.bound i) (hw.child mx) (hv.child my) (ht.child mx) (by simp;omega) (by simp;omega)
   have hneg:=fun (h:Zbb x y (l++a.bound i) (r++b.bound i)→False)=>hfin false (by simp;intro _;exact ⟨i,x,hx,y,hy,h⟩)
   have hstep:Zbb x y (l++a.bound i) (r++b.bound i)→∀ (j:Nat) x' y',j<i+1→a.children[j]?=some x'→b.children[j]?=some y'→Zbb x' y' (l++a.bound j) (r++b.bound j):=by
    intro hxy j x' y' hj hx' hy'
    by_cases hji:j=i
    ·subst hji
     rw [hx] at hx'
     rw [hy] at hy'
     cases hx'
     cases hy'
     exact hxy
    ·exact hs2 j x' y' (by omega) hx' hy'
   generalize a.bound i=ab at w1 hc hval hneg hstep bx
   generalize b.bound i=bb at w2 hc hval hneg hstep bY
   unfold Zr3
   cases v with
   | true =>
    have hxy:=hval.1 rfl
    simp (maxSteps:=4000000) (disch:=first|omega|(simp;done)|(simp;omega)) [hi2,hx,hy,w1,w2,hc,han,hbn,-getElem?_pos]
    exact hstep hxy
   | false =>
    simp (maxSteps:=4000000) (disch:=first|omega|(simp;done)|(simp;omega)) [hi2,hx,hy,w1,w2,hc,han,hbn,-getElem?_pos]
    exact hneg fun h=>by have:=hval.2 h;cases this
  ·rintro s ⟨hs2,rfl⟩
   have hall:∀ (j:Nat) x y,a.children[j]?=some x→b.children[j]?=some y→Zbb x y (l++a.bound j) (r++b.bound j):=fun j x y hx hy=>hs2 j x y (by have:=(List.getElem?_eq_some_iff.1 hx).1;omega) hx hy
   unfold Zr3
   simp (maxSteps:=4000000) (disch:=first|omega|(simp;done)|(simp;omega)) [han,hbn,-getElem?_pos]
   exact hfin true (by simp [harms];exact hall)
theorem Znp (a b:Exp)(hw:a.wf)(hv:b.wf)(ht:tyBd a)(hl:a.weight≤1073741824)(hr:b.weight≤1073741824) :
 ∃ x,IffB (Zbb a b [] []) x∧(K A).call 18 [expV a,expV b] []=some x:=by
 refine ZcD _ (vf:=v18) (by kernel_rfl) rfl (by simp) ?_
 obtain ⟨_,⟨v,hval,rfl⟩,hc⟩:=ZrT (A:=A) a b [] [] hw hv ht (by simpa using hl) (by simpa using hr)
 simp [ZaB] at hc
 unfold v18
 simp (maxSteps:=4000000) (disch:=first|omega|(simp;done)|(simp;omega)) [hc,-getElem?_pos]
 exact ⟨v,hval,rfl⟩
def spineF (e:Exp)(l:List (Exp × List Exp)):Exp × List Exp :=
 if e.kind=5 then match e.kids,l with
  | [_,x],r::_=>(r.1,r.2++[x])
  | _,_=>(e,[])
 else (e,[])
def ZeQ (e:Exp):Exp × List Exp:=e.fold spineF
def sizeM (e:Exp):Nat:=e.fold fun e l=>if e.kind=5 then l.sum else if e.kind=8 then 1+(l.drop 1).sum else 1+l.sum
def Zqm (e:Exp):Prop:=e.pos=0∧e.num=0∧e.ty=tz ∧
 ((e.kind=1∧Zdg 97 122 e.name∧e.kids=[]∧e.arms=[])∨(e.kind=2∧Zdg 65 90 e.name∧e.kids=[]∧e.arms=[]) ∨
   (e.kind=4∧Zdg 97 122 e.name∧(∃ x,e.kids=[x])∧e.arms=[]) ∨
   (e.kind=5∧e.name=[]∧(∃ f x,e.kids=[f,x]∧(f.kind=1∨f.kind=2∨f.kind=5))∧e.arms=[]) ∨
   (e.kind=8∧e.name=[]∧(∃ x,e.kids=[x]∧x.kind=1)∧e.arms≠[]∧∀ a∈e.arms,a.1.pos=0∧Zdg 65 90 a.1.con∧a.1.vars.length≤4∧∀ v∈a.1.vars,Zdg 97 122 v))
def good (e:Exp):Prop:=e.fold fun e l=>Zqm e∧∀ p∈l,p
theorem Zng (e:Exp):good e=(Zqm e∧∀ x∈e.children,good x):=by
 have:=Exp.fold_eq (fun e (l:List Prop)=>Zqm e∧∀ p∈l,p) e
 unfold good
 rw [this]
 simp only [List.forall_mem_map]
theorem good.one {e:Exp}(h:good e):Zqm e:=by rw [Zng] at h;exact h.1
theorem good.child {e x:Exp}(h:good e)(hx:x∈e.children):good x:=by rw [Zng] at h;exact h.2 x hx
theorem good.cases {e:Exp}(h:good e):(e.kind=1∧Zdg 97 122 e.name∧e.kids=[]∧e.arms=[])∨(e.kind=2∧Zdg 65 90 e.name∧e.kids=[]∧e.arms=[]) ∨
 (e.kind=4∧Zdg 97 122 e.name∧(∃ x,e.kids=[x]∧good x)∧e.arms=[]) ∨
 (e.kind=5∧e.name=[]∧(∃ f x,e.kids=[f,x]∧(f.kind=1∨f.kind=2∨f.kind=5)∧good f∧good x)∧e.arms=[]) ∨
 (e.kind=8∧e.name=[]∧(∃ x,e.kids=[x]∧x.kind=1∧good x)∧e.arms≠[]∧∀ a∈e.arms,a.1.pos=0∧Zdg 65 90 a.1.con∧a.1.vars.length≤4∧(∀ v∈a.1.vars,Zdg 97 122 v)∧good a.2):=by
 obtain ⟨_,_,_,h1⟩:=h.one
 rcases h1 with h1|h1|⟨a,b,⟨x,hx⟩,c⟩|⟨a,b,⟨f,x,hx,hf⟩,c⟩|⟨a,b,⟨x,hx,hk⟩,c,d⟩
 ·exact .inl h1
 ·exact .inr (.inl h1)
 ·exact .inr (.inr (.inl ⟨a,b,⟨x,hx,h.child (by simp [Exp.children,hx])⟩,c⟩))
 ·exact .inr (.inr (.inr (.inl ⟨a,b,⟨f,x,hx,hf,h.child (by simp [Exp.children,hx]),h.child (by simp [Exp.children,hx])⟩,c⟩)))
 ·refine .inr (.inr (.inr (.inr ⟨a,b,⟨x,hx,hk,h.child (by simp [Exp.children,hx])⟩,c,fun y hy => ?_⟩)))
  obtain ⟨p,q,r,s⟩:=d y hy
  exact ⟨p,q,r,s,h.child (by simp only [Exp.children,List.mem_append,List.mem_map];exact .inr ⟨y,hy,rfl⟩)⟩
theorem Zlg {e x:Exp}(h:x∈e.kids):x∈e.children:=List.mem_append_left _ h
theorem Zc7 {e:Exp}{a:ArmH × Exp}(h:a∈e.arms):a.2∈e.children:=List.mem_append_right _ (List.mem_map_of_mem h)
variable {A:Zac}
abbrev expsV (l:List Exp):V:=.sc (.c (.sl (Exp.rows l)))
def SpineI (e:Exp)(i:Nat)(s:St):Prop:=∃ cur acc,good cur∧(cur.kind=1∨cur.kind=2∨cur.kind=5)∧acc.length=i∧ZeQ e=((ZeQ cur).1,(ZeQ cur).2++acc.reverse) ∧
 s=⟨[(1,.sc (.ptr 64 0)),(2,.sc (.ptr 128 0)),(4,.sc (.arr 257 i))],[(64,some (.box (wc cur.row))),(128,some (.box [zi,zi,zs,zi,.nil,.nil,zi,zs,zi,zi,.nil])),(257,some (.arr 11 (wr (Exp.rows acc)) 0))]⟩
def ZhI (s:Str):Exp:=.mk 2 0 s 0 [] [] tz
def kid0 (e:Exp):Exp:=(e.kids[0]?).getD e
def con0 (e:Exp):Exp:=ZhI (((e.arms[0]?).map fun a=>a.1.con).getD [])
def cmpF (rank:List Str→Exp→Int):Nat→List Str→List Str→Exp→Exp→Int
 | 0,_,_,_,_=>0
 | n+1,l,m,a,b=>orI [cmpI (sizeM a) (sizeM b),cmpI (kindM a) (kindM b),
  if a.kind=4 then cmpF rank n (l++[a.name]) (m++[b.name]) (kid0 a) (kid0 b)
  else if a.kind=8 then orI (cmpI (rank l (kid0 a)) (rank m (kid0 b))::cmpI (rank l (con0 a)) (rank m (con0 b)) ::
   (List.zipWith (fun p q=>cmpF rank n (l++p.1.vars) (m++q.1.vars) p.2 q.2) a.arms b.arms++[cmpI a.arms.length b.arms.length]))
  else orI [cmpI (rank l (ZeQ a).1) (rank m (ZeQ b).1),cmpI (ZeQ a).2.length (ZeQ b).2.length,orI (List.zipWith (cmpF rank n l m) (ZeQ a).2 (ZeQ b).2)]]
variable (rk:List Str→Exp→Int)
def cmpR (n:Nat)(l m:List Str)(a b:Exp):Int :=
 if a.kind=4 then cmpF rk n (l++[a.name]) (m++[b.name]) (kid0 a) (kid0 b)
 else if a.kind=8 then orI (cmpI (rk l (kid0 a)) (rk m (kid0 b))::cmpI (rk l (con0 a)) (rk m (con0 b)) ::
  (List.zipWith (fun p q=>cmpF rk n (l++p.1.vars) (m++q.1.vars) p.2 q.2) a.arms b.arms++[cmpI a.arms.length b.arms.length]))
 else orI [cmpI (rk l (ZeQ a).1) (rk m (ZeQ b).1),cmpI (ZeQ a).2.length (ZeQ b).2.length,orI (List.zipWith (cmpF rk n l m) (ZeQ a).2 (ZeQ b).2)]
def Tri (x y z:Int):Prop:=(x=0→y=0→z=0)∧(x≤0→y≤0→(x<0∨y<0)→z<0)
def Zp5 (ds:List DataD)(e:Exp)(N:List Str):Prop:=(e.kind=1→e.name∈N)∧(e.kind=2→∃ d∈ds,e.name∈Zbx d) ∧
 (e.kind=8→∃ d∈ds,(e.arms.map fun a=>a.1.con)=Zbx d∧(e.arms.map fun a=>a.1.vars.length)=d.cons.map fun c=>c.fields.length)
def ZpG (ds:List DataD)(e:Exp)(l:List (List Str→Prop))(N:List Str):Prop:=Zp5 ds e N∧∀ (i:Nat) p,l[i]?=some p→p (N++e.bound i)
def ZeG (ds:List DataD)(e:Exp):List Str→Prop:=e.fold (ZpG ds)
def uniq (ds:List DataD):Prop:=∀ d∈ds,∀ d'∈ds,∀ c,c∈Zbx d→c∈Zbx d'→d=d'
theorem ZgG {ds:List DataD}{i j:Nat}(h:i≤j):ZeC ds i≤ZeC ds j:=by
 unfold ZeC
 have:ds.take i=(ds.take j).take i:=by rw [List.take_take,Nat.min_eq_left h]
 rw [this,List.map_take]
 exact Zit
theorem Zms {ds:List DataD}{i j k k':Nat}{d d':DataD}(hi:ds[i]?=some d)(hj:ds[j]?=some d')(hk:k<d.cons.length)(hk':k'<d'.cons.length)(h:k+ZeC ds i=k'+ZeC ds j):i=j∧k=k':=by
 have h1:=Zhi hi
 have h2:=Zhi hj
 rcases Nat.lt_trichotomy i j with h3|h3|h3
 ·have:=ZgG (ds:=ds) (i:=i+1) (j:=j) h3
  omega
 ·subst h3
  omega
 ·have:=ZgG (ds:=ds) (i:=j+1) (j:=i) h3
  omega
theorem Zie {ds:List DataD}{S l:List Str}{e:Exp}(h:e.kind=2)(hd:∃ d∈ds,e.name∈Zbx d):∃ (i k:Nat)(d:DataD),ds[i]?=some d∧(Zbx d)[k]?=some e.name∧Zfp ds S l e=S.length+l.length+k+ZeC ds i:=by
 obtain ⟨d0,h0,hc⟩:=hd
 have hlt:Zfz ds e.name<ds.length:=by
  unfold Zfz
  rw [List.findIdx_lt_length]
  exact ⟨d0,h0,by simpa using hc⟩
 obtain ⟨d,hd,hm⟩:=Zpq hlt
 refine ⟨Zfz ds e.name,Zbg (Zbx d) e.name,d,hd,ZdG (ZaN.2 hm),?_⟩
 unfold Zfp
 rw [if_neg (by omega),if_pos h]
 have hf:Zsq ds e.name=(((Zfz ds e.name:Nat):Int),((Zbg (Zbx d) e.name:Nat):Int),true):=by
  unfold Zsq
  rw [hd]
 rw [hf]
 simp
theorem ZiG {ds:List DataD}{S l:List Str}{e:Exp}(h:e.kind=1):Zfp ds S l e=if e.name∈l then S.length+rlast l e.name else rlast S e.name:=by
 unfold Zfp
 rw [if_pos h]
theorem ZcZ {l:List Str}{s:Str}(h:s∈l):0≤rlast l s∧rlast l s<l.length:=by
 refine ⟨Zdm h,?_⟩
 unfold rlast
 rw [if_pos h]
 have:=ZaN.2 (List.mem_reverse.2 h)
 rw [List.length_reverse] at this
 omega
theorem Ze8 {l:List Str}{s:Str}(h:s∈l):l[(rlast l s).toNat]?=some s:=by
 unfold rlast
 rw [if_pos h]
 have hp:=ZaN.2 (List.mem_reverse.2 h)
 have hx:=ZdG hp
 rw [List.length_reverse] at hp
 rw [ZgX hp] at hx
 rw [show ((l.length:Int)-1-(Zbg l.reverse s:Int)).toNat=l.length-1-Zbg l.reverse s by omega]
 exact hx
section
variable {ds:List DataD}{S l m:List Str}{a b:Exp}
theorem Zqj (hlm:l.length=m.length)(ha:a.kind=2)(hb:b.kind=2)(da:∃ d∈ds,a.name∈Zbx d)(db:∃ d∈ds,b.name∈Zbx d):Zfp ds S l a=Zfp ds S m b↔a.name=b.name:=by
 constructor
 ·intro h
  obtain ⟨i,k,d,h1,h2,h3⟩:=Zie (S:=S) (l:=l) ha da
  obtain ⟨i',k',d',h1',h2',h3'⟩:=Zie (S:=S) (l:=m) hb db
  rw [h3,h3'] at h
  have hk:=(List.getElem?_eq_some_iff.1 h2).1
  have hk':=(List.getElem?_eq_some_iff.1 h2').1
  rw [cnames_len] at hk hk'
  obtain ⟨rfl,rfl⟩:=Zms h1 h1' hk hk' (by omega)
  rw [h1] at h1'
  cases h1'
  rw [h2] at h2'
  exact Option.some.inj h2'
 ·intro h
  unfold Zfp
  rw [if_neg (by omega),if_pos ha,if_neg (by omega),if_pos hb,h,hlm]
theorem var_rank (hlm:l.length=m.length)(ha:a.kind=1)(hb:b.kind=1)(da:a.name∈S∨a.name∈l)(db:b.name∈S∨b.name∈m):Zfp ds S l a=Zfp ds S m b↔Zdj l m a.name b.name:=by
 rw [ZiG ha,ZiG hb]
 unfold Zdj
 by_cases h1:a.name∈l
 ·obtain ⟨p1,p2⟩:=ZcZ h1
  rw [if_pos h1]
  by_cases h2:b.name∈m
  ·rw [if_pos h2]
   constructor
   ·exact fun h=>⟨by omega,.inl p1⟩
   ·exact fun h=>by omega
  ·obtain ⟨q1,q2⟩:=ZcZ (db.resolve_right h2)
   rw [if_neg h2,Zb6 h2]
   constructor
   ·omega
   ·omega
 ·obtain ⟨p1,p2⟩:=ZcZ (da.resolve_right h1)
  rw [if_neg h1,Zb6 h1]
  by_cases h2:b.name∈m
  ·obtain ⟨q1,q2⟩:=ZcZ h2
   rw [if_pos h2]
   constructor
   ·omega
   ·omega
  ·rw [if_neg h2,Zb6 h2]
   have g1:=Ze8 (da.resolve_right h1)
   have g2:=Ze8 (db.resolve_right h2)
   constructor
   ·intro h
    rw [h,g2] at g1
    exact ⟨rfl,.inr (Option.some.inj g1).symm⟩
   ·rintro ⟨_,h|h⟩
    ·omega
    ·rw [h]
theorem mixed_rank (hlm:l.length=m.length)(ha:a.kind=1)(hb:b.kind=2)(da:a.name∈S∨a.name∈l)(db:∃ d∈ds,b.name∈Zbx d):Zfp ds S l a<Zfp ds S m b:=by
 obtain ⟨i',k',d',h1',h2',h3'⟩:=Zie (S:=S) (l:=m) hb db
 rw [ZiG ha,h3']
 by_cases h1:a.name∈l
 ·have:=ZcZ h1
  rw [if_pos h1]
  omega
 ·have:=ZcZ (da.resolve_right h1)
  rw [if_neg h1]
  omega
end
variable {A:Zac}
def Zg1 (p:Str × Str):List Cell:=[.str p.1,.str p.2]
def Zck (l:List (Str × Str)):List (List Cell):=l.map Zg1
@[simp] theorem pairRow_len (p:Str × Str):(Zg1 p).length=2:=rfl
@[simp] theorem pairRows_len (l:List (Str × Str)):(Zck l).length=l.length:=by simp [Zck]
@[simp] theorem pairRows_get (l:List (Str × Str)) (i:Nat):(Zck l)[i]?=(l[i]?).map Zg1:=by simp [Zck]
@[simp] theorem okRows_pair (l:List (Str × Str)):Za2 2 (wr (Zck l))=true:=ZbM l pairRow_len
@[simp] theorem pairRows_snoc (l:List (Str × Str)) (x:Str × Str):wr (Zck l)++[[W.c (.str x.1),W.c (.str x.2)]]=wr (Zck (l++[x])):=by simp [Zck,wr,Zg1]
@[simp] theorem fit_pair (l:List (Str × Str)):Zbv 2 (Zck l)=true:=Zih pairRow_len l
@[simp] theorem wc_pair (p:Str × Str):wc (Zg1 p)=[.c (.str p.1),.c (.str p.2)]:=rfl
abbrev pairsV (l:List (Str × Str)):V:=.sc (.c (.sl (Zck l)))
def one3 (x:Int):Prop:=-1≤x∧x≤1
variable {A:Zac}
def ZeroB (P:Prop)(r:V × List Obj):Prop:=∃ n:Int,(n=0↔P)∧one3 n∧r=(intV n,[])
@[simp] theorem b_slss {a b:Str}:binV .lss 0 (.sc (.c (.str a))) (.sc (.c (.str b)))=some (.sc (.c (.bool (Op.bytesLess a b))),[]):=by simp [binV,binW,Za4,Zf1]
@[simp] theorem b_sgtr {a b:Str}:binV .gtr 0 (.sc (.c (.str a))) (.sc (.c (.str b)))=some (.sc (.c (.bool !(Op.bytesLess a b || a == b))),[]):=by simp [binV,binW,Za4,Zf1]
def Zsl (e:Exp):Prop:=e.kind=1∨e.kind=2∨e.kind=5
theorem good.app {e:Exp}(g:good e)(h:e.kind=5):∃ f x,e.kids=[f,x]∧Zsl f∧good f∧good x∧e.arms=[]:=by
 rcases g.cases with h1|h1|h1|⟨_,_,⟨f,x,h2,h3,h4,h5⟩,h6⟩|h1
 ·omega
 ·omega
 ·omega
 ·exact ⟨f,x,h2,h3,h4,h5,h6⟩
 ·omega
theorem good.case {e:Exp}(g:good e)(h:e.kind=8):∃ x,e.kids=[x]∧x.kind=1∧good x∧e.arms≠[]∧∀ a∈e.arms,good a.2:=by
 rcases g.cases with h1|h1|h1|h1|⟨_,_,⟨x,h2,h3,h4⟩,h5,h6⟩
 ·omega
 ·omega
 ·omega
 ·omega
 ·exact ⟨x,h2,h3,h4,h5,fun a ha=>(h6 a ha).2.2.2.2⟩
structure CaseP (ds:List DataD)(N:List Str)(e x:Exp)(d:DataD):Prop where
 kids:e.kids=[x]
 kind:x.kind=1
 good:Go.Vs.Tryz.good x
 sc:ZeG ds x N
 ne:e.arms≠[]
 mem:d∈ds
 cons:(e.arms.map fun a=>a.1.con)=Zbx d
 vars:(e.arms.map fun a=>a.1.vars.length)=d.cons.map fun c=>c.fields.length
 arms:∀ (i:Nat) a,e.arms[i]?=some a→Go.Vs.Tryz.good a.2∧ZeG ds a.2 (N++a.1.vars)∧a.2.weight<e.weight
theorem CaseP.con0 {ds:List DataD}{N:List Str}{e x:Exp}{d:DataD}(h:CaseP ds N e x d):∃ s,(Zbx d)[0]?=some s∧Go.Vs.Tryz.con0 e=ZhI s:=by
 cases ha:e.arms with
 | nil=>exact absurd ha h.ne
 | cons a r =>
  refine ⟨a.1.con,?_,?_⟩
  ·rw [←h.cons,ha];rfl
  ·unfold Go.Vs.Tryz.con0
   rw [ha];rfl
theorem CaseP.same {ds:List DataD}{S N l m:List Str}{a b x y:Exp}{d d':DataD}(hu:uniq ds)(hlm:l.length=m.length)(ha:CaseP ds (N++l) a x d)(hb:CaseP ds (N++m) b y d'):Zfp ds S l (Go.Vs.Tryz.con0 a)=Zfp ds S m (Go.Vs.Tryz.con0 b)↔d=d':=by
 obtain ⟨s,h1,h2⟩:=ha.con0
 obtain ⟨t,h3,h4⟩:=hb.con0
 have m1:s∈Zbx d:=List.mem_of_getElem? h1
 have m2:t∈Zbx d':=List.mem_of_getElem? h3
 rw [h2,h4,Zqj (a:=ZhI s) (b:=ZhI t) hlm rfl rfl ⟨d,ha.mem,m1⟩ ⟨d',hb.mem,m2⟩]
 show s=t↔_
 constructor
 ·rintro rfl
  exact hu d ha.mem d' hb.mem s m1 m2
 ·rintro rfl
  rw [h1] at h3
  exact Option.some.inj h3
theorem CaseP.len {ds:List DataD}{N:List Str}{e x:Exp}{d:DataD}(h:CaseP ds N e x d):e.arms.length=d.cons.length:=by
 have:=congrArg List.length h.vars
 simpa using this
theorem good.wf {e:Exp}:good e→e.wf:=by
 induction e using Exp.ind with
 | h e ih =>
  intro g
  rw [Exp.wf_eq]
  refine ⟨?_,fun x hx=>ih x hx (g.child hx)⟩
  rcases g.cases with ⟨k,_,h,h2⟩|⟨k,_,h,h2⟩|⟨k,_,⟨x,h,_⟩,h2⟩|⟨k,_,⟨f,x,h,_⟩,h2⟩|⟨k,_,⟨x,h,_⟩,_⟩
  all_goals refine ⟨fun h8 => ?_,fun h8 => ?_,fun h1 => ?_⟩<;>first | omega | assumption | (rw [h];rfl)
theorem Zlc {α β γ:Type}{f:α→γ}:∀ {l:List α}{m:List β},l.length=m.length→List.zipWith (fun a _=>f a) l m=l.map f
 | [],m,_=>by simp
 | a::l,[],h=>by simp at h
 | a::l,b::m,h=>by
  simp only [List.zipWith_cons_cons,List.map_cons]
  rw [Zlc (by simpa using h)]
theorem ZiZ (taken:List Str)(e:Exp):∀ old names,e.wf→(ZbD taken e old names).weight=e.weight:=by
 induction e using Exp.ind with
 | h e ih =>
  intro old names hw
  by_cases h:e.kind=1
  ·rw [Zcj h]
   split
   ·rw [Exp.weight_eq,e.weight_eq]
    rfl
   ·rfl
  ·obtain ⟨_,hc,_⟩:=Zch (taken:=taken) (old:=old) (names:=names) h hw.one
   rw [Exp.weight_eq,e.weight_eq,hc]
   have ha:((ZbD taken e old names).arms.map fun a=>a.1.vars.length)=e.arms.map fun a=>a.1.vars.length:=by
    rw [Zd1 h,Zdu,List.map_zipWith]
    simp only [news_len]
    exact Zlc (f:=fun a:ArmH × Exp=>a.1.vars.length) (by rw [List.length_drop,canonC_len];omega)
   have hcw:(ZaL taken e old names).map Exp.weight=e.children.map Exp.weight:=by
    refine List.ext_getElem? fun i => ?_
    rw [List.getElem?_map,List.getElem?_map]
    cases hx:e.children[i]? with
    | none =>
     rw [List.getElem?_eq_none (by rw [canonC_len,←e.children_len];exact List.getElem?_eq_none_iff.1 hx)]
    | some x =>
     rw [Zcd hx,Option.map_some,Option.map_some,ih x (List.mem_of_getElem? hx) _ _ (hw.child (List.mem_of_getElem? hx))]
   rw [ha,hcw]
variable {A:Zac}
def LeafP (n m:Nat)(r:V × List Obj):Prop:=∃ out:List Ty,n≤out.length∧out.length≤m∧(∀ x∈out,x.size≤1073741824)∧r=(.sc (.arr 0 out.length),[.arr 5 (wr (Ty.rows out)) 0])
def VarsP (m:Nat)(r:V × List Obj):Prop:=∃ ids:List Int,ids.length≤m∧r=(intsV ids,[])
variable {A:Zac}
def TyP (r:V × List Obj):Prop:=∃ t:Ty,r=(tyV t,[])
def CloseP (r:V × List Obj):Prop:=∃ (c:Int)(t:Ty),r=(schV c t,[])
theorem Zk5 {m:Nat}:∀ {l:List Ty},(∀ x∈l,x.size≤m)→(l.map Ty.size).sum≤l.length*m
 | [],_=>by simp
 | a::r,h=>by
  have h1:=h a (by simp)
  have h2:=Zk5 (l:=r) fun x hx=>h x (by simp [hx])
  simp only [List.map_cons,List.sum_cons,List.length_cons,Nat.succ_mul]
  omega
def TypeS (L:List Int)(m:Nat)(r:V × List Obj):Prop:=∃ t J,t.size≤m∧J≤L.length∧r=(tyV t,[Zbi L J])
def TypeJ (L:List Int)(ds:List DataD)(ls:List Ty)(dd:DataD)(d i:Nat)(s:St):Prop:=∃ tys J,tys.length=i∧(∀ x∈tys,x.size≤5 ^ d)∧J≤L.length ∧
 s=⟨[(0,.sc (.ptr 0 0)),(1,ZaS ds),(2,tysV ls),(3,intV (d+1)),(8,.sc (.ptr 64 0)),(10,.sc (.ptr 3392 0)),(11,.sc (.arr 3521 i)),(12,intV i)],
  [(0,some (Zbi L J)),(64,some (.box [zi,zs,zi,zi,.nil])),(3392,some (.box (wc (ZaJ dd)))),(3521,some (.arr 5 (wr (Ty.rows tys)) 0))]⟩
variable {A:Zac}
def rigids:List Ty:=[.mk 3 [] 0 0 [],.mk 3 [] 1 3 []]
def vars2:List Ty:=[.mk 1 [] 0 0 [],.mk 1 [] 1 0 []]
def ctxV (l:List EntD):V:=match l with
 | []=>.sc .nil
 | l=>entsV l
def CtxP (L:List Int)(r:V × List Obj):Prop:=∃ (l:List EntD)(t:Ty)(J:Nat),l.length≤3∧(∀ x∈l,x.name∈Za8)∧J≤L.length∧r=(.tu [entsV l,tyV t],[Zbi L J])
def CtxI (L:List Int)(ds:List DataD)(n i:Nat)(s:St):Prop:=∃ (l:List EntD)(J p:Nat),l.length=i∧(∀ x∈l,x.name∈Za8)∧J≤L.length∧(p=0∨p=2) ∧
 s=⟨[(0,.sc (.ptr 0 0)),(1,ZaS ds),(5,.sc (.ptr 128 0)),(6,.sc (.arr 320 2)),(7,ctxV l),(8,intV n),(9,intV i)],
  [(0,some (Zbi L J)),(128,some (.box [zi,zs,zi,zi,.nil])),(320,some (.arr 5 (wr (Ty.rows rigids)) p))]⟩
variable {A:Zac}
def varExp (s:Str):Exp:=.mk 1 0 s 0 [] [] tz
variable {A:Zac}
@[simp] theorem range_5:List.range 5=[0,1,2,3,4]:=rfl
def boxC (ds:List DataD)(ctx:List EntD):List Obj:=[.box [.c (.sl (Zax ds))],.box [.c (.sl (Zbr ctx))],.box [.clo 58 [true,true,true] [[.ptr 2 0],[.ptr 3 0],[.ptr 4 0]]],.box [.clo 54 [true,true] [[.ptr 0 0],[.ptr 1 0]]],.box [.clo 57 [true] [[.ptr 2 0]]]]
def boxA (ds:List DataD)(ctx:List EntD):List Obj:=[.box [.clo 54 [true,true] [[.ptr 2 0],[.ptr 3 0]]],.box [.clo 57 [true] [[.ptr 4 0]]],.box [.c (.sl (Zax ds))],.box [.c (.sl (Zbr ctx))],.box [.clo 58 [true,true,true] [[.ptr 4 0],[.ptr 0 0],[.ptr 1 0]]]]
abbrev rkM (ds:List DataD)(ctx:List EntD):=Zfp ds (seenN ctx)
def CmpC (A:Zac)(ds:List DataD)(ctx:List EntD)(n:Nat):Prop:=∀ (a b:Exp)(l m:List Str),a.weight≤n→good a→good b→l.length+a.weight≤1073741824→m.length+b.weight≤1073741824 →
 (K A).call 58 [ZaB l,ZaB m,expV a,expV b,.sc (.ptr 2 0),.sc (.ptr 3 0),.sc (.ptr 4 0)] (boxC ds ctx)=some (intV (cmpF (rkM ds ctx) n l m a b),boxC ds ctx)
end Go.Vs.Tryz
