/- Equal up to the names that are bound, by the reference, walked. (Parts of one proof, put together.) -/
import Derived.Test.YtlcncicmkkelcaaGreatDoorR2b
set_option linter.unusedSimpArgs false
set_option linter.unusedVariables false
set_option linter.deprecated false
namespace Go.Vs.Tryz
open Go Go.Vs
variable {A:Zac}
def tyBd (e:Exp):Prop:=e.fold fun e l=>e.ty.size≤1073741824∧∀ p∈l,p
theorem ZdK (e:Exp):tyBd e=(e.ty.size≤1073741824∧∀ x∈e.children,tyBd x):=by
 have:=Exp.fold_eq (fun e (l:List Prop)=>e.ty.size≤1073741824∧∀ p∈l,p) e
 unfold tyBd
 rw [this]
 simp only [List.forall_mem_map]
theorem tyBd.one {e:Exp}(h:tyBd e):e.ty.size≤1073741824:=by rw [ZdK] at h;exact h.1
theorem tyBd.child {e x:Exp}(h:tyBd e)(hx:x∈e.children):tyBd x:=by rw [ZdK] at h;exact h.2 x hx
def spineF (e:Exp)(l:List (Exp × List Exp)):Exp × List Exp :=
 if e.kind=5 then match e.kids,l with
  | [_,x],r::_=>(r.1,r.2++[x])
  | _,_=>(e,[])
 else (e,[])
def Zeq (e:Exp):Exp × List Exp:=e.fold spineF
def sizeM (e:Exp):Nat:=e.fold fun e l=>if e.kind=5 then l.sum else if e.kind=8 then 1+(l.drop 1).sum else 1+l.sum
def ZqX (e:Exp):Prop:=e.pos=0∧e.num=0∧e.ty=tz ∧
 ((e.kind=1∧Zdi 97 122 e.name∧e.kids=[]∧e.arms=[])∨(e.kind=2∧Zdi 65 90 e.name∧e.kids=[]∧e.arms=[]) ∨
   (e.kind=4∧Zdi 97 122 e.name∧(∃ x,e.kids=[x])∧e.arms=[]) ∨
   (e.kind=5∧e.name=[]∧(∃ f x,e.kids=[f,x]∧(f.kind=1∨f.kind=2∨f.kind=5))∧e.arms=[]) ∨
   (e.kind=8∧e.name=[]∧(∃ x,e.kids=[x]∧x.kind=1)∧e.arms≠[]∧∀ a∈e.arms,a.1.pos=0∧Zdi 65 90 a.1.con∧a.1.vars.length≤4∧∀ v∈a.1.vars,Zdi 97 122 v))
def good (e:Exp):Prop:=e.fold fun e l=>ZqX e∧∀ p∈l,p
theorem ZoB (e:Exp):good e=(ZqX e∧∀ x∈e.children,good x):=by
 have:=Exp.fold_eq (fun e (l:List Prop)=>ZqX e∧∀ p∈l,p) e
 unfold good
 rw [this]
 simp only [List.forall_mem_map]
theorem good.one {e:Exp}(h:good e):ZqX e:=by rw [ZoB] at h;exact h.1
theorem good.child {e x:Exp}(h:good e)(hx:x∈e.children):good x:=by rw [ZoB] at h;exact h.2 x hx
theorem good.cases {e:Exp}(h:good e):(e.kind=1∧Zdi 97 122 e.name∧e.kids=[]∧e.arms=[])∨(e.kind=2∧Zdi 65 90 e.name∧e.kids=[]∧e.arms=[]) ∨
 (e.kind=4∧Zdi 97 122 e.name∧(∃ x,e.kids=[x]∧good x)∧e.arms=[]) ∨
 (e.kind=5∧e.name=[]∧(∃ f x,e.kids=[f,x]∧(f.kind=1∨f.kind=2∨f.kind=5)∧good f∧good x)∧e.arms=[]) ∨
 (e.kind=8∧e.name=[]∧(∃ x,e.kids=[x]∧x.kind=1∧good x)∧e.arms≠[]∧∀ a∈e.arms,a.1.pos=0∧Zdi 65 90 a.1.con∧a.1.vars.length≤4∧(∀ v∈a.1.vars,Zdi 97 122 v)∧good a.2):=by
 obtain ⟨_,_,_,h1⟩:=h.one
 rcases h1 with h1|h1|⟨a,b,⟨x,hx⟩,c⟩|⟨a,b,⟨f,x,hx,hf⟩,c⟩|⟨a,b,⟨x,hx,hk⟩,c,d⟩
 ·exact .inl h1
 ·exact .inr (.inl h1)
 ·exact .inr (.inr (.inl ⟨a,b,⟨x,hx,h.child (by simp [Exp.children,hx])⟩,c⟩))
 ·exact .inr (.inr (.inr (.inl ⟨a,b,⟨f,x,hx,hf,h.child (by simp [Exp.children,hx]),h.child (by simp [Exp.children,hx])⟩,c⟩)))
 ·refine .inr (.inr (.inr (.inr ⟨a,b,⟨x,hx,hk,h.child (by simp [Exp.children,hx])⟩,c,fun y hy => ?_⟩)))
  obtain ⟨p,q,r,s⟩:=d y hy
  exact ⟨p,q,r,s,h.child (by simp only [Exp.children,List.mem_append,List.mem_map];exact .inr ⟨y,hy,rfl⟩)⟩
theorem ZcS {e x:Exp}(h:x∈e.kids):x∈e.children:=List.mem_append_left _ h
theorem Zca {e:Exp}{a:ArmH × Exp}(h:a∈e.arms):a.2∈e.children:=List.mem_append_right _ (List.mem_map_of_mem h)
variable {A:Zac}
abbrev expsV (l:List Exp):V:=.sc (.c (.sl (Exp.rows l)))
def SpineI (e:Exp)(i:Nat)(s:St):Prop:=∃ cur acc,good cur∧(cur.kind=1∨cur.kind=2∨cur.kind=5)∧acc.length=i∧Zeq e=((Zeq cur).1,(Zeq cur).2++acc.reverse) ∧
 s=⟨[(1,.sc (.ptr 64 0)),(2,.sc (.ptr 128 0)),(4,.sc (.arr 257 i))],[(64,some (.box (wc cur.row))),(128,some (.box [zi,zi,zs,zi,.nil,.nil,zi,zs,zi,zi,.nil])),(257,some (.arr 11 (wr (Exp.rows acc)) 0))]⟩
def ZhQ (s:Str):Exp:=.mk 2 0 s 0 [] [] tz
def kid0 (e:Exp):Exp:=(e.kids[0]?).getD e
def con0 (e:Exp):Exp:=ZhQ (((e.arms[0]?).map fun a=>a.1.con).getD [])
def cmpF (rank:List Str→Exp→Int):Nat→List Str→List Str→Exp→Exp→Int
 | 0,_,_,_,_=>0
 | n+1,l,m,a,b=>orI [cmpI (sizeM a) (sizeM b),cmpI (kindM a) (kindM b),
  if a.kind=4 then cmpF rank n (l++[a.name]) (m++[b.name]) (kid0 a) (kid0 b)
  else if a.kind=8 then orI (cmpI (rank l (kid0 a)) (rank m (kid0 b))::cmpI (rank l (con0 a)) (rank m (con0 b)) ::
   (List.zipWith (fun p q=>cmpF rank n (l++p.1.vars) (m++q.1.vars) p.2 q.2) a.arms b.arms++[cmpI a.arms.length b.arms.length]))
  else orI [cmpI (rank l (Zeq a).1) (rank m (Zeq b).1),cmpI (Zeq a).2.length (Zeq b).2.length,orI (List.zipWith (cmpF rank n l m) (Zeq a).2 (Zeq b).2)]]
variable (rk:List Str→Exp→Int)
def cmpR (n:Nat)(l m:List Str)(a b:Exp):Int :=
 if a.kind=4 then cmpF rk n (l++[a.name]) (m++[b.name]) (kid0 a) (kid0 b)
 else if a.kind=8 then orI (cmpI (rk l (kid0 a)) (rk m (kid0 b))::cmpI (rk l (con0 a)) (rk m (con0 b)) ::
  (List.zipWith (fun p q=>cmpF rk n (l++p.1.vars) (m++q.1.vars) p.2 q.2) a.arms b.arms++[cmpI a.arms.length b.arms.length]))
 else orI [cmpI (rk l (Zeq a).1) (rk m (Zeq b).1),cmpI (Zeq a).2.length (Zeq b).2.length,orI (List.zipWith (cmpF rk n l m) (Zeq a).2 (Zeq b).2)]
def Tri (x y z:Int):Prop:=(x=0→y=0→z=0)∧(x≤0→y≤0→(x<0∨y<0)→z<0)
def ZpB (ds:List DataD)(e:Exp)(N:List Str):Prop:=(e.kind=1→e.name∈N)∧(e.kind=2→∃ d∈ds,e.name∈Zbw d) ∧
 (e.kind=8→∃ d∈ds,(e.arms.map fun a=>a.1.con)=Zbw d∧(e.arms.map fun a=>a.1.vars.length)=d.cons.map fun c=>c.fields.length)
def ZpK (ds:List DataD)(e:Exp)(l:List (List Str→Prop))(N:List Str):Prop:=ZpB ds e N∧∀ (i:Nat) p,l[i]?=some p→p (N++e.bound i)
def Zeo (ds:List DataD)(e:Exp):List Str→Prop:=e.fold (ZpK ds)
def uniq (ds:List DataD):Prop:=∀ d∈ds,∀ d'∈ds,∀ c,c∈Zbw d→c∈Zbw d'→d=d'
theorem ZgK {ds:List DataD}{i j:Nat}(h:i≤j):Zel ds i≤Zel ds j:=by
 unfold Zel
 have:ds.take i=(ds.take j).take i:=by rw [List.take_take,Nat.min_eq_left h]
 rw [this,List.map_take]
 exact ZiJ
theorem Zmi {ds:List DataD}{i j k k':Nat}{d d':DataD}(hi:ds[i]?=some d)(hj:ds[j]?=some d')(hk:k<d.cons.length)(hk':k'<d'.cons.length)(h:k+Zel ds i=k'+Zel ds j):i=j∧k=k':=by
 have h1:=ZgF hi
 have h2:=ZgF hj
 rcases Nat.lt_trichotomy i j with h3|h3|h3
 ·have:=ZgK (ds:=ds) (i:=i+1) (j:=j) h3
  omega
 ·subst h3
  omega
 ·have:=ZgK (ds:=ds) (i:=j+1) (j:=i) h3
  omega
theorem Zh9 {ds:List DataD}{S l:List Str}{e:Exp}(h:e.kind=2)(hd:∃ d∈ds,e.name∈Zbw d):∃ (i k:Nat)(d:DataD),ds[i]?=some d∧(Zbw d)[k]?=some e.name∧Ze2 ds S l e=S.length+l.length+k+Zel ds i:=by
 obtain ⟨d0,h0,hc⟩:=hd
 have hlt:Zfd ds e.name<ds.length:=by
  unfold Zfd
  rw [List.findIdx_lt_length]
  exact ⟨d0,h0,by simpa using hc⟩
 obtain ⟨d,hd,hm⟩:=Zod hlt
 refine ⟨Zfd ds e.name,ZbM (Zbw d) e.name,d,hd,Zfi (Zb6.2 hm),?_⟩
 unfold Ze2
 rw [if_neg (by omega),if_pos h]
 have hf:Zst ds e.name=(((Zfd ds e.name:Nat):Int),((ZbM (Zbw d) e.name:Nat):Int),true):=by
  unfold Zst
  rw [hd]
 rw [hf]
 simp
theorem Zio {ds:List DataD}{S l:List Str}{e:Exp}(h:e.kind=1):Ze2 ds S l e=if e.name∈l then S.length+rlast l e.name else rlast S e.name:=by
 unfold Ze2
 rw [if_pos h]
theorem Zd8 {l:List Str}{s:Str}(h:s∈l):0≤rlast l s∧rlast l s<l.length:=by
 refine ⟨Zoh h,?_⟩
 unfold rlast
 rw [if_pos h]
 have:=Zb6.2 (List.mem_reverse.2 h)
 rw [List.length_reverse] at this
 omega
theorem ZjL {l:List Str}{s:Str}(h:s∈l):l[(rlast l s).toNat]?=some s:=by
 unfold rlast
 rw [if_pos h]
 have hp:=Zb6.2 (List.mem_reverse.2 h)
 have hx:=Zfi hp
 rw [List.length_reverse] at hp
 rw [Zkr hp] at hx
 rw [show ((l.length:Int)-1-(ZbM l.reverse s:Int)).toNat=l.length-1-ZbM l.reverse s by omega]
 exact hx
section
variable {ds:List DataD}{S l m:List Str}{a b:Exp}
theorem ZqF (hlm:l.length=m.length)(ha:a.kind=2)(hb:b.kind=2)(da:∃ d∈ds,a.name∈Zbw d)(db:∃ d∈ds,b.name∈Zbw d):Ze2 ds S l a=Ze2 ds S m b↔a.name=b.name:=by
 constructor
 ·intro h
  obtain ⟨i,k,d,h1,h2,h3⟩:=Zh9 (S:=S) (l:=l) ha da
  obtain ⟨i',k',d',h1',h2',h3'⟩:=Zh9 (S:=S) (l:=m) hb db
  rw [h3,h3'] at h
  have hk:=(List.getElem?_eq_some_iff.1 h2).1
  have hk':=(List.getElem?_eq_some_iff.1 h2').1
  rw [cnames_len] at hk hk'
  obtain ⟨rfl,rfl⟩:=Zmi h1 h1' hk hk' (by omega)
  rw [h1] at h1'
  cases h1'
  rw [h2] at h2'
  exact Option.some.inj h2'
 ·intro h
  unfold Ze2
  rw [if_neg (by omega),if_pos ha,if_neg (by omega),if_pos hb,h,hlm]
theorem var_rank (hlm:l.length=m.length)(ha:a.kind=1)(hb:b.kind=1)(da:a.name∈S∨a.name∈l)(db:b.name∈S∨b.name∈m):Ze2 ds S l a=Ze2 ds S m b↔ZrG l m a.name b.name:=by
 rw [Zio ha,Zio hb]
 unfold ZrG
 by_cases h1:a.name∈l
 ·obtain ⟨p1,p2⟩:=Zd8 h1
  rw [if_pos h1]
  by_cases h2:b.name∈m
  ·rw [if_pos h2]
   constructor
   ·exact fun h=>⟨by omega,.inl p1⟩
   ·exact fun h=>by omega
  ·obtain ⟨q1,q2⟩:=Zd8 (db.resolve_right h2)
   rw [if_neg h2,Zh6 h2]
   constructor
   ·omega
   ·omega
 ·obtain ⟨p1,p2⟩:=Zd8 (da.resolve_right h1)
  rw [if_neg h1,Zh6 h1]
  by_cases h2:b.name∈m
  ·obtain ⟨q1,q2⟩:=Zd8 h2
   rw [if_pos h2]
   constructor
   ·omega
   ·omega
  ·rw [if_neg h2,Zh6 h2]
   have g1:=ZjL (da.resolve_right h1)
   have g2:=ZjL (db.resolve_right h2)
   constructor
   ·intro h
    rw [h,g2] at g1
    exact ⟨rfl,.inr (Option.some.inj g1).symm⟩
   ·rintro ⟨_,h|h⟩
    ·omega
    ·rw [h]
theorem mixed_rank (hlm:l.length=m.length)(ha:a.kind=1)(hb:b.kind=2)(da:a.name∈S∨a.name∈l)(db:∃ d∈ds,b.name∈Zbw d):Ze2 ds S l a<Ze2 ds S m b:=by
 obtain ⟨i',k',d',h1',h2',h3'⟩:=Zh9 (S:=S) (l:=m) hb db
 rw [Zio ha,h3']
 by_cases h1:a.name∈l
 ·have:=Zd8 h1
  rw [if_pos h1]
  omega
 ·have:=Zd8 (da.resolve_right h1)
  rw [if_neg h1]
  omega
end
variable {A:Zac}
def ZgI (p:Str × Str):List Cell:=[.str p.1,.str p.2]
def Zcf (l:List (Str × Str)):List (List Cell):=l.map ZgI
@[simp] theorem pairRow_len (p:Str × Str):(ZgI p).length=2:=rfl
@[simp] theorem pairRows_len (l:List (Str × Str)):(Zcf l).length=l.length:=by simp [Zcf]
@[simp] theorem pairRows_get (l:List (Str × Str)) (i:Nat):(Zcf l)[i]?=(l[i]?).map ZgI:=by simp [Zcf]
@[simp] theorem okRows_pair (l:List (Str × Str)):Za0 2 (wr (Zcf l))=true:=ZbG l pairRow_len
@[simp] theorem pairRows_snoc (l:List (Str × Str)) (x:Str × Str):wr (Zcf l)++[[W.c (.str x.1),W.c (.str x.2)]]=wr (Zcf (l++[x])):=by simp [Zcf,wr,ZgI]
@[simp] theorem fit_pair (l:List (Str × Str)):Zbv 2 (Zcf l)=true:=Zip pairRow_len l
@[simp] theorem wc_pair (p:Str × Str):wc (ZgI p)=[.c (.str p.1),.c (.str p.2)]:=rfl
abbrev pairsV (l:List (Str × Str)):V:=.sc (.c (.sl (Zcf l)))
def one3 (x:Int):Prop:=-1≤x∧x≤1
variable {A:Zac}
def ZeroB (P:Prop)(r:V × List Obj):Prop:=∃ n:Int,(n=0↔P)∧one3 n∧r=(intV n,[])
@[simp] theorem b_slss {a b:Str}:binV .lss 0 (.sc (.c (.str a))) (.sc (.c (.str b)))=some (.sc (.c (.bool (Op.bytesLess a b))),[]):=by simp [binV,binW,Za2,ZfO]
@[simp] theorem b_sgtr {a b:Str}:binV .gtr 0 (.sc (.c (.str a))) (.sc (.c (.str b)))=some (.sc (.c (.bool !(Op.bytesLess a b || a == b))),[]):=by simp [binV,binW,Za2,ZfO]
def ZrQ (e:Exp):Prop:=e.kind=1∨e.kind=2∨e.kind=5
theorem good.app {e:Exp}(g:good e)(h:e.kind=5):∃ f x,e.kids=[f,x]∧ZrQ f∧good f∧good x∧e.arms=[]:=by
 rcases g.cases with h1|h1|h1|⟨_,_,⟨f,x,h2,h3,h4,h5⟩,h6⟩|h1
 ·omega
 ·omega
 ·omega
 ·exact ⟨f,x,h2,h3,h4,h5,h6⟩
 ·omega
theorem good.case {e:Exp}(g:good e)(h:e.kind=8):∃ x,e.kids=[x]∧x.kind=1∧good x∧e.arms≠[]∧∀ a∈e.arms,good a.2:=by
 rcases g.cases with h1|h1|h1|h1|⟨_,_,⟨x,h2,h3,h4⟩,h5,h6⟩
 ·omega
 ·omega
 ·omega
 ·omega
 ·exact ⟨x,h2,h3,h4,h5,fun a ha=>(h6 a ha).2.2.2.2⟩
structure CaseP (ds:List DataD)(N:List Str)(e x:Exp)(d:DataD):Prop where
 kids:e.kids=[x]
 kind:x.kind=1
 good:Go.Vs.Tryz.good x
 sc:Zeo ds x N
 ne:e.arms≠[]
 mem:d∈ds
 cons:(e.arms.map fun a=>a.1.con)=Zbw d
 vars:(e.arms.map fun a=>a.1.vars.length)=d.cons.map fun c=>c.fields.length
 arms:∀ (i:Nat) a,e.arms[i]?=some a→Go.Vs.Tryz.good a.2∧Zeo ds a.2 (N++a.1.vars)∧a.2.weight<e.weight
theorem CaseP.con0 {ds:List DataD}{N:List Str}{e x:Exp}{d:DataD}(h:CaseP ds N e x d):∃ s,(Zbw d)[0]?=some s∧Go.Vs.Tryz.con0 e=ZhQ s:=by
 cases ha:e.arms with
 | nil=>exact absurd ha h.ne
 | cons a r =>
  refine ⟨a.1.con,?_,?_⟩
  ·rw [←h.cons,ha];rfl
  ·unfold Go.Vs.Tryz.con0
   rw [ha];rfl
theorem CaseP.same {ds:List DataD}{S N l m:List Str}{a b x y:Exp}{d d':DataD}(hu:uniq ds)(hlm:l.length=m.length)(ha:CaseP ds (N++l) a x d)(hb:CaseP ds (N++m) b y d'):Ze2 ds S l (Go.Vs.Tryz.con0 a)=Ze2 ds S m (Go.Vs.Tryz.con0 b)↔d=d':=by
 obtain ⟨s,h1,h2⟩:=ha.con0
 obtain ⟨t,h3,h4⟩:=hb.con0
 have m1:s∈Zbw d:=List.mem_of_getElem? h1
 have m2:t∈Zbw d':=List.mem_of_getElem? h3
 rw [h2,h4,ZqF (a:=ZhQ s) (b:=ZhQ t) hlm rfl rfl ⟨d,ha.mem,m1⟩ ⟨d',hb.mem,m2⟩]
 show s=t↔_
 constructor
 ·rintro rfl
  exact hu d ha.mem d' hb.mem s m1 m2
 ·rintro rfl
  rw [h1] at h3
  exact Option.some.inj h3
theorem CaseP.len {ds:List DataD}{N:List Str}{e x:Exp}{d:DataD}(h:CaseP ds N e x d):e.arms.length=d.cons.length:=by
 have:=congrArg List.length h.vars
 simpa using this
theorem good.wf {e:Exp}:good e→e.wf:=by
 induction e using Exp.ind with
 | h e ih =>
  intro g
  rw [Exp.wf_eq]
  refine ⟨?_,fun x hx=>ih x hx (g.child hx)⟩
  rcases g.cases with ⟨k,_,h,h2⟩|⟨k,_,h,h2⟩|⟨k,_,⟨x,h,_⟩,h2⟩|⟨k,_,⟨f,x,h,_⟩,h2⟩|⟨k,_,⟨x,h,_⟩,_⟩
  all_goals refine ⟨fun h8 => ?_,fun h8 => ?_,fun h1 => ?_⟩<;>first | omega | assumption | (rw [h];rfl)
variable {A:Zac}
def LeafP (n m:Nat)(r:V × List Obj):Prop:=∃ out:List Ty,n≤out.length∧out.length≤m∧(∀ x∈out,x.size≤1073741824)∧r=(.sc (.arr 0 out.length),[.arr 5 (wr (Ty.rows out)) 0])
def VarsP (m:Nat)(r:V × List Obj):Prop:=∃ ids:List Int,ids.length≤m∧r=(intsV ids,[])
variable {A:Zac}
def TyP (r:V × List Obj):Prop:=∃ t:Ty,r=(tyV t,[])
def CloseP (r:V × List Obj):Prop:=∃ (c:Int)(t:Ty),r=(schV c t,[])
theorem ZlE {m:Nat}:∀ {l:List Ty},(∀ x∈l,x.size≤m)→(l.map Ty.size).sum≤l.length*m
 | [],_=>by simp
 | a::r,h=>by
  have h1:=h a (by simp)
  have h2:=ZlE (l:=r) fun x hx=>h x (by simp [hx])
  simp only [List.map_cons,List.sum_cons,List.length_cons,Nat.succ_mul]
  omega
def TypeS (L:List Int)(m:Nat)(r:V × List Obj):Prop:=∃ t J,t.size≤m∧J≤L.length∧r=(tyV t,[Zbo L J])
def TypeJ (L:List Int)(ds:List DataD)(ls:List Ty)(dd:DataD)(d i:Nat)(s:St):Prop:=∃ tys J,tys.length=i∧(∀ x∈tys,x.size≤5 ^ d)∧J≤L.length ∧
 s=⟨[(0,.sc (.ptr 0 0)),(1,ZaX ds),(2,tysV ls),(3,intV (d+1)),(8,.sc (.ptr 64 0)),(10,.sc (.ptr 3392 0)),(11,.sc (.arr 3521 i)),(12,intV i)],
  [(0,some (Zbo L J)),(64,some (.box [zi,zs,zi,zi,.nil])),(3392,some (.box (wc (ZaM dd)))),(3521,some (.arr 5 (wr (Ty.rows tys)) 0))]⟩
variable {A:Zac}
def rigids:List Ty:=[.mk 3 [] 0 0 [],.mk 3 [] 1 3 []]
def vars2:List Ty:=[.mk 1 [] 0 0 [],.mk 1 [] 1 0 []]
def ctxV (l:List EntD):V:=match l with
 | []=>.sc .nil
 | l=>entsV l
def CtxP (L:List Int)(r:V × List Obj):Prop:=∃ (l:List EntD)(t:Ty)(J:Nat),l.length≤3∧(∀ x∈l,x.name∈Za8)∧J≤L.length∧r=(.tu [entsV l,tyV t],[Zbo L J])
def CtxI (L:List Int)(ds:List DataD)(n i:Nat)(s:St):Prop:=∃ (l:List EntD)(J p:Nat),l.length=i∧(∀ x∈l,x.name∈Za8)∧J≤L.length∧(p=0∨p=2) ∧
 s=⟨[(0,.sc (.ptr 0 0)),(1,ZaX ds),(5,.sc (.ptr 128 0)),(6,.sc (.arr 320 2)),(7,ctxV l),(8,intV n),(9,intV i)],
  [(0,some (Zbo L J)),(128,some (.box [zi,zs,zi,zi,.nil])),(320,some (.arr 5 (wr (Ty.rows rigids)) p))]⟩
variable {A:Zac}
def varExp (s:Str):Exp:=.mk 1 0 s 0 [] [] tz
variable {A:Zac}
@[simp] theorem range_5:List.range 5=[0,1,2,3,4]:=rfl
def boxC (ds:List DataD)(ctx:List EntD):List Obj:=[.box [.c (.sl (Zax ds))],.box [.c (.sl (Zbq ctx))],.box [.clo 58 [true,true,true] [[.ptr 2 0],[.ptr 3 0],[.ptr 4 0]]],.box [.clo 54 [true,true] [[.ptr 0 0],[.ptr 1 0]]],.box [.clo 57 [true] [[.ptr 2 0]]]]
def boxA (ds:List DataD)(ctx:List EntD):List Obj:=[.box [.clo 54 [true,true] [[.ptr 2 0],[.ptr 3 0]]],.box [.clo 57 [true] [[.ptr 4 0]]],.box [.c (.sl (Zax ds))],.box [.c (.sl (Zbq ctx))],.box [.clo 58 [true,true,true] [[.ptr 4 0],[.ptr 0 0],[.ptr 1 0]]]]
abbrev rkM (ds:List DataD)(ctx:List EntD):=Ze2 ds (seenN ctx)
def CmpC (A:Zac)(ds:List DataD)(ctx:List EntD)(n:Nat):Prop:=∀ (a b:Exp)(l m:List Str),a.weight≤n→good a→good b→l.length+a.weight≤1073741824→m.length+b.weight≤1073741824 →
 (K A).call 58 [Za3 l,Za3 m,expV a,expV b,.sc (.ptr 2 0),.sc (.ptr 3 0),.sc (.ptr 4 0)] (boxC ds ctx)=some (intV (cmpF (rkM ds ctx) n l m a b),boxC ds ctx)
end Go.Vs.Tryz
