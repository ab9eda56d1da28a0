/- Equal up to the names that are bound, by the reference, walked. (Parts of one proof, put together.) -/
import Derived.Test.YtlcncicmkkelcaaGreatDoorR2f
set_option linter.unusedSimpArgs false
set_option linter.unusedVariables false
set_option linter.deprecated false
namespace Go.Vs.Tryz
open Go Go.Vs
variable {A:Oracle}
def tyBd (e:Exp):Prop:=e.fold fun e l=>e.ty.size≤1073741824∧∀ p∈l,p
theorem tyBd_eq (e:Exp):tyBd e=(e.ty.size≤1073741824∧∀ x∈e.children,tyBd x):=by
 have:=Exp.fold_eq (fun e (l:List Prop)=>e.ty.size≤1073741824∧∀ p∈l,p) e
 unfold tyBd
 rw [this]
 simp only [List.forall_mem_map]
theorem tyBd.one {e:Exp}(h:tyBd e):e.ty.size≤1073741824:=by rw [tyBd_eq] at h;exact h.1
theorem tyBd.child {e x:Exp}(h:tyBd e)(hx:x∈e.children):tyBd x:=by rw [tyBd_eq] at h;exact h.2 x hx
def spineF (e:Exp)(l:List (Exp × List Exp)):Exp × List Exp :=
 if e.kind=5 then match e.kids,l with
  | [_,x],r::_=>(r.1,r.2++[x])
  | _,_=>(e,[])
 else (e,[])
def spine (e:Exp):Exp × List Exp:=e.fold spineF
def sizeM (e:Exp):Nat:=e.fold fun e l=>if e.kind=5 then l.sum else if e.kind=8 then 1+(l.drop 1).sum else 1+l.sum
def good1 (e:Exp):Prop:=e.pos=0∧e.num=0∧e.ty=tz ∧
 ((e.kind=1∧nameOk 97 122 e.name∧e.kids=[]∧e.arms=[])∨(e.kind=2∧nameOk 65 90 e.name∧e.kids=[]∧e.arms=[]) ∨
   (e.kind=4∧nameOk 97 122 e.name∧(∃ x,e.kids=[x])∧e.arms=[]) ∨
   (e.kind=5∧e.name=[]∧(∃ f x,e.kids=[f,x]∧(f.kind=1∨f.kind=2∨f.kind=5))∧e.arms=[]) ∨
   (e.kind=8∧e.name=[]∧(∃ x,e.kids=[x]∧x.kind=1)∧e.arms≠[]∧∀ a∈e.arms,a.1.pos=0∧nameOk 65 90 a.1.con∧a.1.vars.length≤4∧∀ v∈a.1.vars,nameOk 97 122 v))
def good (e:Exp):Prop:=e.fold fun e l=>good1 e∧∀ p∈l,p
theorem good_eq (e:Exp):good e=(good1 e∧∀ x∈e.children,good x):=by
 have:=Exp.fold_eq (fun e (l:List Prop)=>good1 e∧∀ p∈l,p) e
 unfold good
 rw [this]
 simp only [List.forall_mem_map]
theorem good.one {e:Exp}(h:good e):good1 e:=by rw [good_eq] at h;exact h.1
theorem good.child {e x:Exp}(h:good e)(hx:x∈e.children):good x:=by rw [good_eq] at h;exact h.2 x hx
theorem good.cases {e:Exp}(h:good e):(e.kind=1∧nameOk 97 122 e.name∧e.kids=[]∧e.arms=[])∨(e.kind=2∧nameOk 65 90 e.name∧e.kids=[]∧e.arms=[]) ∨
 (e.kind=4∧nameOk 97 122 e.name∧(∃ x,e.kids=[x]∧good x)∧e.arms=[]) ∨
 (e.kind=5∧e.name=[]∧(∃ f x,e.kids=[f,x]∧(f.kind=1∨f.kind=2∨f.kind=5)∧good f∧good x)∧e.arms=[]) ∨
 (e.kind=8∧e.name=[]∧(∃ x,e.kids=[x]∧x.kind=1∧good x)∧e.arms≠[]∧∀ a∈e.arms,a.1.pos=0∧nameOk 65 90 a.1.con∧a.1.vars.length≤4∧(∀ v∈a.1.vars,nameOk 97 122 v)∧good a.2):=by
 obtain ⟨_,_,_,h1⟩:=h.one
 rcases h1 with h1|h1|⟨a,b,⟨x,hx⟩,c⟩|⟨a,b,⟨f,x,hx,hf⟩,c⟩|⟨a,b,⟨x,hx,hk⟩,c,d⟩
 ·exact .inl h1
 ·exact .inr (.inl h1)
 ·exact .inr (.inr (.inl ⟨a,b,⟨x,hx,h.child (by simp [Exp.children,hx])⟩,c⟩))
 ·exact .inr (.inr (.inr (.inl ⟨a,b,⟨f,x,hx,hf,h.child (by simp [Exp.children,hx]),h.child (by simp [Exp.children,hx])⟩,c⟩)))
 ·refine .inr (.inr (.inr (.inr ⟨a,b,⟨x,hx,hk,h.child (by simp [Exp.children,hx])⟩,c,fun y hy => ?_⟩)))
  obtain ⟨p,q,r,s⟩:=d y hy
  exact ⟨p,q,r,s,h.child (by simp only [Exp.children,List.mem_append,List.mem_map];exact .inr ⟨y,hy,rfl⟩)⟩
theorem kids_mem {e x:Exp}(h:x∈e.kids):x∈e.children:=List.mem_append_left _ h
theorem arm_mem {e:Exp}{a:ArmH × Exp}(h:a∈e.arms):a.2∈e.children:=List.mem_append_right _ (List.mem_map_of_mem h)
variable {A:Oracle}
abbrev expsV (l:List Exp):V:=.sc (.c (.sl (Exp.rows l)))
def SpineI (e:Exp)(i:Nat)(s:St):Prop:=∃ cur acc,good cur∧(cur.kind=1∨cur.kind=2∨cur.kind=5)∧acc.length=i∧spine e=((spine cur).1,(spine cur).2++acc.reverse) ∧
 s=⟨[(1,.sc (.ptr 64 0)),(2,.sc (.ptr 128 0)),(4,.sc (.arr 257 i))],[(64,some (.box (wc cur.row))),(128,some (.box [zi,zi,zs,zi,.nil,.nil,zi,zs,zi,zi,.nil])),(257,some (.arr 11 (wr (Exp.rows acc)) 0))]⟩
def conExp (s:Str):Exp:=.mk 2 0 s 0 [] [] tz
def kid0 (e:Exp):Exp:=(e.kids[0]?).getD e
def con0 (e:Exp):Exp:=conExp (((e.arms[0]?).map fun a=>a.1.con).getD [])
def cmpF (rank:List Str→Exp→Int):Nat→List Str→List Str→Exp→Exp→Int
 | 0,_,_,_,_=>0
 | n+1,l,m,a,b=>orI [cmpI (sizeM a) (sizeM b),cmpI (kindM a) (kindM b),
  if a.kind=4 then cmpF rank n (l++[a.name]) (m++[b.name]) (kid0 a) (kid0 b)
  else if a.kind=8 then orI (cmpI (rank l (kid0 a)) (rank m (kid0 b))::cmpI (rank l (con0 a)) (rank m (con0 b)) ::
   (List.zipWith (fun p q=>cmpF rank n (l++p.1.vars) (m++q.1.vars) p.2 q.2) a.arms b.arms++[cmpI a.arms.length b.arms.length]))
  else orI [cmpI (rank l (spine a).1) (rank m (spine b).1),cmpI (spine a).2.length (spine b).2.length,orI (List.zipWith (cmpF rank n l m) (spine a).2 (spine b).2)]]
variable (rk:List Str→Exp→Int)
def cmpR (n:Nat)(l m:List Str)(a b:Exp):Int :=
 if a.kind=4 then cmpF rk n (l++[a.name]) (m++[b.name]) (kid0 a) (kid0 b)
 else if a.kind=8 then orI (cmpI (rk l (kid0 a)) (rk m (kid0 b))::cmpI (rk l (con0 a)) (rk m (con0 b)) ::
  (List.zipWith (fun p q=>cmpF rk n (l++p.1.vars) (m++q.1.vars) p.2 q.2) a.arms b.arms++[cmpI a.arms.length b.arms.length]))
 else orI [cmpI (rk l (spine a).1) (rk m (spine b).1),cmpI (spine a).2.length (spine b).2.length,orI (List.zipWith (cmpF rk n l m) (spine a).2 (spine b).2)]
def Tri (x y z:Int):Prop:=(x=0→y=0→z=0)∧(x≤0→y≤0→(x<0∨y<0)→z<0)
def inScope1 (ds:List DataD)(e:Exp)(N:List Str):Prop:=(e.kind=1→e.name∈N)∧(e.kind=2→∃ d∈ds,e.name∈cnames d) ∧
 (e.kind=8→∃ d∈ds,(e.arms.map fun a=>a.1.con)=cnames d∧(e.arms.map fun a=>a.1.vars.length)=d.cons.map fun c=>c.fields.length)
def inScopeF (ds:List DataD)(e:Exp)(l:List (List Str→Prop))(N:List Str):Prop:=inScope1 ds e N∧∀ (i:Nat) p,l[i]?=some p→p (N++e.bound i)
def inScope (ds:List DataD)(e:Exp):List Str→Prop:=e.fold (inScopeF ds)
def uniq (ds:List DataD):Prop:=∀ d∈ds,∀ d'∈ds,∀ c,c∈cnames d→c∈cnames d'→d=d'
theorem consTo_mono {ds:List DataD}{i j:Nat}(h:i≤j):consTo ds i≤consTo ds j:=by
 unfold consTo
 have:ds.take i=(ds.take j).take i:=by rw [List.take_take,Nat.min_eq_left h]
 rw [this,List.map_take]
 exact sum_take
theorem consTo_inj {ds:List DataD}{i j k k':Nat}{d d':DataD}(hi:ds[i]?=some d)(hj:ds[j]?=some d')(hk:k<d.cons.length)(hk':k'<d'.cons.length)(h:k+consTo ds i=k'+consTo ds j):i=j∧k=k':=by
 have h1:=consTo_succ hi
 have h2:=consTo_succ hj
 rcases Nat.lt_trichotomy i j with h3|h3|h3
 ·have:=consTo_mono (ds:=ds) (i:=i+1) (j:=j) h3
  omega
 ·subst h3
  omega
 ·have:=consTo_mono (ds:=ds) (i:=j+1) (j:=i) h3
  omega
theorem rank_con {ds:List DataD}{S l:List Str}{e:Exp}(h:e.kind=2)(hd:∃ d∈ds,e.name∈cnames d):∃ (i k:Nat)(d:DataD),ds[i]?=some d∧(cnames d)[k]?=some e.name∧rankM ds S l e=S.length+l.length+k+consTo ds i:=by
 obtain ⟨d0,h0,hc⟩:=hd
 have hlt:dataOf ds e.name<ds.length:=by
  unfold dataOf
  rw [List.findIdx_lt_length]
  exact ⟨d0,h0,by simpa using hc⟩
 obtain ⟨d,hd,hm⟩:=dataOf_at hlt
 refine ⟨dataOf ds e.name,place (cnames d) e.name,d,hd,place_at (place_mem.2 hm),?_⟩
 unfold rankM
 rw [if_neg (by omega),if_pos h]
 have hf:findM ds e.name=(((dataOf ds e.name:Nat):Int),((place (cnames d) e.name:Nat):Int),true):=by
  unfold findM
  rw [hd]
 rw [hf]
 simp
theorem rank_var {ds:List DataD}{S l:List Str}{e:Exp}(h:e.kind=1):rankM ds S l e=if e.name∈l then S.length+rlast l e.name else rlast S e.name:=by
 unfold rankM
 rw [if_pos h]
theorem rlast_lt {l:List Str}{s:Str}(h:s∈l):0≤rlast l s∧rlast l s<l.length:=by
 refine ⟨rlast_mem h,?_⟩
 unfold rlast
 rw [if_pos h]
 have:=place_mem.2 (List.mem_reverse.2 h)
 rw [List.length_reverse] at this
 omega
theorem rlast_get {l:List Str}{s:Str}(h:s∈l):l[(rlast l s).toNat]?=some s:=by
 unfold rlast
 rw [if_pos h]
 have hp:=place_mem.2 (List.mem_reverse.2 h)
 have hx:=place_at hp
 rw [List.length_reverse] at hp
 rw [rev_get hp] at hx
 rw [show ((l.length:Int)-1-(place l.reverse s:Int)).toNat=l.length-1-place l.reverse s by omega]
 exact hx
section
variable {ds:List DataD}{S l m:List Str}{a b:Exp}
theorem con_rank (hlm:l.length=m.length)(ha:a.kind=2)(hb:b.kind=2)(da:∃ d∈ds,a.name∈cnames d)(db:∃ d∈ds,b.name∈cnames d):rankM ds S l a=rankM ds S m b↔a.name=b.name:=by
 constructor
 ·intro h
  obtain ⟨i,k,d,h1,h2,h3⟩:=rank_con (S:=S) (l:=l) ha da
  obtain ⟨i',k',d',h1',h2',h3'⟩:=rank_con (S:=S) (l:=m) hb db
  rw [h3,h3'] at h
  have hk:=(List.getElem?_eq_some_iff.1 h2).1
  have hk':=(List.getElem?_eq_some_iff.1 h2').1
  rw [cnames_len] at hk hk'
  obtain ⟨rfl,rfl⟩:=consTo_inj h1 h1' hk hk' (by omega)
  rw [h1] at h1'
  cases h1'
  rw [h2] at h2'
  exact Option.some.inj h2'
 ·intro h
  unfold rankM
  rw [if_neg (by omega),if_pos ha,if_neg (by omega),if_pos hb,h,hlm]
theorem var_rank (hlm:l.length=m.length)(ha:a.kind=1)(hb:b.kind=1)(da:a.name∈S∨a.name∈l)(db:b.name∈S∨b.name∈m):rankM ds S l a=rankM ds S m b↔varEq l m a.name b.name:=by
 rw [rank_var ha,rank_var hb]
 unfold varEq
 by_cases h1:a.name∈l
 ·obtain ⟨p1,p2⟩:=rlast_lt h1
  rw [if_pos h1]
  by_cases h2:b.name∈m
  ·rw [if_pos h2]
   constructor
   ·exact fun h=>⟨by omega,.inl p1⟩
   ·exact fun h=>by omega
  ·obtain ⟨q1,q2⟩:=rlast_lt (db.resolve_right h2)
   rw [if_neg h2,rlast_no h2]
   constructor
   ·omega
   ·omega
 ·obtain ⟨p1,p2⟩:=rlast_lt (da.resolve_right h1)
  rw [if_neg h1,rlast_no h1]
  by_cases h2:b.name∈m
  ·obtain ⟨q1,q2⟩:=rlast_lt h2
   rw [if_pos h2]
   constructor
   ·omega
   ·omega
  ·rw [if_neg h2,rlast_no h2]
   have g1:=rlast_get (da.resolve_right h1)
   have g2:=rlast_get (db.resolve_right h2)
   constructor
   ·intro h
    rw [h,g2] at g1
    exact ⟨rfl,.inr (Option.some.inj g1).symm⟩
   ·rintro ⟨_,h|h⟩
    ·omega
    ·rw [h]
theorem mixed_rank (hlm:l.length=m.length)(ha:a.kind=1)(hb:b.kind=2)(da:a.name∈S∨a.name∈l)(db:∃ d∈ds,b.name∈cnames d):rankM ds S l a<rankM ds S m b:=by
 obtain ⟨i',k',d',h1',h2',h3'⟩:=rank_con (S:=S) (l:=m) hb db
 rw [rank_var ha,h3']
 by_cases h1:a.name∈l
 ·have:=rlast_lt h1
  rw [if_pos h1]
  omega
 ·have:=rlast_lt (da.resolve_right h1)
  rw [if_neg h1]
  omega
end
variable {A:Oracle}
def pairRow (p:Str × Str):List Cell:=[.str p.1,.str p.2]
def pairRows (l:List (Str × Str)):List (List Cell):=l.map pairRow
@[simp] theorem pairRow_len (p:Str × Str):(pairRow p).length=2:=rfl
@[simp] theorem pairRows_len (l:List (Str × Str)):(pairRows l).length=l.length:=by simp [pairRows]
@[simp] theorem pairRows_get (l:List (Str × Str)) (i:Nat):(pairRows l)[i]?=(l[i]?).map pairRow:=by simp [pairRows]
@[simp] theorem okRows_pair (l:List (Str × Str)):okRows 2 (wr (pairRows l))=true:=okRows_of l pairRow_len
@[simp] theorem pairRows_snoc (l:List (Str × Str)) (x:Str × Str):wr (pairRows l)++[[W.c (.str x.1),W.c (.str x.2)]]=wr (pairRows (l++[x])):=by simp [pairRows,wr,pairRow]
@[simp] theorem fit_pair (l:List (Str × Str)):rowsFit 2 (pairRows l)=true:=fit_map pairRow_len l
@[simp] theorem wc_pair (p:Str × Str):wc (pairRow p)=[.c (.str p.1),.c (.str p.2)]:=rfl
abbrev pairsV (l:List (Str × Str)):V:=.sc (.c (.sl (pairRows l)))
def one3 (x:Int):Prop:=-1≤x∧x≤1
variable {A:Oracle}
def ZeroB (P:Prop)(r:V × List Obj):Prop:=∃ n:Int,(n=0↔P)∧one3 n∧r=(intV n,[])
@[simp] theorem b_slss {a b:Str}:binV .lss 0 (.sc (.c (.str a))) (.sc (.c (.str b)))=some (.sc (.c (.bool (Op.bytesLess a b))),[]):=by simp [binV,binW,isShift,strBin]
@[simp] theorem b_sgtr {a b:Str}:binV .gtr 0 (.sc (.c (.str a))) (.sc (.c (.str b)))=some (.sc (.c (.bool !(Op.bytesLess a b || a == b))),[]):=by simp [binV,binW,isShift,strBin]
def Heady (e:Exp):Prop:=e.kind=1∨e.kind=2∨e.kind=5
theorem good.app {e:Exp}(g:good e)(h:e.kind=5):∃ f x,e.kids=[f,x]∧Heady f∧good f∧good x∧e.arms=[]:=by
 rcases g.cases with h1|h1|h1|⟨_,_,⟨f,x,h2,h3,h4,h5⟩,h6⟩|h1
 ·omega
 ·omega
 ·omega
 ·exact ⟨f,x,h2,h3,h4,h5,h6⟩
 ·omega
theorem good.case {e:Exp}(g:good e)(h:e.kind=8):∃ x,e.kids=[x]∧x.kind=1∧good x∧e.arms≠[]∧∀ a∈e.arms,good a.2:=by
 rcases g.cases with h1|h1|h1|h1|⟨_,_,⟨x,h2,h3,h4⟩,h5,h6⟩
 ·omega
 ·omega
 ·omega
 ·omega
 ·exact ⟨x,h2,h3,h4,h5,fun a ha=>(h6 a ha).2.2.2.2⟩
structure CaseP (ds:List DataD)(N:List Str)(e x:Exp)(d:DataD):Prop where
 kids:e.kids=[x]
 kind:x.kind=1
 good:Go.Vs.Tryz.good x
 sc:inScope ds x N
 ne:e.arms≠[]
 mem:d∈ds
 cons:(e.arms.map fun a=>a.1.con)=cnames d
 vars:(e.arms.map fun a=>a.1.vars.length)=d.cons.map fun c=>c.fields.length
 arms:∀ (i:Nat) a,e.arms[i]?=some a→Go.Vs.Tryz.good a.2∧inScope ds a.2 (N++a.1.vars)∧a.2.weight<e.weight
theorem CaseP.con0 {ds:List DataD}{N:List Str}{e x:Exp}{d:DataD}(h:CaseP ds N e x d):∃ s,(cnames d)[0]?=some s∧Go.Vs.Tryz.con0 e=conExp s:=by
 cases ha:e.arms with
 | nil=>exact absurd ha h.ne
 | cons a r =>
  refine ⟨a.1.con,?_,?_⟩
  ·rw [←h.cons,ha];rfl
  ·unfold Go.Vs.Tryz.con0
   rw [ha];rfl
theorem CaseP.same {ds:List DataD}{S N l m:List Str}{a b x y:Exp}{d d':DataD}(hu:uniq ds)(hlm:l.length=m.length)(ha:CaseP ds (N++l) a x d)(hb:CaseP ds (N++m) b y d'):rankM ds S l (Go.Vs.Tryz.con0 a)=rankM ds S m (Go.Vs.Tryz.con0 b)↔d=d':=by
 obtain ⟨s,h1,h2⟩:=ha.con0
 obtain ⟨t,h3,h4⟩:=hb.con0
 have m1:s∈cnames d:=List.mem_of_getElem? h1
 have m2:t∈cnames d':=List.mem_of_getElem? h3
 rw [h2,h4,con_rank (a:=conExp s) (b:=conExp t) hlm rfl rfl ⟨d,ha.mem,m1⟩ ⟨d',hb.mem,m2⟩]
 show s=t↔_
 constructor
 ·rintro rfl
  exact hu d ha.mem d' hb.mem s m1 m2
 ·rintro rfl
  rw [h1] at h3
  exact Option.some.inj h3
theorem CaseP.len {ds:List DataD}{N:List Str}{e x:Exp}{d:DataD}(h:CaseP ds N e x d):e.arms.length=d.cons.length:=by
 have:=congrArg List.length h.vars
 simpa using this
theorem good.wf {e:Exp}:good e→e.wf:=by
 induction e using Exp.ind with
 | h e ih =>
  intro g
  rw [Exp.wf_eq]
  refine ⟨?_,fun x hx=>ih x hx (g.child hx)⟩
  rcases g.cases with ⟨k,_,h,h2⟩|⟨k,_,h,h2⟩|⟨k,_,⟨x,h,_⟩,h2⟩|⟨k,_,⟨f,x,h,_⟩,h2⟩|⟨k,_,⟨x,h,_⟩,_⟩
  all_goals refine ⟨fun h8 => ?_,fun h8 => ?_,fun h1 => ?_⟩<;>first | omega | assumption | (rw [h];rfl)
variable {A:Oracle}
def LeafP (n m:Nat)(r:V × List Obj):Prop:=∃ out:List Ty,n≤out.length∧out.length≤m∧(∀ x∈out,x.size≤1073741824)∧r=(.sc (.arr 0 out.length),[.arr 5 (wr (Ty.rows out)) 0])
def VarsP (m:Nat)(r:V × List Obj):Prop:=∃ ids:List Int,ids.length≤m∧r=(intsV ids,[])
variable {A:Oracle}
def TyP (r:V × List Obj):Prop:=∃ t:Ty,r=(tyV t,[])
def CloseP (r:V × List Obj):Prop:=∃ (c:Int)(t:Ty),r=(schV c t,[])
theorem sizes_le {m:Nat}:∀ {l:List Ty},(∀ x∈l,x.size≤m)→(l.map Ty.size).sum≤l.length*m
 | [],_=>by simp
 | a::r,h=>by
  have h1:=h a (by simp)
  have h2:=sizes_le (l:=r) fun x hx=>h x (by simp [hx])
  simp only [List.map_cons,List.sum_cons,List.length_cons,Nat.succ_mul]
  omega
def TypeS (L:List Int)(m:Nat)(r:V × List Obj):Prop:=∃ t J,t.size≤m∧J≤L.length∧r=(tyV t,[tapeO L J])
def TypeJ (L:List Int)(ds:List DataD)(ls:List Ty)(dd:DataD)(d i:Nat)(s:St):Prop:=∃ tys J,tys.length=i∧(∀ x∈tys,x.size≤5 ^ d)∧J≤L.length ∧
 s=⟨[(0,.sc (.ptr 0 0)),(1,datasV ds),(2,tysV ls),(3,intV (d+1)),(8,.sc (.ptr 64 0)),(10,.sc (.ptr 3392 0)),(11,.sc (.arr 3521 i)),(12,intV i)],
  [(0,some (tapeO L J)),(64,some (.box [zi,zs,zi,zi,.nil])),(3392,some (.box (wc (dataRow dd)))),(3521,some (.arr 5 (wr (Ty.rows tys)) 0))]⟩
variable {A:Oracle}
def rigids:List Ty:=[.mk 3 [] 0 0 [],.mk 3 [] 1 3 []]
def vars2:List Ty:=[.mk 1 [] 0 0 [],.mk 1 [] 1 0 []]
def ctxV (l:List EntD):V:=match l with
 | []=>.sc .nil
 | l=>entsV l
def CtxP (L:List Int)(r:V × List Obj):Prop:=∃ (l:List EntD)(t:Ty)(J:Nat),l.length≤3∧(∀ x∈l,x.name∈varNames)∧J≤L.length∧r=(.tu [entsV l,tyV t],[tapeO L J])
def CtxI (L:List Int)(ds:List DataD)(n i:Nat)(s:St):Prop:=∃ (l:List EntD)(J p:Nat),l.length=i∧(∀ x∈l,x.name∈varNames)∧J≤L.length∧(p=0∨p=2) ∧
 s=⟨[(0,.sc (.ptr 0 0)),(1,datasV ds),(5,.sc (.ptr 128 0)),(6,.sc (.arr 320 2)),(7,ctxV l),(8,intV n),(9,intV i)],
  [(0,some (tapeO L J)),(128,some (.box [zi,zs,zi,zi,.nil])),(320,some (.arr 5 (wr (Ty.rows rigids)) p))]⟩
variable {A:Oracle}
def varExp (s:Str):Exp:=.mk 1 0 s 0 [] [] tz
variable {A:Oracle}
@[simp] theorem range_5:List.range 5=[0,1,2,3,4]:=rfl
def boxC (ds:List DataD)(ctx:List EntD):List Obj:=[.box [.c (.sl (dataRows ds))],.box [.c (.sl (entRows ctx))],.box [.clo 58 [true,true,true] [[.ptr 2 0],[.ptr 3 0],[.ptr 4 0]]],.box [.clo 54 [true,true] [[.ptr 0 0],[.ptr 1 0]]],.box [.clo 57 [true] [[.ptr 2 0]]]]
def boxA (ds:List DataD)(ctx:List EntD):List Obj:=[.box [.clo 54 [true,true] [[.ptr 2 0],[.ptr 3 0]]],.box [.clo 57 [true] [[.ptr 4 0]]],.box [.c (.sl (dataRows ds))],.box [.c (.sl (entRows ctx))],.box [.clo 58 [true,true,true] [[.ptr 4 0],[.ptr 0 0],[.ptr 1 0]]]]
abbrev rkM (ds:List DataD)(ctx:List EntD):=rankM ds (seenN ctx)
def CmpC (A:Oracle)(ds:List DataD)(ctx:List EntD)(n:Nat):Prop:=∀ (a b:Exp)(l m:List Str),a.weight≤n→good a→good b→l.length+a.weight≤1073741824→m.length+b.weight≤1073741824 →
 (K A).call 58 [strsV l,strsV m,expV a,expV b,.sc (.ptr 2 0),.sc (.ptr 3 0),.sc (.ptr 4 0)] (boxC ds ctx)=some (intV (cmpF (rkM ds ctx) n l m a b),boxC ds ctx)
end Go.Vs.Tryz
