/- Equal up to the names that are bound, by the reference, walked. (Parts of one proof, put together.) -/
import Derived.Test.YtlcncicmkkelcaaGreatDoorR4s
import Derived.Test.YtlcncicmkkelcaaGreatDoorR2s
import Derived.Test.YtlcncicmkkelcaaGreatDoorR3s
set_option linter.unusedSimpArgs false
set_option linter.unusedVariables false
set_option linter.deprecated false
set_option maxHeartbeats 2000000
namespace Go.Vs.Tryz
open Go Go.Vs
variable {A:Oracle}
def tyBd (e:Exp):Prop:=e.fold fun e l=>e.ty.size≤1073741824∧∀ p∈l,p
theorem tyBd_eq (e:Exp):tyBd e=(e.ty.size≤1073741824∧∀ x∈e.children,tyBd x):=by
 have:=Exp.fold_eq (fun e (l:List Prop)=>e.ty.size≤1073741824∧∀ p∈l,p) e
 unfold tyBd
 rw [this]
 simp only [List.forall_mem_map]
theorem tyBd.one {e:Exp}(h:tyBd e):e.ty.size≤1073741824:=by rw [tyBd_eq] at h;exact h.1
theorem tyBd.child {e x:Exp}(h:tyBd e)(hx:x∈e.children):tyBd x:=by rw [tyBd_eq] at h;exact h.2 x hx
def spineF (e:Exp)(l:List (Exp × List Exp)):Exp × List Exp :=
 if e.kind=5 then match e.kids,l with
  | [_,x],r::_=>(r.1,r.2++[x])
  | _,_=>(e,[])
 else (e,[])
def spine (e:Exp):Exp × List Exp:=e.fold spineF
theorem spine_app {e f x:Exp}(h:e.kind=5)(hk:e.kids=[f,x]):spine e=((spine f).1,(spine f).2++[x]):=by
 unfold spine
 rw [Exp.fold_eq]
 simp [spineF,h,hk,Exp.children]
theorem spine_no {e:Exp}(h:e.kind≠5):spine e=(e,[]):=by
 unfold spine
 rw [Exp.fold_eq]
 simp [spineF,h]
def sizeM (e:Exp):Nat:=e.fold fun e l=>if e.kind=5 then l.sum else if e.kind=8 then 1+(l.drop 1).sum else 1+l.sum
theorem sizeM_eq (e:Exp):sizeM e=if e.kind=5 then (e.children.map sizeM).sum else if e.kind=8 then 1+((e.children.map sizeM).drop 1).sum else 1+(e.children.map sizeM).sum:=by
 unfold sizeM
 rw [Exp.fold_eq]
def good1 (e:Exp):Prop:=e.pos=0∧e.num=0∧e.ty=tz ∧
 ((e.kind=1∧nameOk 97 122 e.name∧e.kids=[]∧e.arms=[])∨(e.kind=2∧nameOk 65 90 e.name∧e.kids=[]∧e.arms=[]) ∨
   (e.kind=4∧nameOk 97 122 e.name∧(∃ x,e.kids=[x])∧e.arms=[]) ∨
   (e.kind=5∧e.name=[]∧(∃ f x,e.kids=[f,x]∧(f.kind=1∨f.kind=2∨f.kind=5))∧e.arms=[]) ∨
   (e.kind=8∧e.name=[]∧(∃ x,e.kids=[x]∧x.kind=1)∧e.arms≠[]∧∀ a∈e.arms,a.1.pos=0∧nameOk 65 90 a.1.con∧a.1.vars.length≤4∧∀ v∈a.1.vars,nameOk 97 122 v))
def good (e:Exp):Prop:=e.fold fun e l=>good1 e∧∀ p∈l,p
theorem good_eq (e:Exp):good e=(good1 e∧∀ x∈e.children,good x):=by
 have:=Exp.fold_eq (fun e (l:List Prop)=>good1 e∧∀ p∈l,p) e
 unfold good
 rw [this]
 simp only [List.forall_mem_map]
theorem good.one {e:Exp}(h:good e):good1 e:=by rw [good_eq] at h;exact h.1
theorem good.child {e x:Exp}(h:good e)(hx:x∈e.children):good x:=by rw [good_eq] at h;exact h.2 x hx
theorem good.cases {e:Exp}(h:good e):(e.kind=1∧nameOk 97 122 e.name∧e.kids=[]∧e.arms=[])∨(e.kind=2∧nameOk 65 90 e.name∧e.kids=[]∧e.arms=[]) ∨
 (e.kind=4∧nameOk 97 122 e.name∧(∃ x,e.kids=[x]∧good x)∧e.arms=[]) ∨
 (e.kind=5∧e.name=[]∧(∃ f x,e.kids=[f,x]∧(f.kind=1∨f.kind=2∨f.kind=5)∧good f∧good x)∧e.arms=[]) ∨
 (e.kind=8∧e.name=[]∧(∃ x,e.kids=[x]∧x.kind=1∧good x)∧e.arms≠[]∧∀ a∈e.arms,a.1.pos=0∧nameOk 65 90 a.1.con∧a.1.vars.length≤4∧(∀ v∈a.1.vars,nameOk 97 122 v)∧good a.2):=by
 obtain ⟨_,_,_,h1⟩:=h.one
 rcases h1 with h1|h1|⟨a,b,⟨x,hx⟩,c⟩|⟨a,b,⟨f,x,hx,hf⟩,c⟩|⟨a,b,⟨x,hx,hk⟩,c,d⟩
 ·exact .inl h1
 ·exact .inr (.inl h1)
 ·exact .inr (.inr (.inl ⟨a,b,⟨x,hx,h.child (by simp [Exp.children,hx])⟩,c⟩))
 ·exact .inr (.inr (.inr (.inl ⟨a,b,⟨f,x,hx,hf,h.child (by simp [Exp.children,hx]),h.child (by simp [Exp.children,hx])⟩,c⟩)))
 ·refine .inr (.inr (.inr (.inr ⟨a,b,⟨x,hx,hk,h.child (by simp [Exp.children,hx])⟩,c,fun y hy => ?_⟩)))
  obtain ⟨p,q,r,s⟩:=d y hy
  exact ⟨p,q,r,s,h.child (by simp only [Exp.children,List.mem_append,List.mem_map];exact .inr ⟨y,hy,rfl⟩)⟩
theorem arm_mem {e:Exp}{a:ArmH × Exp}(h:a∈e.arms):a.2∈e.children:=List.mem_append_right _ (List.mem_map_of_mem h)
theorem spine_good (e:Exp):good e→(e.kind=1∨e.kind=2∨e.kind=5)→((spine e).1.kind=1∨(spine e).1.kind=2)∧good (spine e).1∧(∀ x∈(spine e).2,good x) ∧
 sizeM e=1+((spine e).2.map sizeM).sum∧1+((spine e).2.map Exp.weight).sum+(spine e).2.length≤e.weight:=by
 induction e using Exp.ind with
 | h e ih =>
  intro hg hk
  by_cases h5:e.kind=5
  ·rcases hg.cases with h|h|h|⟨_,_,⟨f,x,hfx,hf,gf,gx⟩,ha⟩|h
   ·omega
   ·omega
   ·omega
   ·have hc:e.children=[f,x]:=by simp [Exp.children,hfx,ha]
    obtain ⟨h1,h2,h3,h4,h6⟩:=ih f (by simp [hc]) gf hf
    rw [spine_app h5 hfx,sizeM_eq,if_pos h5,hc,e.weight_eq,ha,hc]
    refine ⟨h1,h2,?_,?_,?_⟩
    ·intro y hy
     rcases List.mem_append.1 hy with hy|hy
     ·exact h3 y hy
     ·simp only [List.mem_singleton] at hy
      exact hy▸gx
    ·simp [h4];omega
    ·simp;omega
   ·omega
  ·rw [spine_no h5]
   have hk2:e.kind=1∨e.kind=2:=by omega
   have hk8:e.kind≠8:=by omega
   refine ⟨hk2,hg,by simp,?_,by simpa using e.weight_pos⟩
   have hc:e.children=[]:=by
    rcases hg.cases with h|h|h|h|h
    ·simp [Exp.children,h.2.2.1,h.2.2.2]
    ·simp [Exp.children,h.2.2.1,h.2.2.2]
    ·omega
    ·omega
    ·omega
   rw [sizeM_eq,if_neg h5,if_neg hk8,hc]
theorem sizeM_le (e:Exp):sizeM e≤e.weight:=by
 induction e using Exp.ind with
 | h e ih =>
  have h1:(e.children.map sizeM).sum≤(e.children.map Exp.weight).sum:=sum_le ih
  have h2:((e.children.map sizeM).drop 1).sum≤(e.children.map sizeM).sum:=by
   have:(e.children.map sizeM).sum=((e.children.map sizeM).take 1).sum+((e.children.map sizeM).drop 1).sum:=by rw [←List.sum_append,List.take_append_drop]
   omega
  rw [sizeM_eq,e.weight_eq]
  split
  ·omega
  ·split<;>omega
variable {A:Oracle}
abbrev expsV (l:List Exp):V:=.sc (.c (.sl (Exp.rows l)))
theorem reverse107' (l:List Exp)(h:l.length≤1073741824):(K A).call 109 [.sc (.arr 0 l.length)] [.arr 11 (wr (Exp.rows l)) 0]=some (.tu [],[.arr 11 (wr (Exp.rows l.reverse)) 0]):=by
 obtain ⟨_,rfl,h2⟩:=reverse107 (A:=A) l h
 rw [swapTo_rev] at h2
 exact h2
def SpineI (e:Exp)(i:Nat)(s:St):Prop:=∃ cur acc,good cur∧(cur.kind=1∨cur.kind=2∨cur.kind=5)∧acc.length=i∧spine e=((spine cur).1,(spine cur).2++acc.reverse) ∧
 s=⟨[(1,.sc (.ptr 64 0)),(2,.sc (.ptr 128 0)),(4,.sc (.arr 257 i))],[(64,some (.box (wc cur.row))),(128,some (.box [zi,zi,zs,zi,.nil,.nil,zi,zs,zi,zi,.nil])),(257,some (.arr 11 (wr (Exp.rows acc)) 0))]⟩
theorem spine73 (e:Exp)(hg:good e)(hk:e.kind=1∨e.kind=2∨e.kind=5)(hl:e.weight≤1073741824):(K A).call 62 [expV e] []=some (.tu [expV (spine e).1,expsV (spine e).2],[]):=by
 refine fn_of (vf:=v62) (by kernel_rfl) rfl (by simp) ?_
 obtain ⟨s1,s2,s3,s4,s5⟩:=spine_good e hg hk
 unfold v62
 simp (disch:=first|omega|(simp;done)|(simp;omega)) [-getElem?_pos]
 refine wp_loopI (SpineI e) (spine e).2.length ⟨e,[],hg,hk,rfl,by simp,by simp⟩ ?_ ?_
 ·rintro i s hi ⟨cur,acc,hc,hck,ha,hs,rfl⟩
  have h5:cur.kind=5:=by
   by_cases h5:cur.kind=5
   ·exact h5
   ·rw [hs,spine_no h5] at hi
    simp [ha] at hi
  rcases hc.cases with h|h|h|⟨_,_,⟨f,x,hfx,hf,gf,gx⟩,har⟩|h
  ·omega
  ·omega
  ·omega
  ·unfold l62_0
   simp (disch:=first|omega|(simp;done)|(simp;omega)) [h5,hfx,ha,List.getElem?_cons_zero,-getElem?_pos]
   refine ⟨f,acc++[x],gf,hf,by simp [ha],?_,by simp [ha]⟩
   rw [hs,spine_app h5 hfx]
   simp
  ·omega
 ·rintro s ⟨cur,acc,hc,hck,ha,hs,rfl⟩
  have h5:¬cur.kind=5:=by
   intro h5
   rcases hc.cases with h|h|h|⟨_,_,⟨f,x,hfx,hf,gf,gx⟩,har⟩|h
   ·omega
   ·omega
   ·omega
   ·rw [hs,spine_app h5 hfx] at ha
    simp at ha
    omega
   ·omega
  have hr:(spine e).2=acc.reverse:=by rw [hs,spine_no h5];simp
  have hc1:(spine e).1=cur:=by rw [hs,spine_no h5]
  have hv:=reverse107' (A:=A) acc (by omega)
  unfold l62_0
  simp (disch:=first|omega|(simp;done)|(simp;omega)) [h5,hv,hr,hc1,-getElem?_pos]
theorem _root_.Go.Vs.Exp.indW {P:Exp→Prop}(h:∀ e,(∀ x:Exp,x.weight<e.weight→P x)→P e)(e:Exp):P e:=(measure Exp.weight).wf.induction e h
theorem size32 (e:Exp):good e→e.weight≤1073741824→(K A).call 41 [expV e] []=some (intV (sizeM e),[]):=by
 induction e using Exp.indW with
 | h e ih =>
 intro hg hl
 refine fn_of (vf:=v41) (by kernel_rfl) rfl (by simp) ?_
 have hle:=sizeM_le e
 rcases hg.cases with ⟨h,_,hk,ha⟩|⟨h,_,hk,ha⟩|⟨h,_,⟨x,hk,gx⟩,ha⟩|⟨h,_,⟨f,x,hfx,hf,gf,gx⟩,ha⟩|⟨h,_,⟨x,hk,hx1,gx⟩,ha,hall⟩
 ·unfold v41
  simp (disch:=first|omega|(simp;done)|(simp;omega)) [h,sizeM_eq e,Exp.children,hk,ha,-getElem?_pos]
 ·unfold v41
  simp (disch:=first|omega|(simp;done)|(simp;omega)) [h,sizeM_eq e,Exp.children,hk,ha,-getElem?_pos]
 ·have hxw:=Exp.child_lt (e:=e) (x:=x) (by simp [Exp.children,hk])
  have hx:=ih x hxw gx (by omega)
  have hxl:=sizeM_le x
  have hs:sizeM e=1+sizeM x:=by rw [sizeM_eq];simp [h,Exp.children,hk,ha]
  unfold v41
  simp (disch:=first|omega|(simp;done)|(simp;omega)) [h,hk,-getElem?_pos]
  refine wp_loop (fun i=>⟨[(3,intV (1+(([x].take i).map sizeM).sum:Nat)),(17,expsV [x]),(18,intV 1),(19,intV i)],[(64,some (.box (wc e.row)))]⟩) 1 ?_ ?_ ?_
  ·simp
  ·intro i hi
   obtain rfl:i=0:=by omega
   unfold l41_0
   simp (disch:=first|omega|(simp;done)|(simp;omega)) [hx,List.getElem?_cons_zero,-getElem?_pos]
  ·unfold l41_0
   simp (disch:=first|omega|(simp;done)|(simp;omega)) [hs,-getElem?_pos]
 ·obtain ⟨s1,s2,s3,s4,s5⟩:=spine_good e hg (by omega)
  have hsp:=spine73 (A:=A) e hg (by omega) hl
  generalize hL:(spine e).2=l at s3 s4 s5 hsp
  have sum_i:∀ i,((l.take i).map sizeM).sum≤(l.map sizeM).sum:=fun i=>by rw [List.map_take];exact sum_take
  unfold v41
  simp (disch:=first|omega|(simp;done)|(simp;omega)) [h,hsp,-getElem?_pos]
  refine wp_loop (fun i=>⟨[(3,intV (1+((l.take i).map sizeM).sum:Nat)),(50,expsV l),(51,intV l.length),(52,intV i)],[]⟩) l.length ?_ ?_ ?_
  ·simp
  ·intro i hi
   obtain ⟨y,hy⟩:=get_of_lt hi
   have hym:y∈l:=List.mem_of_getElem? hy
   have hyw:y.weight≤(l.map Exp.weight).sum:=sum_mem (f:=Exp.weight) hym
   have hrec:=ih y (by omega) (s3 y hym) (by omega)
   have h1:=sum_i (i+1)
   rw [take_next hy] at h1 ⊢
   simp only [List.map_append,List.sum_append,List.map_cons,List.map_nil,List.sum_cons,List.sum_nil] at h1 ⊢
   unfold l41_2
   simp (disch:=first|omega|(simp;done)|(simp;omega)) [hi,hy,hrec,-getElem?_pos]
   rw [List.map_take] at h1
   rw [wrap_in _ (by omega)]
   omega
  ·unfold l41_2
   simp (disch:=first|omega|(simp;done)|(simp;omega)) [s4,-getElem?_pos]
 ·have hs:sizeM e=1+(e.arms.map fun a=>sizeM a.2).sum:=by rw [sizeM_eq];simp [h,Exp.children,hk,Function.comp_def]
  have sum_i:∀ i,((e.arms.take i).map fun a=>sizeM a.2).sum≤(e.arms.map fun a=>sizeM a.2).sum:=fun i=>by rw [List.map_take];exact sum_take
  have hal:e.arms.length≤1073741824:=by have:=e.children_le;rw [e.children_len] at this;omega
  unfold v41
  simp (disch:=first|omega|(simp;done)|(simp;omega)) [h,-getElem?_pos]
  refine wp_loop (fun i=>⟨[(3,intV (1+((e.arms.take i).map fun a=>sizeM a.2).sum:Nat)),(31,.sc (.c (.sl (Exp.armRows e.arms)))),(32,intV e.arms.length),(33,intV i)],[(64,some (.box (wc e.row)))]⟩) e.arms.length ?_ ?_ ?_
  ·simp
  ·intro i hi
   obtain ⟨y,hy⟩:=get_of_lt hi
   have hym:y∈e.arms:=List.mem_of_getElem? hy
   have hyw:=Exp.child_lt (arm_mem hym)
   have hrec:=ih y.2 hyw (hall y hym).2.2.2.2 (by omega)
   have h1:=sum_i (i+1)
   rw [take_next hy] at h1 ⊢
   simp only [List.map_append,List.sum_append,List.map_cons,List.map_nil,List.sum_cons,List.sum_nil] at h1 ⊢
   unfold l41_1
   simp (disch:=first|omega|(simp;done)|(simp;omega)) [hi,hy,hrec,-getElem?_pos]
   rw [List.map_take] at h1
   rw [wrap_in _ (by omega)]
   omega
  ·unfold l41_1
   simp (disch:=first|omega|(simp;done)|(simp;omega)) [hs,-getElem?_pos]
def conExp (s:Str):Exp:=.mk 2 0 s 0 [] [] tz
def kid0 (e:Exp):Exp:=(e.kids[0]?).getD e
def con0 (e:Exp):Exp:=conExp (((e.arms[0]?).map fun a=>a.1.con).getD [])
def cmpF (rank:List Str→Exp→Int):Nat→List Str→List Str→Exp→Exp→Int
 | 0,_,_,_,_=>0
 | n+1,l,m,a,b=>orI [cmpI (sizeM a) (sizeM b),cmpI (kindM a) (kindM b),
  if a.kind=4 then cmpF rank n (l++[a.name]) (m++[b.name]) (kid0 a) (kid0 b)
  else if a.kind=8 then orI (cmpI (rank l (kid0 a)) (rank m (kid0 b))::cmpI (rank l (con0 a)) (rank m (con0 b)) ::
   (List.zipWith (fun p q=>cmpF rank n (l++p.1.vars) (m++q.1.vars) p.2 q.2) a.arms b.arms++[cmpI a.arms.length b.arms.length]))
  else orI [cmpI (rank l (spine a).1) (rank m (spine b).1),cmpI (spine a).2.length (spine b).2.length,orI (List.zipWith (cmpF rank n l m) (spine a).2 (spine b).2)]]
variable (rk:List Str→Exp→Int)
def cmpR (n:Nat)(l m:List Str)(a b:Exp):Int :=
 if a.kind=4 then cmpF rk n (l++[a.name]) (m++[b.name]) (kid0 a) (kid0 b)
 else if a.kind=8 then orI (cmpI (rk l (kid0 a)) (rk m (kid0 b))::cmpI (rk l (con0 a)) (rk m (con0 b)) ::
  (List.zipWith (fun p q=>cmpF rk n (l++p.1.vars) (m++q.1.vars) p.2 q.2) a.arms b.arms++[cmpI a.arms.length b.arms.length]))
 else orI [cmpI (rk l (spine a).1) (rk m (spine b).1),cmpI (spine a).2.length (spine b).2.length,orI (List.zipWith (cmpF rk n l m) (spine a).2 (spine b).2)]
def Tri (x y z:Int):Prop:=(x=0→y=0→z=0)∧(x≤0→y≤0→(x<0∨y<0)→z<0)
def inScope1 (ds:List DataD)(e:Exp)(N:List Str):Prop:=(e.kind=1→e.name∈N)∧(e.kind=2→∃ d∈ds,e.name∈cnames d) ∧
 (e.kind=8→∃ d∈ds,(e.arms.map fun a=>a.1.con)=cnames d∧(e.arms.map fun a=>a.1.vars.length)=d.cons.map fun c=>c.fields.length)
def inScopeF (ds:List DataD)(e:Exp)(l:List (List Str→Prop))(N:List Str):Prop:=inScope1 ds e N∧∀ (i:Nat) p,l[i]?=some p→p (N++e.bound i)
def inScope (ds:List DataD)(e:Exp):List Str→Prop:=e.fold (inScopeF ds)
theorem inScope_eq (ds:List DataD)(e:Exp)(N:List Str):inScope ds e N=(inScope1 ds e N∧∀ (i:Nat) x,e.children[i]?=some x→inScope ds x (N++e.bound i)):=by
 unfold inScope
 rw [Exp.fold_eq]
 simp only [inScopeF,List.getElem?_map,Option.map_eq_some_iff]
 apply propext
 refine and_congr_right fun _=>forall_congr' fun i => ?_
 constructor
 ·exact fun h x hx=>h _ ⟨x,hx,rfl⟩
 ·rintro h p ⟨x,hx,rfl⟩
  exact h x hx
def uniq (ds:List DataD):Prop:=∀ d∈ds,∀ d'∈ds,∀ c,c∈cnames d→c∈cnames d'→d=d'
theorem consTo_mono {ds:List DataD}{i j:Nat}(h:i≤j):consTo ds i≤consTo ds j:=by
 unfold consTo
 have:ds.take i=(ds.take j).take i:=by rw [List.take_take,Nat.min_eq_left h]
 rw [this,List.map_take]
 exact sum_take
theorem consTo_inj {ds:List DataD}{i j k k':Nat}{d d':DataD}(hi:ds[i]?=some d)(hj:ds[j]?=some d')(hk:k<d.cons.length)(hk':k'<d'.cons.length)(h:k+consTo ds i=k'+consTo ds j):i=j∧k=k':=by
 have h1:=consTo_succ hi
 have h2:=consTo_succ hj
 rcases Nat.lt_trichotomy i j with h3|h3|h3
 ·have:=consTo_mono (ds:=ds) (i:=i+1) (j:=j) h3
  omega
 ·subst h3
  omega
 ·have:=consTo_mono (ds:=ds) (i:=j+1) (j:=i) h3
  omega
theorem rank_con {ds:List DataD}{S l:List Str}{e:Exp}(h:e.kind=2)(hd:∃ d∈ds,e.name∈cnames d):∃ (i k:Nat)(d:DataD),ds[i]?=some d∧(cnames d)[k]?=some e.name∧rankM ds S l e=S.length+l.length+k+consTo ds i:=by
 obtain ⟨d0,h0,hc⟩:=hd
 have hlt:dataOf ds e.name<ds.length:=by
  unfold dataOf
  rw [List.findIdx_lt_length]
  exact ⟨d0,h0,by simpa using hc⟩
 obtain ⟨d,hd,hm⟩:=dataOf_at hlt
 refine ⟨dataOf ds e.name,place (cnames d) e.name,d,hd,place_at (place_mem.2 hm),?_⟩
 unfold rankM
 rw [if_neg (by omega),if_pos h]
 have hf:findM ds e.name=(((dataOf ds e.name:Nat):Int),((place (cnames d) e.name:Nat):Int),true):=by
  unfold findM
  rw [hd]
 rw [hf]
 simp
theorem rank_var {ds:List DataD}{S l:List Str}{e:Exp}(h:e.kind=1):rankM ds S l e=if e.name∈l then S.length+rlast l e.name else rlast S e.name:=by
 unfold rankM
 rw [if_pos h]
theorem rlast_lt {l:List Str}{s:Str}(h:s∈l):0≤rlast l s∧rlast l s<l.length:=by
 refine ⟨rlast_mem h,?_⟩
 unfold rlast
 rw [if_pos h]
 have:=place_mem.2 (List.mem_reverse.2 h)
 rw [List.length_reverse] at this
 omega
theorem rlast_get {l:List Str}{s:Str}(h:s∈l):l[(rlast l s).toNat]?=some s:=by
 unfold rlast
 rw [if_pos h]
 have hp:=place_mem.2 (List.mem_reverse.2 h)
 have hx:=place_at hp
 rw [List.length_reverse] at hp
 rw [rev_get hp] at hx
 rw [show ((l.length:Int)-1-(place l.reverse s:Int)).toNat=l.length-1-place l.reverse s by omega]
 exact hx
section
variable {ds:List DataD}{S l m:List Str}{a b:Exp}
theorem con_rank (hlm:l.length=m.length)(ha:a.kind=2)(hb:b.kind=2)(da:∃ d∈ds,a.name∈cnames d)(db:∃ d∈ds,b.name∈cnames d):rankM ds S l a=rankM ds S m b↔a.name=b.name:=by
 constructor
 ·intro h
  obtain ⟨i,k,d,h1,h2,h3⟩:=rank_con (S:=S) (l:=l) ha da
  obtain ⟨i',k',d',h1',h2',h3'⟩:=rank_con (S:=S) (l:=m) hb db
  rw [h3,h3'] at h
  have hk:=(List.getElem?_eq_some_iff.1 h2).1
  have hk':=(List.getElem?_eq_some_iff.1 h2').1
  rw [cnames_len] at hk hk'
  obtain ⟨rfl,rfl⟩:=consTo_inj h1 h1' hk hk' (by omega)
  rw [h1] at h1'
  cases h1'
  rw [h2] at h2'
  exact Option.some.inj h2'
 ·intro h
  unfold rankM
  rw [if_neg (by omega),if_pos ha,if_neg (by omega),if_pos hb,h,hlm]
theorem var_rank (hlm:l.length=m.length)(ha:a.kind=1)(hb:b.kind=1)(da:a.name∈S∨a.name∈l)(db:b.name∈S∨b.name∈m):rankM ds S l a=rankM ds S m b↔varEq l m a.name b.name:=by
 rw [rank_var ha,rank_var hb]
 unfold varEq
 by_cases h1:a.name∈l
 ·obtain ⟨p1,p2⟩:=rlast_lt h1
  rw [if_pos h1]
  by_cases h2:b.name∈m
  ·rw [if_pos h2]
   constructor
   ·exact fun h=>⟨by omega,.inl p1⟩
   ·exact fun h=>by omega
  ·obtain ⟨q1,q2⟩:=rlast_lt (db.resolve_right h2)
   rw [if_neg h2,rlast_no h2]
   constructor
   ·omega
   ·omega
 ·obtain ⟨p1,p2⟩:=rlast_lt (da.resolve_right h1)
  rw [if_neg h1,rlast_no h1]
  by_cases h2:b.name∈m
  ·obtain ⟨q1,q2⟩:=rlast_lt h2
   rw [if_pos h2]
   constructor
   ·omega
   ·omega
  ·rw [if_neg h2,rlast_no h2]
   have g1:=rlast_get (da.resolve_right h1)
   have g2:=rlast_get (db.resolve_right h2)
   constructor
   ·intro h
    rw [h,g2] at g1
    exact ⟨rfl,.inr (Option.some.inj g1).symm⟩
   ·rintro ⟨_,h|h⟩
    ·omega
    ·rw [h]
theorem mixed_rank (hlm:l.length=m.length)(ha:a.kind=1)(hb:b.kind=2)(da:a.name∈S∨a.name∈l)(db:∃ d∈ds,b.name∈cnames d):rankM ds S l a<rankM ds S m b:=by
 obtain ⟨i',k',d',h1',h2',h3'⟩:=rank_con (S:=S) (l:=m) hb db
 rw [rank_var ha,h3']
 by_cases h1:a.name∈l
 ·have:=rlast_lt h1
  rw [if_pos h1]
  omega
 ·have:=rlast_lt (da.resolve_right h1)
  rw [if_neg h1]
  omega
end
variable {A:Oracle}
def pairRow (p:Str × Str):List Cell:=[.str p.1,.str p.2]
def pairRows (l:List (Str × Str)):List (List Cell):=l.map pairRow
@[simp] theorem pairRow_len (p:Str × Str):(pairRow p).length=2:=rfl
@[simp] theorem pairRows_len (l:List (Str × Str)):(pairRows l).length=l.length:=by simp [pairRows]
@[simp] theorem pairRows_get (l:List (Str × Str)) (i:Nat):(pairRows l)[i]?=(l[i]?).map pairRow:=by simp [pairRows]
@[simp] theorem okRows_pair (l:List (Str × Str)):okRows 2 (wr (pairRows l))=true:=okRows_of l pairRow_len
@[simp] theorem pairRows_snoc (l:List (Str × Str)) (x:Str × Str):wr (pairRows l)++[[W.c (.str x.1),W.c (.str x.2)]]=wr (pairRows (l++[x])):=by simp [pairRows,wr,pairRow]
@[simp] theorem fit_pair (l:List (Str × Str)):rowsFit 2 (pairRows l)=true:=fit_map pairRow_len l
@[simp] theorem wc_pair (p:Str × Str):wc (pairRow p)=[.c (.str p.1),.c (.str p.2)]:=rfl
abbrev pairsV (l:List (Str × Str)):V:=.sc (.c (.sl (pairRows l)))
theorem back149 (l:List (Str × Str)):(K A).call 149 [pairsV l] []=some (.sc (.clo 210 [true] [[.ptr 0 0]]),[.box [.c (.sl (pairRows l))]]):=by
 refine fn_of (vf:=v149) (by kernel_rfl) rfl (by simp) ?_
 unfold v149
 simp (disch:=first|omega|(simp;done)|(simp;omega))
def one3 (x:Int):Prop:=-1≤x∧x≤1
variable {A:Oracle}
def ZeroB (P:Prop)(r:V × List Obj):Prop:=∃ n:Int,(n=0↔P)∧one3 n∧r=(intV n,[])
@[simp] theorem b_slss {a b:Str}:binV .lss 0 (.sc (.c (.str a))) (.sc (.c (.str b)))=some (.sc (.c (.bool (Op.bytesLess a b))),[]):=by simp [binV,binW,isShift,strBin]
@[simp] theorem b_sgtr {a b:Str}:binV .gtr 0 (.sc (.c (.str a))) (.sc (.c (.str b)))=some (.sc (.c (.bool !(Op.bytesLess a b || a == b))),[]):=by simp [binV,binW,isShift,strBin]
def Heady (e:Exp):Prop:=e.kind=1∨e.kind=2∨e.kind=5
theorem good.app {e:Exp}(g:good e)(h:e.kind=5):∃ f x,e.kids=[f,x]∧Heady f∧good f∧good x∧e.arms=[]:=by
 rcases g.cases with h1|h1|h1|⟨_,_,⟨f,x,h2,h3,h4,h5⟩,h6⟩|h1
 ·omega
 ·omega
 ·omega
 ·exact ⟨f,x,h2,h3,h4,h5,h6⟩
 ·omega
theorem good.lam {e:Exp}(g:good e)(h:e.kind=4):∃ x,e.kids=[x]∧good x∧e.arms=[]:=by
 rcases g.cases with h1|h1|⟨_,_,⟨x,h2,h3⟩,h4⟩|h1|h1
 ·omega
 ·omega
 ·exact ⟨x,h2,h3,h4⟩
 ·omega
 ·omega
theorem good.case {e:Exp}(g:good e)(h:e.kind=8):∃ x,e.kids=[x]∧x.kind=1∧good x∧e.arms≠[]∧∀ a∈e.arms,good a.2:=by
 rcases g.cases with h1|h1|h1|h1|⟨_,_,⟨x,h2,h3,h4⟩,h5,h6⟩
 ·omega
 ·omega
 ·omega
 ·omega
 ·exact ⟨x,h2,h3,h4,h5,fun a ha=>(h6 a ha).2.2.2.2⟩
theorem good.heady {e:Exp}(g:good e)(h4:e.kind≠4)(h8:e.kind≠8):Heady e:=by
 rcases g.cases with h1|h1|h1|h1|h1
 ·exact .inl h1.1
 ·exact .inr (.inl h1.1)
 ·exact absurd h1.1 h4
 ·exact .inr (.inr h1.1)
 ·exact absurd h1.1 h8
structure CaseP (ds:List DataD)(N:List Str)(e x:Exp)(d:DataD):Prop where
 kids:e.kids=[x]
 kind:x.kind=1
 good:Go.Vs.Tryz.good x
 sc:inScope ds x N
 ne:e.arms≠[]
 mem:d∈ds
 cons:(e.arms.map fun a=>a.1.con)=cnames d
 vars:(e.arms.map fun a=>a.1.vars.length)=d.cons.map fun c=>c.fields.length
 arms:∀ (i:Nat) a,e.arms[i]?=some a→Go.Vs.Tryz.good a.2∧inScope ds a.2 (N++a.1.vars)∧a.2.weight<e.weight
theorem CaseP.con0 {ds:List DataD}{N:List Str}{e x:Exp}{d:DataD}(h:CaseP ds N e x d):∃ s,(cnames d)[0]?=some s∧Go.Vs.Tryz.con0 e=conExp s:=by
 cases ha:e.arms with
 | nil=>exact absurd ha h.ne
 | cons a r =>
  refine ⟨a.1.con,?_,?_⟩
  ·rw [←h.cons,ha];rfl
  ·unfold Go.Vs.Tryz.con0
   rw [ha];rfl
theorem CaseP.same {ds:List DataD}{S N l m:List Str}{a b x y:Exp}{d d':DataD}(hu:uniq ds)(hlm:l.length=m.length)(ha:CaseP ds (N++l) a x d)(hb:CaseP ds (N++m) b y d'):rankM ds S l (Go.Vs.Tryz.con0 a)=rankM ds S m (Go.Vs.Tryz.con0 b)↔d=d':=by
 obtain ⟨s,h1,h2⟩:=ha.con0
 obtain ⟨t,h3,h4⟩:=hb.con0
 have m1:s∈cnames d:=List.mem_of_getElem? h1
 have m2:t∈cnames d':=List.mem_of_getElem? h3
 rw [h2,h4,con_rank (a:=conExp s) (b:=conExp t) hlm rfl rfl ⟨d,ha.mem,m1⟩ ⟨d',hb.mem,m2⟩]
 show s=t↔_
 constructor
 ·rintro rfl
  exact hu d ha.mem d' hb.mem s m1 m2
 ·rintro rfl
  rw [h1] at h3
  exact Option.some.inj h3
theorem CaseP.len {ds:List DataD}{N:List Str}{e x:Exp}{d:DataD}(h:CaseP ds N e x d):e.arms.length=d.cons.length:=by
 have:=congrArg List.length h.vars
 simpa using this
theorem good.wf {e:Exp}:good e→e.wf:=by
 induction e using Exp.ind with
 | h e ih =>
  intro g
  rw [Exp.wf_eq]
  refine ⟨?_,fun x hx=>ih x hx (g.child hx)⟩
  rcases g.cases with ⟨k,_,h,h2⟩|⟨k,_,h,h2⟩|⟨k,_,⟨x,h,_⟩,h2⟩|⟨k,_,⟨f,x,h,_⟩,h2⟩|⟨k,_,⟨x,h,_⟩,_⟩
  all_goals refine ⟨fun h8 => ?_,fun h8 => ?_,fun h1 => ?_⟩<;>first | omega | assumption | (rw [h];rfl)
theorem zip_left {α β γ:Type}{f:α→γ}:∀ {l:List α}{m:List β},l.length=m.length→List.zipWith (fun a _=>f a) l m=l.map f
 | [],m,_=>by simp
 | a::l,[],h=>by simp at h
 | a::l,b::m,h=>by
  simp only [List.zipWith_cons_cons,List.map_cons]
  rw [zip_left (by simpa using h)]
theorem canon_weight (taken:List Str)(e:Exp):∀ old names,e.wf→(canonM taken e old names).weight=e.weight:=by
 induction e using Exp.ind with
 | h e ih =>
  intro old names hw
  by_cases h:e.kind=1
  ·rw [canonM_var h]
   split
   ·rw [Exp.weight_eq,e.weight_eq]
    rfl
   ·rfl
  ·obtain ⟨_,hc,_⟩:=canon_parts (taken:=taken) (old:=old) (names:=names) h hw.one
   rw [Exp.weight_eq,e.weight_eq,hc]
   have ha:((canonM taken e old names).arms.map fun a=>a.1.vars.length)=e.arms.map fun a=>a.1.vars.length:=by
    rw [canonM_no h,arms_mk,List.map_zipWith]
    simp only [news_len]
    exact zip_left (f:=fun a:ArmH × Exp=>a.1.vars.length) (by rw [List.length_drop,canonC_len];omega)
   have hcw:(canonC taken e old names).map Exp.weight=e.children.map Exp.weight:=by
    refine List.ext_getElem? fun i => ?_
    rw [List.getElem?_map,List.getElem?_map]
    cases hx:e.children[i]? with
    | none =>
     rw [List.getElem?_eq_none (by rw [canonC_len,←e.children_len];exact List.getElem?_eq_none_iff.1 hx)]
    | some x =>
     rw [canonC_get hx,Option.map_some,Option.map_some,ih x (List.mem_of_getElem? hx) _ _ (hw.child (List.mem_of_getElem? hx))]
   rw [ha,hcw]
variable {A:Oracle}
theorem equals134 (l m:List Ty)(hl:l.length≤1073741824)(ih:∀ x∈l,∀ b,∃ r,IntsB r∧(K A).call 84 [tyV x,tyV b] []=some r):∃ r,IntsB r∧(K A).call 147 [tysV l,tysV m] []=some r:=by
 refine fn_ofE _ (vf:=v147) (by kernel_rfl) rfl (by simp) ?_
 unfold v147
 by_cases hn:l.length=m.length
 ·simp (disch:=first|omega|(simp;done)|(simp;omega)) [hn]
  refine wp_loopI (fun i s=>s=⟨[(0,tysV l),(1,tysV m),(5,intV i)],[]⟩) l.length (by simp) ?_ ?_
  ·rintro i s hi rfl
   obtain ⟨x,hx⟩:=get_of_lt hi
   obtain ⟨y,hy⟩:=get_of_lt (l:=m) (i:=i) (by omega)
   obtain ⟨_,⟨b,rfl⟩,hc⟩:=ih x (List.mem_of_getElem? hx) y
   unfold l147_0
   cases b with
   | true=>simp (disch:=first|omega|(simp;done)|(simp;omega)) [hi,hx,hy,hc,-getElem?_pos]
   | false =>
    simp (disch:=first|omega|(simp;done)|(simp;omega)) [hi,hx,hy,hc,-getElem?_pos]
    exact ⟨false,rfl⟩
  ·rintro s rfl
   unfold l147_0
   simp (disch:=first|omega|(simp;done)|(simp;omega))
   exact ⟨true,rfl⟩
 ·have hn':¬(l.length:Int)=m.length:=by omega
  simp (disch:=first|omega|(simp;done)|(simp;omega)) [hn,hn']
  exact ⟨false,rfl⟩
theorem equal85:∀ (n:Nat)(a b:Ty),a.size≤n→n≤1073741824→∃ r,IntsB r∧(K A).call 84 [tyV a,tyV b] []=some r:=by
 intro n
 induction n with
 | zero =>
  intro a b ha
  have:=a.size_pos
  omega
 | succ n ih =>
  intro a b ha hn
  have hal:=a.args_lt
  obtain ⟨_,⟨v,rfl⟩,hc⟩:=equals134 (A:=A) a.args b.args (by omega) (fun x hx b=>ih x b (by have:=Ty.arg_lt hx;omega) (by omega))
  refine fn_ofE _ (vf:=v84) (by kernel_rfl) rfl (by simp) ?_
  unfold v84
  by_cases h1:a.kind=b.kind
  ·by_cases h2:a.name=b.name
   ·by_cases h3:a.id=b.id
    ·by_cases h4:a.home=b.home
     ·simp (disch:=first|omega|(simp;done)|(simp;omega)) [h1,h2,h3,h4,hc]
      exact ⟨v,rfl⟩
     ·simp (disch:=first|omega|(simp;done)|(simp;omega)) [h1,h2,h3,h4,hc]
      exact ⟨false,rfl⟩
    ·simp (disch:=first|omega|(simp;done)|(simp;omega)) [h1,h2,h3,hc]
     exact ⟨false,rfl⟩
   ·simp (disch:=first|omega|(simp;done)|(simp;omega)) [h1,h2,hc]
    exact ⟨false,rfl⟩
  ·simp (disch:=first|omega|(simp;done)|(simp;omega)) [h1,hc]
   exact ⟨false,rfl⟩
def LeafP (n m:Nat)(r:V × List Obj):Prop:=∃ out:List Ty,n≤out.length∧out.length≤m∧(∀ x∈out,x.size≤1073741824)∧r=(.sc (.arr 0 out.length),[.arr 5 (wr (Ty.rows out)) 0])
theorem leaves178:∀ (n:Nat)(t:Ty)(out:List Ty)(k:Int),t.size≤n→(∀ x∈out,x.size≤1073741824)→out.length+t.size≤1073741824 →
 ∃ r,LeafP out.length (out.length+t.size) r∧(K A).call 213 [.sc (.arr 0 out.length),tyV t,intV k] [.arr 5 (wr (Ty.rows out)) 0]=some r:=by
 intro n
 induction n with
 | zero =>
  intro t out k ht
  have:=t.size_pos
  omega
 | succ n ih =>
  intro t out k ht ho hn
  have hal:=t.args_lt
  have hpos:=t.size_pos
  have hts:=t.size_eq
  refine fn_ofE _ (vf:=v213) (by kernel_rfl) rfl (by simp) ?_
  have kids:wp (K A) (.loop l213_1) (blockQ 2 (thenQ (K A) (.seq (.region [] [o 51 (.mv (tv 0)),o 6 (.mv (tv 51))] [] [6]) .ret) (endsQ true 1 [.tmp 6] (LeafP out.length (out.length+t.size)))))
   ⟨[(0,.sc (.arr 0 out.length)),(2,intV k),(4,.sc (.ptr 64 0)),(8,intV 0)],[(0,some (.arr 5 (wr (Ty.rows out)) 0)),(64,some (.box (wc t.row)))]⟩:=by
   refine wp_loopI (fun i s=>∃ o2:List Ty,out.length≤o2.length∧o2.length≤out.length+((t.args.map Ty.size).take i).sum∧(∀ x∈o2,x.size≤1073741824)∧s=⟨[(0,.sc (.arr 0 o2.length)),(2,intV k),(4,.sc (.ptr 64 0)),(8,intV i)],[(0,some (.arr 5 (wr (Ty.rows o2)) 0)),(64,some (.box (wc t.row)))]⟩) t.args.length ⟨out,by omega,by simp,ho,by simp⟩ ?_ ?_
   ·rintro i s hi ⟨o2,h0,h1,h2,rfl⟩
    obtain ⟨x,hx⟩:=get_of_lt hi
    have hxs:=Ty.arg_lt (List.mem_of_getElem? hx)
    have hxm:(t.args.map Ty.size)[i]?=some x.size:=by rw [List.getElem?_map,hx];rfl
    have hsum:((t.args.map Ty.size).take (i+1)).sum=((t.args.map Ty.size).take i).sum+x.size:=by rw [take_next hxm];simp
    have hle:((t.args.map Ty.size).take (i+1)).sum≤(t.args.map Ty.size).sum:=sum_take
    obtain ⟨_,⟨o3,h3,h4,h5,rfl⟩,hc⟩:=ih x o2 k (by omega) h2 (by omega)
    unfold l213_1
    simp (disch:=first|omega|(simp;done)|(simp;omega)) [hi,hx,hc,h3,-getElem?_pos]
    exact ⟨o3,by omega,by omega,h5,by simp⟩
   ·rintro s ⟨o2,h0,h1,h2,rfl⟩
    rw [List.take_of_length_le (by simp)] at h1
    unfold l213_1
    simp (disch:=first|omega|(simp;done)|(simp;omega))
    exact ⟨o2,h0,by omega,h2,rfl⟩
  unfold v213
  by_cases h1:t.kind=k
  ·by_cases h2:t.args=[]
   ·simp (disch:=first|omega|(simp;done)|(simp;omega)) [h1,h2]
    refine wp_loopI (fun i s=>s=⟨[(0,.sc (.arr 0 out.length)),(4,.sc (.ptr 64 0)),(7,intV i)],[(0,some (.arr 5 (wr (Ty.rows out)) 0)),(64,some (.box (wc t.row)))]⟩) out.length (by simp) ?_ ?_
    ·rintro i s hi rfl
     obtain ⟨x,hx⟩:=get_of_lt hi
     obtain ⟨_,⟨b,rfl⟩,hc⟩:=equal85 (A:=A) 1073741824 x t (ho x (List.mem_of_getElem? hx)) (by omega)
     unfold l213_0
     cases b with
     | true =>
      simp (disch:=first|omega|(simp;done)|(simp;omega)) [hi,hx,hc,-getElem?_pos]
      exact ⟨out,by omega,by omega,ho,rfl⟩
     | false=>simp (disch:=first|omega|(simp;done)|(simp;omega)) [hi,hx,hc,-getElem?_pos]
    ·rintro s rfl
     unfold l213_0
     have fin:LeafP out.length (out.length+t.size) (.sc (.arr 0 (out++[t]).length),[.arr 5 (wr (Ty.rows (out++[t]))) 0]):=by
      refine ⟨out++[t],by simp,by simp;omega,?_,rfl⟩
      intro x hx
      rcases List.mem_append.1 hx with hx|hx
      ·exact ho x hx
      ·simp only [List.mem_singleton] at hx
       subst hx
       omega
     simp (disch:=first|omega|(simp;done)|(simp;omega))
     simpa using fin
   ·have h3:¬t.args.length=0:=fun h=>h2 (List.length_eq_zero_iff.1 h)
    simp (disch:=first|omega|(simp;done)|(simp;omega)) [h1,h2,h3]
    exact kids
  ·simp (disch:=first|omega|(simp;done)|(simp;omega)) [h1]
   exact kids
def VarsP (m:Nat)(r:V × List Obj):Prop:=∃ ids:List Int,ids.length≤m∧r=(intsV ids,[])
theorem vars117 (t:Ty)(h:t.size≤1073741824):∃ r,VarsP t.size r∧(K A).call 151 [tysV [t]] []=some r:=by
 refine fn_ofE _ (vf:=v151) (by kernel_rfl) rfl (by simp) ?_
 obtain ⟨_,⟨o1,h1,h2,h3,rfl⟩,hc⟩:=leaves178 (A:=A) t.size t [] 1 (Nat.le_refl _) (by simp) (by simpa using h)
 have hn:Ty.rows [t]=[t.row]:=by simp [Ty.rows]
 have hg:([t]:List Ty)[0]?=some t:=rfl
 simp at h2
 unfold v151
 simp (disch:=first|omega|(simp;done)|(simp;omega))
 refine wp_loopI (fun i s=>s=if i=0 then ⟨[(0,tysV [t]),(3,.sc (.arr 129 0)),(4,intV 0)],[(129,some (.arr 5 [] 0))]⟩ else ⟨[(0,tysV [t]),(3,.sc (.arr 129 o1.length)),(4,intV 1)],[(129,some (.arr 5 (wr (Ty.rows o1)) 0))]⟩) 1 (by simp) ?_ ?_
 ·rintro i s hi rfl
  obtain rfl:i=0:=by omega
  unfold l151_0
  simp (disch:=first|omega|(simp;done)|(simp;omega)) at hc
  simp (disch:=first|omega|(simp;done)|(simp;omega)) [hc,hg,-getElem?_pos]
 ·rintro s rfl
  unfold l151_0
  simp (disch:=first|omega|(simp;done)|(simp;omega)) [-getElem?_pos]
  refine wp_loopI (fun i s=>∃ ids:List Int,ids.length≤i∧s=⟨[(3,.sc (.arr 129 o1.length)),(5,.sc (.arr 1153 ids.length)),(6,intV i)],[(129,some (.arr 5 (wr (Ty.rows o1)) 0)),(1153,some (.arr 1 (wr (intRows ids)) 0))]⟩) o1.length ⟨[],by simp,by simp [intRows]⟩ ?_ ?_
  ·rintro i s hi ⟨ids,hi2,rfl⟩
   obtain ⟨x,hx⟩:=get_of_lt hi
   obtain ⟨_,⟨b,rfl⟩,hc⟩:=has118 (A:=A) ids x.id (by omega)
   unfold l151_1
   cases b with
   | true =>
    simp (disch:=first|omega|(simp;done)|(simp;omega)) [hi,hx,hc,elOk,-getElem?_pos]
    exact ⟨ids,by omega,by simp⟩
   | false =>
    simp (disch:=first|omega|(simp;done)|(simp;omega)) [hi,hx,hc,elOk,-getElem?_pos]
    exact ⟨ids++[x.id],by simp;omega,by simp [intRows,intRow,wr]⟩
  ·rintro s ⟨ids,hi2,rfl⟩
   unfold l151_1
   simp (disch:=first|omega|(simp;done)|(simp;omega)) [-getElem?_pos]
   exact ⟨ids,by omega,rfl⟩
end Go.Vs.Tryz
