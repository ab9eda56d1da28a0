/- Substitution as the reference does it (plain): up to positions it is the program's. (Parts of one proof, put together.) -/
import Derived.Test.YtlcncicmkkelcaaGreatDoorREb
import Derived.Test.YtlcncicmkkelcaaGreatDoorR2b
import Derived.Test.YtlcncicmkkelcaaGreatDoorR1b
set_option linter.unusedSimpArgs false
set_option linter.unusedVariables false
set_option linter.deprecated false
set_option maxHeartbeats 8000000
set_option maxRecDepth 10000
namespace Go.Vs.Tryz
open Go Go.Vs
theorem ZpD {t t':List Str}(h:∀ k,Za1 k∈t↔Za1 k∈t')(n:Nat):ZaJ n t=ZaJ n t':=by
 have h1:1≤ZaJ n t':=Zcj t' _ 1 n
 have hm:ZdB t' 1 (ZaJ n t')=n:=ZcO t' _ _ _ (by have:=Ze3 t' 1;omega)
 refine ZfT h1 (fun hk=>Zbc n t' ((h _).1 hk)) ?_
 calc ZdB t 1 (ZaJ n t')=ZdB t' 1 (ZaJ n t'):=by unfold ZdB;simp only [h]
  _=n:=hm
theorem Zlu {t t':List Str}(h:∀ k,Za1 k∈t↔Za1 k∈t')(n:Nat):ZaK n t=ZaK n t':=by rw [ZaK,ZaK,ZpD h]
theorem Zga (k:Nat):Za1 k≠[]:=by unfold Za1;simp
def listF (e:Exp)(l:List (List Str)):List Str:=(if e.name=[] then [] else [e.name])++(e.arms.map fun a=>a.1.vars).flatten++l.flatten
def ZbK (e:Exp):List Str:=e.fold listF
theorem ZiK (e:Exp):ZbK e=(if e.name=[] then [] else [e.name])++(e.arms.map fun a=>a.1.vars).flatten++(e.children.map ZbK).flatten:=Exp.fold_eq _ e
theorem ZnM {e:Exp}{s:Str}:s∈ZbK e↔(s≠[]∧s=e.name)∨(∃ a∈e.arms,s∈a.1.vars)∨∃ x∈e.children,s∈ZbK x:=by
 rw [ZiK,List.mem_append,List.mem_append,or_assoc]
 refine or_congr ?_ (or_congr ?_ ?_)
 ·split
  ·rename_i h
   rw [h]
   simp
  ·rename_i h
   rw [List.mem_singleton]
   exact ⟨fun q=>⟨q▸h,q⟩,fun q=>q.2⟩
 ·rw [List.mem_flatten]
  constructor
  ·rintro ⟨l,hl,hs⟩
   obtain ⟨a,ha,rfl⟩:=List.mem_map.1 hl
   exact ⟨a,ha,hs⟩
  ·rintro ⟨a,ha,hs⟩
   exact ⟨_,List.mem_map.2 ⟨a,ha,rfl⟩,hs⟩
 ·rw [List.mem_flatten]
  constructor
  ·rintro ⟨l,hl,hs⟩
   obtain ⟨a,ha,rfl⟩:=List.mem_map.1 hl
   exact ⟨a,ha,hs⟩
  ·rintro ⟨a,ha,hs⟩
   exact ⟨_,List.mem_map.2 ⟨a,ha,rfl⟩,hs⟩
theorem Ze0 (e:Exp){s:Str}(hs:s≠[]):e.wf→(s∈ZbK e↔s∈allP e):=by
 induction e using Exp.ind with
 | h e ih =>
  intro hw
  rw [ZnM,ZaA]
  constructor
  ·rintro (⟨_,h⟩|⟨a,ha,h⟩|⟨x,hx,h⟩)
   ·exact .inl h
   ·obtain ⟨j,hj⟩:=List.mem_iff_getElem?.1 ha
    have h8:e.kind=8:=Classical.byContradiction fun q=>by
     have:=hw.one.2.1 q
     rw [this] at ha
     simp at ha
    have hk1:=hw.one.1 h8
    refine .inr ⟨e.kids.length+j,a.2,Zcp hj,.inl ?_⟩
    rw [ZaD,if_neg (by omega),if_pos ⟨h8,by omega⟩,hk1,show 1+j-1=j by omega,hj]
    exact h
   ·obtain ⟨i,hi⟩:=List.mem_iff_getElem?.1 hx
    exact .inr ⟨i,x,hi,.inr ((ih x hx (hw.child hx)).1 h)⟩
  ·rintro (h|⟨i,x,hi,h|h⟩)
   ·exact .inl ⟨hs,h⟩
   ·rw [ZaD] at h
    split at h
    ·exact .inl ⟨hs,List.mem_singleton.1 h⟩
    ·split at h
     ·cases ha:e.arms[i-1]? with
      | none=>rw [ha] at h;simp at h
      | some a =>
       rw [ha] at h
       exact .inr (.inl ⟨a,List.mem_of_getElem? ha,h⟩)
     ·simp at h
   ·exact .inr (.inr ⟨x,List.mem_of_getElem? hi,(ih x (List.mem_of_getElem? hi) (hw.child (List.mem_of_getElem? hi))).2 h⟩)
def Zs5 (a b:Exp):Prop:=a.kind=b.kind∧a.name=b.name∧a.num=b.num∧a.ty=b.ty∧a.kids.length=b.kids.length∧a.arms.length=b.arms.length ∧
 ∀ (i:Nat) p q,a.arms[i]?=some p→b.arms[i]?=some q→p.1.con=q.1.con∧p.1.vars=q.1.vars
theorem Za7 {a b:Exp}:sameP a b↔Zs5 a b∧∀ (i:Nat) x y,a.children[i]?=some x→b.children[i]?=some y→sameP x y:=by
 rw [ZbH]
 unfold Zs5
 simp only [and_assoc]
theorem sameP.kids_len {a b:Exp}(h:sameP a b):a.children.length=b.children.length:=by
 obtain ⟨⟨_,_,_,_,h1,h2,_⟩,_⟩:=Za7.1 h
 rw [a.children_len,b.children_len,h1,h2]
theorem sameP.kid {a b:Exp}(h:sameP a b){i:Nat}{x:Exp}(hx:a.children[i]?=some x):∃ y,b.children[i]?=some y∧sameP x y:=by
 obtain ⟨y,hy⟩:=Zaa (l:=b.children) (i:=i) (by rw [←h.kids_len];exact (List.getElem?_eq_some_iff.1 hx).1)
 exact ⟨y,hy,(Za7.1 h).2 i x y hx hy⟩
theorem sameP.weight (a:Exp):∀ b,sameP a b→a.weight=b.weight:=by
 induction a using Exp.ind with
 | h a ih =>
  intro b h
  obtain ⟨⟨_,_,_,_,_,h6,h7⟩,h8⟩:=Za7.1 h
  have hl:=h.kids_len
  rw [a.weight_eq,b.weight_eq]
  congr 1
  ·congr 2
   refine List.ext_getElem? fun i => ?_
   rw [List.getElem?_map,List.getElem?_map]
   cases hp:a.arms[i]? with
   | none =>
    have:b.arms[i]?=none:=by rw [List.getElem?_eq_none_iff] at hp ⊢;omega
    rw [this]
   | some p =>
    obtain ⟨q,hq⟩:=Zaa (l:=b.arms) (i:=i) (by have:=(List.getElem?_eq_some_iff.1 hp).1;omega)
    rw [hq]
    simp only [Option.map_some,(h7 i p q hp hq).2]
  ·congr 1
   refine List.ext_getElem? fun i => ?_
   rw [List.getElem?_map,List.getElem?_map]
   cases hp:a.children[i]? with
   | none =>
    have:b.children[i]?=none:=by rw [List.getElem?_eq_none_iff] at hp ⊢;omega
    rw [this]
   | some p =>
    obtain ⟨q,hq,hs⟩:=h.kid hp
    rw [hq]
    simp only [Option.map_some,ih p (List.mem_of_getElem? hp) q hs]
theorem sameP.shp (a:Exp):∀ b,sameP a b→shp a→shp b:=by
 induction a using Exp.ind with
 | h a ih =>
  intro b h hs
  obtain ⟨⟨h1,h2,h3,h4,h5,h6,h7⟩,h8⟩:=Za7.1 h
  rw [ZfR]
  refine ⟨?_,fun y hy => ?_⟩
  ·obtain ⟨⟨w1,w2,w3⟩,w4,w5⟩:=hs.one
   have hz:∀ {α:Type} {l m:List α},l.length=m.length→l=[]→m=[]:=fun hl he=>List.length_eq_zero_iff.1 (by rw [←hl,he];rfl)
   refine ⟨⟨fun k=>by rw [←h5];exact w1 (h1.trans k),fun k=>List.length_eq_zero_iff.1 (by rw [←h6,w2 (fun q=>k (h1▸q))];rfl),fun k=>List.length_eq_zero_iff.1 (by rw [←h5,w3 (h1.trans k)];rfl)⟩,fun k => ?_,by rw [←h5,←h1];exact w5⟩
   rw [←h3,←h4]
   exact w4 (h1.trans k)
  ·obtain ⟨i,hi⟩:=List.mem_iff_getElem?.1 hy
   obtain ⟨x,hx⟩:=Zaa (l:=a.children) (i:=i) (by rw [h.kids_len];exact (List.getElem?_eq_some_iff.1 hi).1)
   exact ih x (List.mem_of_getElem? hx) y (h8 i x y hx hi) (hs.child (List.mem_of_getElem? hx))
theorem ZhW (a:Exp):∀ b,sameP a b→∀ u,u∈Zaf a→u∈Zaf b:=by
 induction a using Exp.ind with
 | h a ih =>
  intro b h u hu
  obtain ⟨⟨h1,h2,_⟩,h8⟩:=Za7.1 h
  by_cases hk:a.kind=1
  ·rw [Za6 hk] at hu
   rw [Za6 (h1▸hk),←h2]
   exact hu
  ·obtain ⟨i,x,hx,hf,hb⟩:=(Zbu hk).1 hu
   obtain ⟨y,hy,hs⟩:=h.kid hx
   exact (Zbu (h1▸hk)).2 ⟨i,y,hy,ih x (List.mem_of_getElem? hx) y hs u hf,by rw [←Zee h];exact hb⟩
theorem ZeX {a b:Exp}(h:sameP a b)(u:Str):u∈Zaf a↔u∈Zaf b:=⟨ZhW a b h u,ZhW b a (ZhM a b h) u⟩
theorem Zji (a:Exp):∀ b,sameP a b→∀ u,u∈allP a→u∈allP b:=by
 induction a using Exp.ind with
 | h a ih =>
  intro b h u hu
  obtain ⟨⟨h1,h2,_⟩,h8⟩:=Za7.1 h
  rcases ZaA.1 hu with hu|⟨i,x,hx,hu⟩
  ·exact ZaA.2 (.inl (h2▸hu))
  ·obtain ⟨y,hy,hs⟩:=h.kid hx
   exact ZaA.2 (.inr ⟨i,y,hy,hu.imp (fun q=>by rw [←Zee h];exact q) fun q=>ih x (List.mem_of_getElem? hx) y hs u q⟩)
theorem ZiN {a b:Exp}(h:sameP a b)(u:Str):u∈allP a↔u∈allP b:=⟨Zji a b h u,Zji b a (ZhM a b h) u⟩
theorem ZjP {e e':Exp}{cs ds:List Exp}(hc:cs.length=e.kids.length+e.arms.length)(hd:ds.length=e'.kids.length+e'.arms.length)(h:Zs5 e e')
 (hk:∀ (i:Nat) x y,cs[i]?=some x→ds[i]?=some y→sameP x y):sameP (Zbm e cs) (Zbm e' ds):=by
 obtain ⟨c1,c2,c3,c4⟩:=Zbe hc
 obtain ⟨d1,d2,d3,d4⟩:=Zbe hd
 obtain ⟨h1,h2,h3,h4,h5,h6,h7⟩:=h
 refine Za7.2 ⟨⟨h1,h2,h3,h4,by rw [c1,d1,h5],by rw [c2,d2,h6],fun i p q hp hq => ?_⟩,fun i x y hx hy => ?_⟩
 ·have hc4:=c4 i
  have hd4:=d4 i
  rw [hp] at hc4
  rw [hq] at hd4
  cases hp':e.arms[i]? with
  | none=>rw [hp'] at hc4;simp at hc4
  | some p' =>
   cases hq':e'.arms[i]? with
   | none=>rw [hq'] at hd4;simp at hd4
   | some q' =>
    rw [hp'] at hc4
    rw [hq'] at hd4
    simp only [Option.map_some,Option.some.injEq] at hc4 hd4
    rw [hc4,hd4]
    exact h7 i p' q' hp' hq'
 ·rw [c3] at hx
  rw [d3] at hy
  exact hk i x y hx hy
def varX (s:Str):Exp:=.mk 1 0 s 0 [] [] tz
theorem ZjU (s:Str):Zaf (varX s)=[s]:=by rw [Zb4,if_pos (show (varX s).kind=1 from rfl)];rfl
def newR (x:Str)(b e:Exp):Str:=ZaK 0 (Zaf b++ZbK e++[x])
def newA (x con:Str)(b:Exp)(p:List Str × Exp):Str:=ZaK 0 (Zaf b++ZbK p.2++[x,con]++p.1)
def Zd3 (S:Exp→Str→Exp→Exp)(x:Str)(b:Exp)(con:Str)(p:List Str × Exp)(i:Nat):List Str × Exp:=match p.1[i]? with
 | none=>p
 | some v=>if v∈Zaf b∧x∈Zaf p.2 then (p.1.set i (newA x con b p),S p.2 v (varX (newA x con b p))) else p
def Zb3 (S:Exp→Str→Exp→Exp)(x:Str)(b:Exp)(con:Str)(vs:List Str)(e:Exp)(k:Nat):List Str × Exp:=(List.range k).foldl (Zd3 S x b con) (vs,e)
theorem Zdy (S:Exp→Str→Exp→Exp)(x:Str)(b:Exp)(con:Str)(vs:List Str)(e:Exp)(k:Nat):Zb3 S x b con vs e (k+1)=Zd3 S x b con (Zb3 S x b con vs e k) k:=by
 unfold Zb3
 rw [List.range_succ,List.foldl_append]
 rfl
def ZcC (S:Exp→Str→Exp→Exp)(x:Str)(b:Exp)(a:ArmH × Exp):ArmH × Exp :=
 if x∈a.1.vars then a else (⟨a.1.pos,a.1.con,(Zb3 S x b a.1.con a.1.vars a.2 a.1.vars.length).1⟩,(Zb3 S x b a.1.con a.1.vars a.2 a.1.vars.length).2)
def Zdl (S:Exp→Str→Exp→Exp)(x:Str)(b:Exp)(e:Exp):Exp :=
 if e.name=x∨e.kids.length≤Zap e∨¬hitP x (Zaf b) e.name (e.kids.drop (Zap e)) then e else
  .mk e.kind e.pos (newR x b e) e.num (e.kids.zipIdx.map fun p=>if p.2<Zap e then p.1 else S p.1 e.name (varX (newR x b e))) e.arms e.ty
def ZdL (S:Exp→Str→Exp→Exp)(x:Str)(b:Exp)(e:Exp):Exp :=
 if e.kind=4∨e.kind=6∨e.kind=7 then Zdl S x b e else if e.kind=8 then .mk e.kind e.pos e.name e.num e.kids (e.arms.map (ZcC S x b)) e.ty else e
def refS:Nat→Exp→Str→Exp→Exp
 | 0,e,_,_=>e
 | n+1,e,x,b=>if e.kind=1 then (if e.name=x then b else e) else
  Zbm (ZdL (refS n) x b e) ((ZdL (refS n) x b e).children.zipIdx.map fun p=>if x∈(ZdL (refS n) x b e).bound p.2 then p.1 else refS n p.1 x b)
def refC (n:Nat)(e:Exp)(x:Str)(b:Exp):List Exp:=e.children.zipIdx.map fun p=>if x∈e.bound p.2 then p.1 else refS n p.1 x b
@[simp] theorem refC_len (n:Nat) (e:Exp) (x:Str) (b:Exp):(refC n e x b).length=e.kids.length+e.arms.length:=by simp [refC]
theorem Ze4 {n:Nat}{e y:Exp}{x:Str}{b:Exp}{i:Nat}(h:e.children[i]?=some y):(refC n e x b)[i]?=some (if x∈e.bound i then y else refS n y x b):=by
 simp [refC,h]
theorem ZcF (n:Nat)(e:Exp)(x:Str)(b:Exp):refS (n+1) e x b=if e.kind=1 then (if e.name=x then b else e) else Zbm (ZdL (refS n) x b e) (refC n (ZdL (refS n) x b e) x b):=rfl
theorem ZiV {S:Exp→Str→Exp→Exp}{x to con:Str}{vs:List Str}{e:Exp}(h:to∉vs):∀ k,Zb3 S x (varX to) con vs e k=(vs,e)
 | 0=>rfl
 | k+1=>by
  rw [Zdy,ZiV h k]
  unfold Zd3
  cases hv:vs[k]? with
  | none=>simp [hv]
  | some v =>
   simp only [hv]
   rw [if_neg]
   rintro ⟨q,_⟩
   rw [ZjU,List.mem_singleton] at q
   exact h (q▸List.mem_of_getElem? hv)
theorem Zqp {S:Exp→Str→Exp→Exp}{x to:Str}{e:Exp}(hw:e.wf)(h:to∉allP e):ZdL S x (varX to) e=e:=by
 unfold ZdL
 by_cases h4:e.kind=4∨e.kind=6∨e.kind=7
 ·rw [if_pos h4]
  unfold Zdl
  rw [if_pos]
  refine .inr (.inr fun q=>h ?_)
  have:=q.1
  rw [ZjU,List.mem_singleton] at this
  exact ZaA.2 (.inl this.symm)
 ·rw [if_neg h4]
  by_cases h8:e.kind=8
  ·rw [if_pos h8]
   have hm:e.arms.map (ZcC S x (varX to))=e.arms:=by
    refine List.ext_getElem? fun i => ?_
    rw [List.getElem?_map]
    cases ha:e.arms[i]? with
    | none=>rfl
    | some a =>
     have hk1:=hw.one.1 h8
     have hv:to∉a.1.vars:=fun q=>h (ZaA.2 (.inr ⟨e.kids.length+i,a.2,Zcp ha,.inl (by
      rw [ZaD,if_neg (by omega),if_pos ⟨h8,by omega⟩,hk1,show 1+i-1=i by omega,ha]
      exact q)⟩))
     simp only [Option.map_some]
     unfold ZcC
     rw [ZiV hv]
     split<;>rfl
   rw [hm]
   cases e
   rfl
  ·rw [if_neg h8]
theorem Zef (f to:Str):∀ (n:Nat) (e e':Exp),sameP e e'→e.weight≤n→shp e→to∉allP e→sameP (repl f to e) (refS n e' f (varX to))
 | 0,e,_,_,h,_,_=>by have:=e.weight_pos;omega
 | n+1,e,e',h,hn,hs,ht=>by
  obtain ⟨hh,hc⟩:=Za7.1 h
  obtain ⟨h1,h2,h3,h4,h5,h6,h7⟩:=hh
  have hs':=sameP.shp e e' h hs
  rw [ZcF]
  by_cases hk:e.kind=1
  ·rw [ZcT hk,if_pos (h1.symm.trans hk),←h2]
   by_cases hx:e.name=f
   ·rw [if_pos hx,if_pos hx]
    obtain ⟨a1,a2,a3⟩:=Ze5 hs.one.1 hk
    obtain ⟨m,t⟩:=hs.one.2.1 hk
    rw [hk,m,t,a1,a2]
    refine Za7.2 ⟨⟨rfl,rfl,rfl,rfl,rfl,rfl,fun i p q hp=>by simp [Exp.arms] at hp⟩,fun i x y hx => ?_⟩
    simp [Exp.children,Exp.kids,Exp.arms] at hx
   ·rw [if_neg hx,if_neg hx]
    exact h
  ·rw [ZdN hk,if_neg (fun q=>hk (h1.trans q)),Zqp hs'.wf (fun q=>ht ((ZiN h to).2 q))]
   refine ZjP (replC_len _ _ _) (refC_len _ _ _ _) ⟨h1,h2,h3,h4,h5,h6,h7⟩ fun i x y hx hy => ?_
   obtain ⟨x0,hx0⟩:=Zaa (l:=e.children) (i:=i) (by rw [e.children_len,←replC_len f to e];exact (List.getElem?_eq_some_iff.1 hx).1)
   obtain ⟨y0,hy0,hxy⟩:=h.kid hx0
   rw [ZbX hx0] at hx
   rw [Ze4 hy0,←Zee h] at hy
   cases hx
   cases hy
   have hm:=List.mem_of_getElem? hx0
   by_cases hb:f∈e.bound i
   ·rw [if_pos hb,if_pos hb]
    exact hxy
   ·rw [if_neg hb,if_neg hb]
    exact Zef f to n x0 y0 hxy (by have:=Exp.child_lt hm;omega) (hs.child hm) fun q=>ht (ZaA.2 (.inr ⟨i,x0,hx0,.inr q⟩))
def conV (e:Exp):Prop:=e.fold fun e l=>(∀ a∈e.arms,∀ k,a.1.con≠Za1 k)∧∀ p∈l,p
theorem ZgQ (e:Exp):conV e=((∀ a∈e.arms,∀ k,a.1.con≠Za1 k)∧∀ x∈e.children,conV x):=by
 have:=Exp.fold_eq (fun e (l:List Prop)=>(∀ a∈e.arms,∀ k,a.1.con≠Za1 k)∧∀ p∈l,p) e
 unfold conV
 rw [this]
 simp only [List.forall_mem_map]
theorem conV.one {e:Exp}(h:conV e):∀ a∈e.arms,∀ k,a.1.con≠Za1 k:=by rw [ZgQ] at h;exact h.1
theorem conV.child {e x:Exp}(h:conV e)(hx:x∈e.children):conV x:=by rw [ZgQ] at h;exact h.2 x hx
theorem Zi0 (frm to:Str)(e:Exp):conV e→conV (repl frm to e):=by
 induction e using Exp.ind with
 | h e ih =>
  intro h
  by_cases hk:e.kind=1
  ·rw [ZcT hk]
   split
   ·rw [ZgQ]
    exact ⟨h.one,fun x hx=>h.child hx⟩
   ·exact h
  ·rw [ZdN hk,ZgQ]
   obtain ⟨_,_,h3,h4⟩:=Zbe (replC_len frm to e)
   refine ⟨fun a ha k => ?_,fun c hc => ?_⟩
   ·obtain ⟨i,hi⟩:=List.mem_iff_getElem?.1 ha
    have:=h4 i
    rw [hi] at this
    cases hq:e.arms[i]? with
    | none=>rw [hq] at this;simp at this
    | some q =>
     rw [hq] at this
     simp only [Option.map_some,Option.some.injEq] at this
     rw [this]
     exact h.one q (List.mem_of_getElem? hq) k
   ·rw [h3] at hc
    obtain ⟨i,hi⟩:=List.mem_iff_getElem?.1 hc
    obtain ⟨x,hx⟩:=Zaa (l:=e.children) (i:=i) (by have:=(List.getElem?_eq_some_iff.1 hi).1;rw [replC_len,←e.children_len] at this;exact this)
    rw [ZbX hx] at hi
    cases hi
    have hm:=List.mem_of_getElem? hx
    split
    ·exact h.child hm
    ·exact ih x hm (h.child hm)
theorem ZhZ {x:Str}{free vs:List Str}{b:Exp}(h:conV b):∀ k,conV (Zc7 x free vs b k).2
 | 0=>h
 | k+1=>by
  rw [Zdg]
  have:=ZhZ (x:=x) (free:=free) (vs:=vs) h k
  generalize Zc7 x free vs b k=p at this ⊢
  unfold Zdq
  cases p.1[k]? with
  | none=>exact this
  | some v =>
   simp only
   split
   ·exact this
   ·exact Zi0 _ _ _ this
theorem ZoH {x:Str}{free:List Str}{e:Exp}(hs:shp e)(h:conV e):∀ y∈(ZcM x free e).children,conV y:=by
 unfold ZcM
 by_cases h4:e.kind=4∨e.kind=6∨e.kind=7
 ·rw [if_pos h4]
  obtain ⟨ha,hc⟩:=ZaT (by omega) hs.one
  unfold Zcq
  split
  ·exact fun y hy=>h.child hy
  ·intro y hy
   rw [ZaH,ha] at hy
   simp only [List.map_nil,List.append_nil,List.mem_map] at hy
   obtain ⟨⟨z,i⟩,hz,rfl⟩:=hy
   have hm:z∈e.children:=by rw [hc];exact List.mem_of_getElem? (List.mem_zipIdx_iff_getElem?.1 hz)
   simp only
   split
   ·exact h.child hm
   ·exact Zi0 _ _ _ (h.child hm)
 ·rw [if_neg h4]
  by_cases h8:e.kind=8
  ·rw [if_pos h8]
   intro y hy
   rw [ZaH] at hy
   rcases List.mem_append.1 hy with hy|hy
   ·exact h.child (ZcS hy)
   ·obtain ⟨a,ha,rfl⟩:=List.mem_map.1 hy
    obtain ⟨p,hp,rfl⟩:=List.mem_map.1 ha
    unfold armP
    split
    ·exact h.child (Zca hp)
    ·exact ZhZ (h.child (Zca hp)) _
  ·rw [if_neg h8]
   exact fun y hy=>h.child hy
theorem Zli {n:Nat}{x con:Str}{b:Exp}{vs:List Str}{e e':Exp}(hcon:∀ k,con≠Za1 k)(hi:inj vs)(hx:x∉vs)(hs:shp e)(hp:properP e)(hw:e.weight≤n)(h:sameP e e') :
 ∀ k,k≤vs.length→(Zc7 x (Zaf b) vs e k).1=(Zb3 (refS n) x b con vs e' k).1∧sameP (Zc7 x (Zaf b) vs e k).2 (Zb3 (refS n) x b con vs e' k).2
 | 0,_=>⟨rfl,h⟩
 | k+1,hk=>by
  obtain ⟨g1,g2⟩:=Zli (b:=b) hcon hi hx hs hp hw h k (by omega)
  have ho:=ZeK (free:=Zaf b) hi hx hs hp k (by omega)
  rw [Zdg,Zdy]
  generalize Zc7 x (Zaf b) vs e k=p at *
  generalize Zb3 (refS n) x b con vs e' k=q at *
  obtain ⟨v1,e1⟩:=p
  obtain ⟨v2,e2⟩:=q
  simp only at g1 g2 ho
  subst g1
  obtain ⟨v,hv⟩:=Zaa (l:=v1) (i:=k) (by rw [ho.len];exact hk)
  have hdrop:v∉v1.drop (k+1):=by
   intro hm
   obtain ⟨j,hj⟩:=List.mem_iff_getElem?.1 hm
   rw [List.getElem?_drop] at hj
   have:=ho.inj k _ v hv hj
   omega
  unfold Zdq Zd3
  simp only [hv]
  by_cases hh:v∈Zaf b∧x∈Zaf e1
  ·have hto:ZaK 0 (allP e1++v1++Zaf b++[x])=newA x con b (v1,e2):=by
    refine Zlu (fun j => ?_) 0
    have ha:Za1 j∈allP e1↔Za1 j∈ZbK e2:=by
     rw [Ze0 e2 (Zga j) (sameP.shp e1 e2 g2 ho.shape).wf]
     exact ZiN g2 _
    have hc:Za1 j≠con:=fun q=>hcon j q.symm
    simp only [List.mem_append,List.mem_cons,List.not_mem_nil,or_false,ha,hc]
    constructor
    ·rintro (((q|q)|q)|q)
     ·exact .inl (.inl (.inr q))
     ·exact .inr q
     ·exact .inl (.inl (.inl q))
     ·exact .inl (.inr q)
    ·rintro (((q|q)|q)|q)
     ·exact .inl (.inr q)
     ·exact .inl (.inl (.inl q))
     ·exact .inr q
     ·exact .inl (.inl (.inr q))
   rw [if_neg (show ¬(v∈v1.drop (k+1)∨¬hitP x (Zaf b) v [e1]) from fun q=>q.elim hdrop fun q=>q ⟨hh.1,e1,by simp,hh.2⟩),if_pos ⟨hh.1,(ZeX g2 x).1 hh.2⟩]
   have hf:=Zbc 0 (allP e1++v1++Zaf b++[x])
   rw [hto] at hf ⊢
   simp only [List.mem_append,not_or] at hf
   exact ⟨rfl,Zef v _ n e1 e2 g2 (by rw [ho.weight];exact hw) ho.shape hf.1.1.1⟩
  ·rw [if_pos (show v∈v1.drop (k+1)∨¬hitP x (Zaf b) v [e1] from .inr fun q=>hh ⟨q.1,by obtain ⟨_,y,hy,hf⟩:=q;rw [List.mem_singleton] at hy;exact hy▸hf⟩),if_neg (fun q=>hh ⟨q.1,(ZeX g2 x).2 q.2⟩)]
   exact ⟨rfl,g2⟩
theorem ZmN {n:Nat}{x:Str}{b e e':Exp}(h:sameP e e')(hs:shp e)(hp:properP e)(hc:conV e)(hn:e.weight≤n+1):sameP (ZcM x (Zaf b) e) (ZdL (refS n) x b e'):=by
 have hs':=sameP.shp e e' h hs
 obtain ⟨⟨h1,h2,h3,h4,h5,h6,h7⟩,h8⟩:=Za7.1 h
 unfold ZcM ZdL
 by_cases hb:e.kind=4∨e.kind=6∨e.kind=7
 ·rw [if_pos hb,if_pos (h1▸hb)]
  obtain ⟨ha,hch⟩:=ZaT (by omega) hs.one
  obtain ⟨ha',hch'⟩:=ZaT (e:=e') (by omega) hs'.one
  have hsc:Zap e'=Zap e:=by unfold Zap;rw [h1]
  have hkid:∀ (i:Nat) k,e.kids[i]?=some k→∃ k',e'.kids[i]?=some k'∧sameP k k':=fun i k hk=>by
   rw [←hch] at hk
   rw [←hch']
   exact h.kid hk
  have hhit:hitP x (Zaf b) e'.name (e'.kids.drop (Zap e))↔hitP x (Zaf b) e.name (e.kids.drop (Zap e)):=by
   unfold hitP
   rw [h2]
   refine and_congr_right fun _=>⟨?_,?_⟩
   ·rintro ⟨k',hk',hf⟩
    obtain ⟨j,hj⟩:=List.mem_iff_getElem?.1 hk'
    rw [List.getElem?_drop] at hj
    obtain ⟨k,hk⟩:=Zaa (l:=e.kids) (i:=Zap e+j) (by rw [h5];exact (List.getElem?_eq_some_iff.1 hj).1)
    obtain ⟨k2,hk2,hsm⟩:=hkid _ k hk
    rw [hj] at hk2
    cases hk2
    exact ⟨k,List.mem_of_getElem? (i:=j) (by rw [List.getElem?_drop];exact hk),(ZeX hsm x).2 hf⟩
   ·rintro ⟨k,hk,hf⟩
    obtain ⟨j,hj⟩:=List.mem_iff_getElem?.1 hk
    rw [List.getElem?_drop] at hj
    obtain ⟨k2,hk2,hsm⟩:=hkid _ k hj
    exact ⟨k2,List.mem_of_getElem? (i:=j) (by rw [List.getElem?_drop];exact hk2),(ZeX hsm x).1 hf⟩
  unfold Zcq Zdl
  have hcond:(e'.name=x∨e'.kids.length≤Zap e'∨¬hitP x (Zaf b) e'.name (e'.kids.drop (Zap e')))↔(e.name=x∨e.kids.length≤Zap e∨¬hitP x (Zaf b) e.name (e.kids.drop (Zap e))):=by rw [hsc,hhit,←h2,←h5]
  by_cases hcn:e.name=x∨e.kids.length≤Zap e∨¬hitP x (Zaf b) e.name (e.kids.drop (Zap e))
  ·rw [if_pos hcn,if_pos (hcond.2 hcn)]
   exact h
  ·rw [if_neg hcn,if_neg (fun q=>hcn (hcond.1 q)),hsc,←h2]
   have hto:ZaK 0 (allP e++Zaf b++[x])=newR x b e':=by
    refine Zlu (fun j => ?_) 0
    have ha:Za1 j∈allP e↔Za1 j∈ZbK e':=by
     rw [Ze0 e' (Zga j) hs'.wf]
     exact ZiN h _
    simp only [List.mem_append,ha]
    constructor
    ·rintro ((q|q)|q)
     ·exact .inl (.inr q)
     ·exact .inl (.inl q)
     ·exact .inr q
    ·rintro ((q|q)|q)
     ·exact .inl (.inr q)
     ·exact .inl (.inl q)
     ·exact .inr q
   have hf:=Zbc 0 (allP e++Zaf b++[x])
   rw [hto] at hf ⊢
   simp only [List.mem_append,not_or] at hf
   generalize newR x b e'=to at hf ⊢
   refine Za7.2 ⟨⟨h1,rfl,h3,h4,by simp only [Zeu,List.length_map,List.length_zipIdx];exact h5,h6,h7⟩,fun i y z hy hz => ?_⟩
   rw [ZaH,ha,List.map_nil,List.append_nil,List.getElem?_map,List.getElem?_zipIdx] at hy
   rw [ZaH,ha',List.map_nil,List.append_nil,List.getElem?_map,List.getElem?_zipIdx] at hz
   cases hk:e.kids[i]? with
   | none=>rw [hk] at hy;simp at hy
   | some k =>
    obtain ⟨k',hk',hsm⟩:=hkid i k hk
    rw [hk] at hy
    rw [hk'] at hz
    simp only [Option.map_some,Nat.zero_add,Option.some.injEq] at hy hz
    subst hy
    subst hz
    have hm:k∈e.children:=by rw [hch];exact List.mem_of_getElem? hk
    by_cases hi:i<Zap e
    ·rw [if_pos hi,if_pos hi]
     exact hsm
    ·rw [if_neg hi,if_neg hi]
     exact Zef _ _ n k k' hsm (by have:=Exp.child_lt hm;omega) (hs.child hm) fun q=>hf.1.1 (ZaA.2 (.inr ⟨i,k,by rw [hch];exact hk,.inr q⟩))
 ·rw [if_neg hb,if_neg (show ¬(e'.kind=4∨e'.kind=6∨e'.kind=7) by rw [←h1];exact hb)]
  by_cases k8:e.kind=8
  ·rw [if_pos k8,if_pos (h1.symm.trans k8)]
   have harm:∀ (i:Nat) p q,e.arms[i]?=some p→e'.arms[i]?=some q→(armP x (Zaf b) p).1.con=(ZcC (refS n) x b q).1.con∧(armP x (Zaf b) p).1.vars=(ZcC (refS n) x b q).1.vars∧sameP (armP x (Zaf b) p).2 (ZcC (refS n) x b q).2:=by
    intro i p q hp' hq
    obtain ⟨g1,g2⟩:=h7 i p q hp' hq
    have hm:=Zca (List.mem_of_getElem? hp')
    have hbs:sameP p.2 q.2:=h8 (e.kids.length+i) p.2 q.2 (Zcp hp') (by rw [h5];exact Zcp hq)
    have ha:=Zli (n:=n) (x:=x) (con:=p.1.con) (b:=b) (e:=p.2) (e':=q.2) (hc.one p (List.mem_of_getElem? hp')) (hp.one p (List.mem_of_getElem? hp'))
    unfold armP ZcC
    rw [←g2]
    by_cases hx:x∈p.1.vars
    ·rw [if_pos hx,if_pos hx]
     exact ⟨g1,g2,hbs⟩
    ·rw [if_neg hx,if_neg hx]
     have:=ha hx (hs.child hm) (hp.child hm) (by have:=Exp.child_lt hm;omega) hbs p.1.vars.length (Nat.le_refl _)
     rw [g1] at this
     exact ⟨g1,this⟩
   refine Za7.2 ⟨⟨h1,h2,h3,h4,h5,by simp only [ZcZ,List.length_map];exact h6,fun i p q hp' hq => ?_⟩,fun i y z hy hz => ?_⟩
   ·rw [ZcZ,List.getElem?_map] at hp' hq
    obtain ⟨p0,hp0,rfl⟩:=Option.map_eq_some_iff.1 hp'
    obtain ⟨q0,hq0,rfl⟩:=Option.map_eq_some_iff.1 hq
    exact ⟨(harm i p0 q0 hp0 hq0).1,(harm i p0 q0 hp0 hq0).2.1⟩
   ·rw [ZaH] at hy hz
    by_cases hi:i<e.kids.length
    ·rw [List.getElem?_append_left hi] at hy
     rw [List.getElem?_append_left (by omega)] at hz
     refine h8 i y z ?_ ?_
     ·unfold Exp.children
      rw [List.getElem?_append_left hi]
      exact hy
     ·unfold Exp.children
      rw [List.getElem?_append_left (by omega)]
      exact hz
    ·rw [List.getElem?_append_right (by omega),List.getElem?_map,List.getElem?_map] at hy
     rw [List.getElem?_append_right (by omega),List.getElem?_map,List.getElem?_map,←h5] at hz
     cases hp0:e.arms[i-e.kids.length]? with
     | none=>rw [hp0] at hy;simp at hy
     | some p0 =>
      obtain ⟨q0,hq0⟩:=Zaa (l:=e'.arms) (i:=i-e.kids.length) (by have:=(List.getElem?_eq_some_iff.1 hp0).1;omega)
      rw [hp0] at hy
      rw [hq0] at hz
      simp only [Option.map_some,Option.some.injEq] at hy hz
      subst hy
      subst hz
      exact (harm _ p0 q0 hp0 hq0).2.2
  ·rw [if_neg k8,if_neg (fun q=>k8 (h1.trans q))]
   exact h
theorem ZkU (x:Str)(b:Exp):∀ (n:Nat) (e e':Exp),sameP e e'→e.weight≤n→shp e→properP e→conV e→sameP (subN n e x b) (refS n e' x b)
 | 0,e,_,_,h,_,_,_=>by have:=e.weight_pos;omega
 | n+1,e,e',h,hn,hs,hp,hc=>by
  obtain ⟨⟨h1,h2,_⟩,_⟩:=Za7.1 h
  rw [ZeP,ZcF]
  by_cases hk:e.kind=1
  ·rw [if_pos hk,if_pos (h1.symm.trans hk),←h2]
   split
   ·exact ZfL b
   ·exact h
  ·rw [if_neg hk,if_neg (fun q=>hk (h1.trans q))]
   have hP:=Ziq (x:=x) (b:=b) hs hp
   have hC:=ZoH (x:=x) (free:=Zaf b) hs hc
   have hS:=ZmN (n:=n) (x:=x) (b:=b) h hs hp hc hn
   generalize ZcM x (Zaf b) e=d at *
   generalize ZdL (refS n) x b e'=d' at *
   refine ZjP (subC_len _ _ _ _) (refC_len _ _ _ _) (Za7.1 hS).1 fun i y z hy hz => ?_
   obtain ⟨x1,hx1⟩:=Zaa (l:=d.children) (i:=i) (by rw [d.children_len,←subC_len n d x b];exact (List.getElem?_eq_some_iff.1 hy).1)
   obtain ⟨y1,hy1,hsm⟩:=hS.kid hx1
   obtain ⟨x0,hx0⟩:=Zaa (l:=e.children) (i:=i) (by rw [←Zco hP];exact (List.getElem?_eq_some_iff.1 hx1).1)
   have hK:=hP.kids i x0 x1 hx0 hx1
   rw [ZeM hx1] at hy
   rw [Ze4 hy1,←Zee hS] at hz
   cases hy
   cases hz
   by_cases hb:x∈d.bound i
   ·rw [if_pos hb,if_pos hb]
    exact hsm
   ·rw [if_neg hb,if_neg hb]
    exact ZkU x b n x1 y1 hsm (by have:=Exp.child_lt (List.mem_of_getElem? hx0);have:=hK.weight;omega) hK.shape hK.proper (hC x1 (List.mem_of_getElem? hx1))
end Go.Vs.Tryz
namespace Go.Vs
theorem ZpC {C:Ctx}{a b c d:VCode}{Q:Ex→St→Prop}{s:St}(s1:St)(h1:wp C (.seq a b) (fun e s=>e=.normal∧s=s1) s)(h2:wp C (.seq c d) Q s1):wp C (.seq a (.seq (.seq b c) d)) Q s:=by
 rw [wp_seq] at h1 ⊢
 refine wp_mono h1 ?_
 intro e s' h
 cases e with
 | normal =>
  simp only [ZfD] at h ⊢
  rw [wp_seq,wp_seq]
  refine wp_mono h ?_
  rintro e2 s2 ⟨rfl,rfl⟩
  simp only [ZfD]
  rw [wp_seq] at h2
  exact h2
 | exit i=>exact absurd h.1 (by simp)
 | ret=>exact absurd h.1 (by simp)
end Go.Vs
namespace Go.Vs.Tryz
open Go Go.Vs
variable {A:Zac}
def allA (e:Exp)(out:List Str)(i:Nat):List Str:=out++(if e.name=[] then [] else [e.name])++((e.arms.take i).map fun a=>a.1.vars).flatten
def allC (e:Exp)(out:List Str)(i:Nat):List Str:=allA e out e.arms.length++((e.children.take i).map ZbK).flatten
theorem Zi4 {e:Exp}{out:List Str}{i:Nat}{a:ArmH × Exp}(h:e.arms[i]?=some a):allA e out (i+1)=allA e out i++a.1.vars:=by
 unfold allA
 rw [Zat h]
 simp
theorem Zgt {e x:Exp}{out:List Str}{i:Nat}(h:e.children[i]?=some x):allC e out (i+1)=allC e out i++ZbK x:=by
 unfold allC
 rw [Zat h]
 simp
theorem Zlw (e:Exp)(out:List Str):allC e out e.children.length=out++ZbK e:=by
 unfold allC allA
 rw [List.take_length,List.take_length,ZiK]
 simp
theorem ZdD (e:Exp):(ZbK e).length≤e.weight:=by
 induction e using Exp.ind with
 | h e ih =>
  have h1:((e.children.map ZbK).flatten).length≤(e.children.map Exp.weight).sum:=by
   generalize e.children=l at ih
   induction l with
   | nil=>simp
   | cons x l ihl =>
    have:=ih x (by simp)
    have:=ihl fun y hy=>ih y (by simp [hy])
    simp only [List.map_cons,List.flatten_cons,List.length_append,List.sum_cons]
    omega
  have h2:((e.arms.map fun a=>a.1.vars).flatten).length=(e.arms.map fun a=>a.1.vars.length).sum:=by
   simp [List.length_flatten]
   congr 1
  have h3:(if e.name=[] then [] else [e.name]).length≤1:=by split<;>simp
  rw [ZiK,List.length_append,List.length_append,h2,e.weight_eq]
  omega
theorem Ztq {e:Exp}{out:List Str}{i j:Nat}(h:i≤j):(allA e out i).length≤(allA e out j).length:=by
 obtain ⟨k,rfl⟩:=Nat.exists_eq_add_of_le h
 induction k with
 | zero=>exact Nat.le_refl _
 | succ k ih =>
  refine Nat.le_trans (ih (by omega)) ?_
  by_cases hk:i+k<e.arms.length
  ·obtain ⟨a,ha⟩:=Zaa hk
   rw [←Nat.add_assoc,Zi4 ha,List.length_append]
   omega
  ·unfold allA
   rw [List.take_of_length_le (by omega),List.take_of_length_le (by omega)]
   exact Nat.le_refl _
theorem Zof {e:Exp}{out:List Str}{i j:Nat}(h:i≤j):(allC e out i).length≤(allC e out j).length:=by
 obtain ⟨k,rfl⟩:=Nat.exists_eq_add_of_le h
 induction k with
 | zero=>exact Nat.le_refl _
 | succ k ih =>
  refine Nat.le_trans (ih (by omega)) ?_
  by_cases hk:i+k<e.children.length
  ·obtain ⟨a,ha⟩:=Zaa hk
   rw [←Nat.add_assoc,Zgt ha,List.length_append]
   omega
  ·unfold allC
   rw [List.take_of_length_le (by omega),List.take_of_length_le (by omega)]
   exact Nat.le_refl _
theorem Zfn (e:Exp)(out:List Str){i:Nat}(h:i≤e.children.length):(allC e out i).length≤out.length+e.weight:=by
 refine Nat.le_trans (Zof h) ?_
 have:=ZdD e
 rw [Zlw,List.length_append]
 omega
theorem Zra (e:Exp)(out:List Str):∀ i,i≤e.children.length→(allC e out i).length≤out.length+1+(e.arms.map fun a=>a.1.vars.length).sum+((e.children.take i).map Exp.weight).sum
 | 0,_=>by
  have h2:((e.arms.map fun a=>a.1.vars).flatten).length=(e.arms.map fun a=>a.1.vars.length).sum:=by
   simp [List.length_flatten]
   congr 1
  have h3:(if e.name=[] then [] else [e.name]).length≤1:=by split<;>simp
  unfold allC allA
  simp only [List.take_length,List.take_zero,List.map_nil,List.flatten_nil,List.append_nil,List.length_append,h2,List.sum_nil]
  omega
 | i+1,hi=>by
  obtain ⟨x,hx⟩:=Zaa (l:=e.children) (i:=i) (by omega)
  have h1:=Zra e out i (by omega)
  have h2:=ZdD x
  rw [Zgt hx,Zat hx,List.map_append,List.sum_append,List.length_append]
  simp only [List.map_cons,List.map_nil,List.sum_cons,List.sum_nil]
  omega
theorem Zpv {e x:Exp}(out:List Str){i:Nat}(hx:e.children[i]?=some x):(allC e out i).length+x.weight≤out.length+e.weight:=by
 have hi:=(List.getElem?_eq_some_iff.1 hx).1
 have h1:=Zra e out i (by omega)
 have h2:=Zg5 (e:=e) (i:=i+1)
 rw [Zat hx,List.map_append,List.sum_append] at h2
 simp only [List.map_cons,List.map_nil,List.sum_cons,List.sum_nil] at h2
 rw [e.weight_eq]
 omega
theorem Zhq (e:Exp)(out:List Str){i:Nat}(h:i≤e.arms.length):(allA e out i).length≤out.length+e.weight:=by
 refine Nat.le_trans (Ztq h) ?_
 have h1:=Zfn e out (Nat.zero_le e.children.length)
 have h2:allC e out 0=allA e out e.arms.length:=by unfold allC;simp
 rw [h2] at h1
 exact h1
theorem all148 (e:Exp):∀ (out:List Str),out.length+e.weight≤1073741824 →
 (K A).call 148 [.sc (.arr 0 out.length),expV e] [.arr 1 (wr (Zag out)) 0]=some (.sc (.arr 0 (out++ZbK e).length),[.arr 1 (wr (Zag (out++ZbK e))) 0]):=by
 induction e using Exp.ind with
 | h e ih =>
 intro out hl
 refine Zan (vf:=v148) (by kernel_rfl) rfl (by simp) ?_
 have hle:=e.children_le
 have hc:=ZcE (A:=A) e (by rw [e.children_len] at hle;omega)
 have hwp:=e.weight_pos
 have hb0:=Zhq e out (Nat.zero_le _)
 unfold v148
 refine Zex ⟨[(0,.sc (.arr 0 out.length)),(3,.sc (.ptr 64 0))],[(0,some (.arr 1 (wr (Zag out)) 0)),(64,some (.box (wc e.row)))]⟩ (by simp) ?_
 refine ZpC ⟨[(0,.sc (.arr 0 (allA e out 0).length)),(3,.sc (.ptr 64 0)),(5,intV 0)],[(0,some (.arr 1 (wr (Zag (allA e out 0))) 0)),(64,some (.box (wc e.row)))]⟩ ?_ ?_
 ·by_cases h0:e.name=[]
  ·have h1:allA e out 0=out:=by unfold allA;simp [h0]
   rw [h1]
   simp (disch:=first|omega|(simp;done)|(simp;omega)) [h0]
  ·have h1:allA e out 0=out++[e.name]:=by unfold allA;simp [h0]
   rw [h1]
   simp (disch:=first|omega|(simp;done)|(simp;omega)) [h0]
 ·simp (disch:=first|omega|(simp;done)|(simp;omega))
  refine Zaz (fun i=>⟨[(0,.sc (.arr 0 (allA e out i).length)),(3,.sc (.ptr 64 0)),(5,intV i)],[(0,some (.arr 1 (wr (Zag (allA e out i))) 0)),(64,some (.box (wc e.row)))]⟩) e.arms.length ?_ ?_ ?_
  ·simp
  ·intro i hi
   obtain ⟨a,ha⟩:=Zaa hi
   have hb:=Zhq e out (i:=i+1) (by omega)
   have hs:=Zi4 (out:=out) ha
   rw [hs] at hb ⊢
   generalize allA e out i=l at *
   rw [List.length_append] at hb
   have hi2:(i:Int)<e.arms.length:=by omega
   have hi3:i<1073741824:=by rw [e.children_len] at hle;omega
   unfold Zph
   simp (disch:=first|omega|(simp;done)|(simp;omega)) [hi,hi2,ha,-getElem?_pos]
  ·have h0:allA e out e.arms.length=allC e out 0:=by unfold allC;simp
   rw [h0]
   unfold Zph
   simp (disch:=first|omega|(simp;done)|(simp;omega)) [hc]
   refine Zaz (fun i=>⟨[(0,.sc (.arr 0 (allC e out i).length)),(6,.sc (.arr 2016 e.children.length)),(7,intV i)],[(0,some (.arr 1 (wr (Zag (allC e out i))) 0)),(2016,some (.arr 11 (wr (Exp.rows e.children)) 0))]⟩) e.children.length ?_ ?_ ?_
   ·simp
   ·intro i hi
    obtain ⟨x,hx⟩:=Zaa hi
    have hm:=List.mem_of_getElem? hx
    have hb:=Zfn e out (i:=i+1) (by omega)
    have hs:=Zgt (out:=out) hx
    have hbi:=Zfn e out (i:=i) (by omega)
    have hrec:=ih x hm (allC e out i) (by have:=Zpv out hx;omega)
    rw [←hs] at hrec
    have hlen:(allC e out i).length≤(allC e out (i+1)).length:=Zof (by omega)
    have hi2:(i:Int)<(e.kids.length:Int)+e.arms.length:=by rw [e.children_len] at hi;omega
    have hi3:i<1073741824:=by omega
    unfold ZnU
    simp (disch:=first|omega|(simp;done)|(simp;omega)) [hi,hi2,hx,hrec,hlen,-getElem?_pos]
   ·rw [Zlw]
    unfold ZnU
    simp (disch:=first|omega|(simp;done)|(simp;omega))
theorem Ztg (e:Exp)(hl:e.weight≤1073741824):(K A).call 89 [expV e] []=some (Za3 (ZbK e),[]):=by
 refine Zan (vf:=v89) (by kernel_rfl) rfl (by simp) ?_
 have h:=all148 (A:=A) e [] (by simpa using hl)
 have hn:Zag []=[]:=rfl
 simp [hn] at h
 unfold v89
 simp [h,hn]
theorem Zis (taken:List Str)(ht:taken.length≤1000000):(K A).call 88 [Za3 taken] []=some (strV (ZaK 0 taken),[]):=by
 refine Zan (vf:=v88) (by kernel_rfl) rfl (by simp) ?_
 have h:(K A).call 29 [intV 0,Za3 taken] []=some (strV (ZaK 0 taken),[]):=ZsX 0 taken (by omega) ht
 unfold v88
 simp [h]
theorem Zj8 (n x:Str)(b s:Exp)(hb:b.wf)(hs:s.wf)(hbl:b.weight≤1073741824)(hsl:s.weight≤1073741824):(K A).call 87 [strV n,strV x,expV b,expV s] []=some (Zah (decide (n∈Zaf b∧x∈Zaf s)),[]):=by
 refine Zan (vf:=v87) (by kernel_rfl) rfl (by simp) ?_
 have h1:=Zi3 (A:=A) b hb hbl
 have h2:=Zi3 (A:=A) s hs hsl
 rw [ZdZ b hb] at h1
 rw [ZdZ s hs] at h2
 have l1:(Zaf b).length≤1073741824:=by have:=ZbY b;omega
 have l2:(Zaf s).length≤1073741824:=by have:=ZbY s;omega
 have g1:=ZjV (A:=A) (Zaf b) n (by omega)
 have g2:=ZjV (A:=A) (Zaf s) x (by omega)
 generalize Zaf b=P at *
 generalize Zaf s=Q at *
 unfold v87
 by_cases q1:n∈P
 ·by_cases q2:x∈Q
  ·simp (disch:=first|omega|(simp;done)|(simp;omega)) [h1,h2,g1,g2,q1,q2,-getElem?_pos]
  ·simp (disch:=first|omega|(simp;done)|(simp;omega)) [h1,h2,g1,g2,q1,q2,-getElem?_pos]
 ·simp (disch:=first|omega|(simp;done)|(simp;omega)) [h1,h2,g1,g2,q1,-getElem?_pos]
end Go.Vs.Tryz
