/- Substitution as the program does it: renaming by a name that does not occur (plain). (Parts of one proof, put together.) -/
import Derived.Test.YtlcncicmkkelcaaGreatDoorR7a
import Derived.Test.YtlcncicmkkelcaaGreatDoorRFa
set_option linter.unusedSimpArgs false
set_option linter.unusedVariables false
set_option linter.deprecated false
set_option maxHeartbeats 8000000
set_option maxRecDepth 10000
namespace Go.Vs.Tryz
open Go Go.Vs
def Zcc (e:Exp)(cs:List Exp):Exp:=.mk e.kind e.pos e.name e.num (cs.take e.kids.length) (Za5 e.arms (cs.drop e.kids.length)) e.ty
theorem Zbo {e:Exp}{cs:List Exp}(h:cs.length=e.kids.length+e.arms.length) :
 (Zcc e cs).kids.length=e.kids.length∧(Zcc e cs).arms.length=e.arms.length∧(Zcc e cs).children=cs∧(∀ i:Nat,((Zcc e cs).arms[i]?).map (·.1)=(e.arms[i]?).map (·.1)):=by
 have hal:(Za5 e.arms (cs.drop e.kids.length)).length=e.arms.length:=by rw [armsW_len,List.length_drop];omega
 refine ⟨?_,hal,?_,fun i => ?_⟩
 ·show (cs.take e.kids.length).length=_
  rw [List.length_take]
  omega
 ·show cs.take e.kids.length++(Za5 e.arms (cs.drop e.kids.length)).map (·.2)=cs
  have:(Za5 e.arms (cs.drop e.kids.length)).map (·.2)=cs.drop e.kids.length:=by
   unfold Za5
   exact Zoh (by rw [List.length_drop];omega) _ fun _ _=>rfl
  rw [this,List.take_append_drop]
 ·show ((Za5 e.arms (cs.drop e.kids.length))[i]?).map (·.1)=_
  unfold Za5
  rw [List.getElem?_zipWith]
  cases ha:e.arms[i]? with
  | none=>rfl
  | some a =>
   obtain ⟨c,hc⟩:=Zaa (l:=cs.drop e.kids.length) (i:=i) (by have:=(List.getElem?_eq_some_iff.1 ha).1;rw [List.length_drop];omega)
   rw [hc]
   rfl
theorem Zev {e:Exp}{cs:List Exp}(h:cs.length=e.kids.length+e.arms.length)(i:Nat):(Zcc e cs).bound i=e.bound i:=by
 have h4:=(Zbo h).2.2.2 (i-1)
 rw [ZaH,ZaH]
 have k:(Zcc e cs).kind=e.kind:=rfl
 have n:(Zcc e cs).name=e.name:=rfl
 rw [k,n]
 cases h1:e.arms[i-1]? with
 | none =>
  rw [h1] at h4
  cases h2:(Zcc e cs).arms[i-1]? with
  | none=>rfl
  | some b=>rw [h2] at h4;simp at h4
 | some a =>
  rw [h1] at h4
  cases h2:(Zcc e cs).arms[i-1]? with
  | none=>rw [h2] at h4;simp at h4
  | some b =>
   rw [h2] at h4
   simp only [Option.map_some,Option.some.injEq] at h4
   simp only [Option.map_some,Option.getD_some,h4]
theorem ZgU {e:Exp}{cs:List Exp}(h:cs.length=e.kids.length+e.arms.length):headEq e (Zcc e cs)∧ZbZ e (Zcc e cs):=by
 obtain ⟨h1,h2,h3,h4⟩:=Zbo h
 refine ⟨⟨rfl,rfl,rfl,h1.symm,h2.symm⟩,fun i p q hp hq => ?_⟩
 have:=h4 i
 rw [hp,hq] at this
 simp only [Option.map_some,Option.some.injEq] at this
 rw [this]
 exact ⟨rfl,rfl⟩
theorem ZkS {e:Exp}{cs:List Exp}(h:cs.length=e.kids.length+e.arms.length)(hk:e.kind≠1)(hs:shp1 e)(hc:∀ c∈cs,shp c):shp (Zcc e cs):=by
 rw [Ze2]
 exact ⟨(ZgU h).1.shp1 hk hs,by rw [(Zbo h).2.2.1];exact hc⟩
theorem ZgK {e:Exp}{cs:List Exp}(h:cs.length=e.kids.length+e.arms.length):(Zcc e cs).weight=1+(e.arms.map fun a=>a.1.vars.length).sum+(cs.map Exp.weight).sum:=by
 obtain ⟨h1,h2,h3,h4⟩:=Zbo h
 rw [Exp.weight_eq,h3]
 congr 2
 congr 1
 refine List.ext_getElem? fun i => ?_
 have:=h4 i
 rw [List.getElem?_map,List.getElem?_map]
 cases hp:(Zcc e cs).arms[i]?<;>cases hq:e.arms[i]?<;>rw [hp,hq] at this<;>simp at this
 simp only [Option.map_some,this]
def allF (e:Exp)(l:List (List Str)):List Str:=e.name::(l.zipIdx.map fun p=>e.bound p.2++p.1).flatten
def allP (e:Exp):List Str:=e.fold allF
theorem ZoC (e:Exp):allP e=e.name::((e.children.map allP).zipIdx.map fun p=>e.bound p.2++p.1).flatten:=Exp.fold_eq _ e
theorem Zat {e:Exp}{s:Str}:s∈allP e↔s=e.name∨∃ (i:Nat) (x:Exp),e.children[i]?=some x∧(s∈e.bound i∨s∈allP x):=by
 rw [ZoC,List.mem_cons]
 refine or_congr_right ?_
 rw [List.mem_flatten]
 constructor
 ·rintro ⟨l,hl,hs⟩
  obtain ⟨⟨m,i⟩,hp,rfl⟩:=List.mem_map.1 hl
  have hm:=List.mem_zipIdx_iff_getElem?.1 hp
  simp only [List.getElem?_map] at hm
  obtain ⟨x,hx,rfl⟩:=Option.map_eq_some_iff.1 hm
  exact ⟨i,x,hx,List.mem_append.1 hs⟩
 ·rintro ⟨i,x,hx,hs⟩
  refine ⟨e.bound i++allP x,List.mem_map.2 ⟨(allP x,i),List.mem_zipIdx_iff_getElem?.2 ?_,rfl⟩,List.mem_append.2 hs⟩
  simp [hx]
theorem Zhe (e:Exp):∀ s∈Zag e,s∈allP e:=by
 induction e using Exp.ind with
 | h e ih =>
  intro s hs
  by_cases hk:e.kind=1
  ·rw [ZbC hk] at hs
   exact Zat.2 (.inl hs)
  ·obtain ⟨i,x,hx,h1,_⟩:=(Zcn hk).1 hs
   exact Zat.2 (.inr ⟨i,x,hx,.inr (ih x (List.mem_of_getElem? hx) s h1)⟩)
def ZpW (frm to:Str)(e:Exp)(l:List Exp):Exp :=
 if e.kind=1 then (if e.name=frm then .mk e.kind e.pos to e.num e.kids e.arms e.ty else e)
 else Zcc e ((e.children.zip l).zipIdx.map fun p=>if frm∈e.bound p.2 then p.1.1 else p.1.2)
def repl (frm to:Str)(e:Exp):Exp:=e.fold (ZpW frm to)
def ZeI (frm to:Str)(e:Exp):List Exp:=e.children.zipIdx.map fun p=>if frm∈e.bound p.2 then p.1 else repl frm to p.1
@[simp] theorem replC_len (frm to:Str) (e:Exp):(ZeI frm to e).length=e.kids.length+e.arms.length:=by simp [ZeI]
theorem ZcN {frm to:Str}{e x:Exp}{i:Nat}(h:e.children[i]?=some x):(ZeI frm to e)[i]?=some (if frm∈e.bound i then x else repl frm to x):=by
 simp [ZeI,h]
theorem Zet {frm to:Str}{e:Exp}(h:e.kind=1):repl frm to e=if e.name=frm then .mk e.kind e.pos to e.num e.kids e.arms e.ty else e:=by
 unfold repl
 rw [Exp.fold_eq,ZpW,if_pos h]
theorem ZfU {frm to:Str}{e:Exp}(h:e.kind≠1):repl frm to e=Zcc e (ZeI frm to e):=by
 unfold repl
 rw [Exp.fold_eq,ZpW,if_neg h]
 congr 1
 refine List.ext_getElem? fun i => ?_
 rw [List.getElem?_map,List.getElem?_zipIdx]
 by_cases hi:i<e.children.length
 ·obtain ⟨x,hx⟩:=Zaa hi
  have hz:(e.children.zip (e.children.map (Exp.fold (ZpW frm to))))[i]?=some (x,repl frm to x):=by
   rw [List.getElem?_zip_eq_some]
   exact ⟨hx,by rw [List.getElem?_map,hx];rfl⟩
  rw [hz,ZcN hx]
  simp
 ·rw [List.getElem?_eq_none (by rw [List.length_zip,List.length_map];omega),List.getElem?_eq_none (by rw [replC_len,←e.children_len];omega)]
  rfl
theorem Zg4 (frm to:Str)(e:Exp):(repl frm to e).weight=e.weight:=by
 induction e using Exp.ind with
 | h e ih =>
  by_cases hk:e.kind=1
  ·rw [Zet hk]
   split
   ·rw [Exp.weight_eq,e.weight_eq]
    rfl
   ·rfl
  ·rw [ZfU hk,ZgK (replC_len _ _ _),e.weight_eq]
   congr 1
   congr 1
   refine List.ext_getElem? fun i => ?_
   rw [List.getElem?_map,List.getElem?_map]
   by_cases hi:i<e.children.length
   ·obtain ⟨x,hx⟩:=Zaa hi
    rw [ZcN hx,hx]
    simp only [Option.map_some]
    split
    ·rfl
    ·rw [ih x (List.mem_of_getElem? hx)]
   ·rw [List.getElem?_eq_none (by rw [replC_len,←e.children_len];omega),List.getElem?_eq_none (by omega)]
theorem Zlm (frm to:Str)(e:Exp):shp e→shp (repl frm to e):=by
 induction e using Exp.ind with
 | h e ih =>
  intro hs
  by_cases hk:e.kind=1
  ·rw [Zet hk]
   split
   ·rw [Ze2]
    exact ⟨hs.one,fun x hx=>hs.child hx⟩
   ·exact hs
  ·rw [ZfU hk]
   refine ZkS (replC_len _ _ _) hk hs.one fun c hc => ?_
   obtain ⟨i,hi⟩:=List.mem_iff_getElem?.1 hc
   obtain ⟨x,hx⟩:=Zaa (l:=e.children) (i:=i) (by have:=(List.getElem?_eq_some_iff.1 hi).1;rw [replC_len,←e.children_len] at this;exact this)
   rw [ZcN hx] at hi
   cases hi
   have hm:=List.mem_of_getElem? hx
   split
   ·exact hs.child hm
   ·exact ih x hm (hs.child hm)
def renV (frm to:Str):Rep:=ofR fun s t=>t=if s=frm then to else s
theorem Zg7 (frm to:Str)(e:Exp):shp e→to∉allP e→instR e (repl frm to e) (renV frm to):=by
 induction e using Exp.ind with
 | h e ih =>
  intro hs hn
  by_cases hk:e.kind=1
  ·obtain ⟨a1,a2,a3⟩:=ZcL hs.one.1 hk
   obtain ⟨n,t⟩:=hs.one.2.1 hk
   rw [Zet hk]
   refine .mkVar hk ?_
   by_cases hf:e.name=frm
   ·rw [if_pos hf]
    exact ⟨to,(if_pos hf).symm,hk,rfl,n,t,a1,a2⟩
   ·rw [if_neg hf]
    exact ⟨e.name,(if_neg hf).symm,hk,rfl,n,t,a1,a2⟩
  ·rw [ZfU hk]
   obtain ⟨h1,h2⟩:=ZgU (replC_len frm to e)
   refine .mk hk ⟨h1,fun _=>rfl,h2,fun i x y hx hy => ?_⟩
   rw [(Zbo (replC_len frm to e)).2.2.1,ZcN hx] at hy
   cases hy
   rw [Zev (replC_len frm to e)]
   have hm:=List.mem_of_getElem? hx
   have hnb:to∉e.bound i:=fun h=>hn (Zat.2 (.inr ⟨i,x,hx,.inl h⟩))
   have hnx:to∉allP x:=fun h=>hn (Zat.2 (.inr ⟨i,x,hx,.inr h⟩))
   by_cases hf:frm∈e.bound i
   ·rw [if_pos hf]
    refine .refl x _ (hs.child hm) fun s hsx c hc => ?_
    by_cases hb:s∈e.bound i
    ·exact .inl ⟨hb,s,hb,rfl,hc⟩
    ·refine .inr ⟨hb,⟨s,?_,hc⟩,fun u hu => ?_⟩
     ·exact (if_neg (fun h:s=frm=>hb (h.symm▸hf))).symm
     ·rw [hc.free,List.mem_singleton] at hu
      exact hu▸hb
   ·rw [if_neg hf]
    refine (ih x hm (hs.child hm) hnx).mono _ _ _ _ fun s hsx d hd => ?_
    obtain ⟨t,ht,hv⟩:=hd
    by_cases hb:s∈e.bound i
    ·rw [if_neg (fun h:s=frm=>hf (h▸hb))] at ht
     exact .inl ⟨hb,s,hb,rfl,ht▸hv⟩
    ·refine .inr ⟨hb,⟨t,ht,hv⟩,fun u hu => ?_⟩
     rw [hv.free,List.mem_singleton] at hu
     subst hu
     by_cases h:s=frm
     ·rw [if_pos h] at ht
      exact ht▸hnb
     ·rw [if_neg h] at ht
      exact ht▸hb
theorem Znv {frm to:Str}{e:Exp}(hs:shp e)(hn:to∉allP e)(u:Str):u∈Zag (repl frm to e)↔∃ s∈Zag e,u=if s=frm then to else s:=by
 have h:=Zg7 frm to e hs hn
 constructor
 ·intro hu
  obtain ⟨s,h1,d,⟨t,ht,hv⟩,h3⟩:=instR.free_from e _ _ hs.one (fun x hx=>hs.child hx) h u hu
  rw [hv.free,List.mem_singleton] at h3
  exact ⟨s,h1,h3.trans ht⟩
 ·rintro ⟨s,h1,rfl⟩
  obtain ⟨d,⟨t,ht,hv⟩,h3⟩:=instR.free_to e _ _ h s h1
  exact h3 _ (by rw [hv.free,ht];simp)
def hitP (x:Str)(free:List Str)(n:Str)(inside:List Exp):Prop:=n∈free∧∃ e∈inside,x∈Zag e
instance (x:Str) (free:List Str) (n:Str) (inside:List Exp):Decidable (hitP x free n inside):=inferInstanceAs (Decidable (_∧_))
def ZaV (e:Exp):Nat:=if e.kind=6 then 1 else 0
def ZcP (x:Str)(free:List Str)(e:Exp):Exp :=
 if e.name=x∨e.kids.length≤ZaV e∨¬hitP x free e.name (e.kids.drop (ZaV e)) then e else
  .mk e.kind e.pos (ZaX 0 (allP e++free++[x])) e.num (e.kids.zipIdx.map fun p=>if p.2<ZaV e then p.1 else repl e.name (ZaX 0 (allP e++free++[x])) p.1) e.arms e.ty
def ZeK (x:Str)(free:List Str)(p:List Str × Exp)(i:Nat):List Str × Exp:=match p.1[i]? with
 | none=>p
 | some v=>if v∈p.1.drop (i+1)∨¬hitP x free v [p.2] then p else (p.1.set i (ZaX 0 (allP p.2++p.1++free++[x])),repl v (ZaX 0 (allP p.2++p.1++free++[x])) p.2)
def ZeT (x:Str)(free:List Str)(vs:List Str)(b:Exp)(k:Nat):List Str × Exp:=(List.range k).foldl (ZeK x free) (vs,b)
theorem ZfM (x:Str)(free vs:List Str)(b:Exp)(k:Nat):ZeT x free vs b (k+1)=ZeK x free (ZeT x free vs b k) k:=by
 unfold ZeT
 rw [List.range_succ,List.foldl_append]
 rfl
def armP (x:Str)(free:List Str)(a:ArmH × Exp):ArmH × Exp :=
 if x∈a.1.vars then a else (⟨a.1.pos,a.1.con,(ZeT x free a.1.vars a.2 a.1.vars.length).1⟩,(ZeT x free a.1.vars a.2 a.1.vars.length).2)
def ZcQ (x:Str)(free:List Str)(e:Exp):Exp :=
 if e.kind=4∨e.kind=6∨e.kind=7 then ZcP x free e else if e.kind=8 then .mk e.kind e.pos e.name e.num e.kids (e.arms.map (armP x free)) e.ty else e
def subN:Nat→Exp→Str→Exp→Exp
 | 0,e,_,_=>e
 | n+1,e,x,b=>if e.kind=1 then (if e.name=x then b else e) else
  Zcc (ZcQ x (Zag b) e) ((ZcQ x (Zag b) e).children.zipIdx.map fun p=>if x∈(ZcQ x (Zag b) e).bound p.2 then p.1 else subN n p.1 x b)
def subC (n:Nat)(e:Exp)(x:Str)(b:Exp):List Exp:=e.children.zipIdx.map fun p=>if x∈e.bound p.2 then p.1 else subN n p.1 x b
@[simp] theorem subC_len (n:Nat) (e:Exp) (x:Str) (b:Exp):(subC n e x b).length=e.kids.length+e.arms.length:=by simp [subC]
theorem ZdD {n:Nat}{e y:Exp}{x:Str}{b:Exp}{i:Nat}(h:e.children[i]?=some y):(subC n e x b)[i]?=some (if x∈e.bound i then y else subN n y x b):=by
 simp [subC,h]
theorem Zdf (n:Nat)(e:Exp)(x:Str)(b:Exp):subN (n+1) e x b=if e.kind=1 then (if e.name=x then b else e) else Zcc (ZcQ x (Zag b) e) (subC n (ZcQ x (Zag b) e) x b):=rfl
def inj (l:List Str):Prop:=∀ (i j:Nat) s,l[i]?=some s→l[j]?=some s→i=j
def properP (e:Exp):Prop:=e.fold fun e l=>(∀ a∈e.arms,inj a.1.vars)∧∀ p∈l,p
theorem Zby (e:Exp):properP e=((∀ a∈e.arms,inj a.1.vars)∧∀ x∈e.children,properP x):=by
 have:=Exp.fold_eq (fun e (l:List Prop)=>(∀ a∈e.arms,inj a.1.vars)∧∀ p∈l,p) e
 unfold properP
 rw [this]
 simp only [List.forall_mem_map]
theorem properP.one {e:Exp}(h:properP e):∀ a∈e.arms,inj a.1.vars:=by rw [Zby] at h;exact h.1
theorem properP.child {e x:Exp}(h:properP e)(hx:x∈e.children):properP x:=by rw [Zby] at h;exact h.2 x hx
theorem Zjd {e c:Exp}(h:∀ i:Nat,(c.arms[i]?).map (·.1)=(e.arms[i]?).map (·.1))(he:∀ a∈e.arms,inj a.1.vars):∀ a∈c.arms,inj a.1.vars:=by
 intro a ha
 obtain ⟨i,hi⟩:=List.mem_iff_getElem?.1 ha
 have:=h i
 rw [hi] at this
 cases hq:e.arms[i]? with
 | none=>rw [hq] at this;simp at this
 | some q =>
  rw [hq] at this
  simp only [Option.map_some,Option.some.injEq] at this
  rw [this]
  exact he q (List.mem_of_getElem? hq)
theorem Zhj (frm to:Str)(e:Exp):e.wf→properP e→properP (repl frm to e):=by
 induction e using Exp.ind with
 | h e ih =>
  intro hw h
  by_cases hk:e.kind=1
  ·rw [Zet hk]
   split
   ·rw [Zby]
    exact ⟨h.one,fun x hx=>h.child hx⟩
   ·exact h
  ·rw [ZfU hk,Zby]
   obtain ⟨_,_,h3,h4⟩:=Zbo (replC_len frm to e)
   refine ⟨Zjd h4 h.one,fun c hc => ?_⟩
   rw [h3] at hc
   obtain ⟨i,hi⟩:=List.mem_iff_getElem?.1 hc
   obtain ⟨x,hx⟩:=Zaa (l:=e.children) (i:=i) (by have:=(List.getElem?_eq_some_iff.1 hi).1;rw [replC_len,←e.children_len] at this;exact this)
   rw [ZcN hx] at hi
   cases hi
   have hm:=List.mem_of_getElem? hx
   split
   ·exact h.child hm
   ·exact ih x hm (hw.child hm) (h.child hm)
def subV (x:Str)(b:Exp):Rep:=fun s c=>if s=x then c=b else isVar s c
theorem Zoa {x:Str}{b:Exp}(h:shp b):(subV x b).ok:=by
 intro s c hc
 unfold subV at hc
 split at hc
 ·exact hc▸h
 ·exact hc.shp
theorem Zbj {s:Str}{c:Exp}:idV s c↔isVar s c:=⟨fun ⟨_,h,hv⟩=>h▸hv,fun h=>⟨s,rfl,h⟩⟩
theorem id_ok:idV.ok:=fun _ _ h=>(Zbj.1 h).shp
theorem Zmk {x0 x1 y b:Exp}{x:Str}{bs cs:List Str}(h0:instR x0 x1 (idV.ext bs cs))(h1:instR x1 y (subV x b))(hx:x∉cs)(hf:x∈Zag x1→∀ u∈Zag b,u∉cs):instR x0 y ((subV x b).ext bs cs):=by
 refine (h0.comp _ _ _ _ _ (id_ok.ext bs cs) h1).mono _ _ _ _ fun s hs d hd => ?_
 obtain ⟨c,hc,_,hcd⟩:=hd
 rcases hc with ⟨hb,t,ht,hr,hv⟩|⟨hb,hv,hfc⟩
 ·rw [hv.inst] at hcd
  unfold subV at hcd
  rw [if_neg (fun h:t=x=>hx (h▸ht))] at hcd
  exact .inl ⟨hb,t,ht,hr,hcd⟩
 ·rw [Zbj] at hv
  have hsc:s∉cs:=hfc s (by rw [hv.free];simp)
  have hsf:s∈Zag x1:=by
   obtain ⟨d',hd',hf'⟩:=instR.free_to x0 x1 _ h0 s hs
   rcases hd' with ⟨q,_⟩|⟨_,q,_⟩
   ·exact absurd q hb
   ·exact hf' s (by rw [(Zbj.1 q).free];simp)
  rw [hv.inst] at hcd
  refine .inr ⟨hb,hcd,fun u hu => ?_⟩
  unfold subV at hcd
  split at hcd
  ·rename_i h
   rw [hcd] at hu
   exact hf (h▸hsf) u hu
  ·rw [hcd.free,List.mem_singleton] at hu
   exact hu▸hsc
theorem ZmL {x0 b:Exp}{x:Str}{bs:List Str}(hs:shp x0)(hx:x∈bs):instR x0 x0 ((subV x b).ext bs bs):=by
 refine .refl x0 _ hs fun s _ c hc => ?_
 by_cases hb:s∈bs
 ·exact .inl ⟨hb,s,hb,rfl,hc⟩
 ·refine .inr ⟨hb,?_,fun u hu => ?_⟩
  ·unfold subV
   rw [if_neg (fun h:s=x=>hb (h.symm▸hx))]
   exact hc
  ·rw [hc.free,List.mem_singleton] at hu
   exact hu▸hb
theorem Zdh {x0:Exp}{bs:List Str}(hs:shp x0):instR x0 x0 (idV.ext bs bs):=by
 refine .refl x0 _ hs fun s _ c hc => ?_
 by_cases hb:s∈bs
 ·exact .inl ⟨hb,s,hb,rfl,hc⟩
 ·refine .inr ⟨hb,Zbj.2 hc,fun u hu => ?_⟩
  rw [hc.free,List.mem_singleton] at hu
  exact hu▸hb
structure KidOk (x:Str)(b x0 x1:Exp)(bs cs:List Str):Prop where
 len:bs.length=cs.length
 skip:x∈bs→x1=x0∧cs=bs
 notin:x∉bs→x∉cs
 inst:instR x0 x1 (idV.ext bs cs)
 apart:x∉cs→x∈Zag x1→∀ u∈Zag b,u∉cs
 weight:x1.weight=x0.weight
 shape:shp x1
 proper:properP x1
theorem inj.rlast {l:List Str}(h:inj l){i:Nat}{s:Str}(hi:l[i]?=some s):rlast l s=i:=Zgp hi fun j x hij hx e=>by
 have:=h i j s hi (e▸hx)
 omega
theorem inj.set {l:List Str}(h:inj l){k:Nat}{t:Str}(ht:t∉l):inj (l.set k t):=by
 intro i j s hi hj
 rw [List.getElem?_set] at hi hj
 split at hi<;>split at hj
 ·omega
 ·split at hi
  ·cases hi
   exact absurd (List.mem_of_getElem? hj) ht
  ·cases hi
 ·split at hj
  ·cases hj
   exact absurd (List.mem_of_getElem? hi) ht
  ·cases hj
 ·exact h i j s hi hj
theorem Zku {l:List Str}{k:Nat}{t u:Str}(h:u∈l.set k t):u∈l∨u=t:=List.mem_or_eq_of_mem_set h
structure ArmOk (x:Str)(free vars:List Str)(b0:Exp)(k:Nat)(vs:List Str)(b:Exp):Prop where
 len:vs.length=vars.length
 inj:inj vs
 notin:x∉vs
 inst:instR b0 b (idV.ext vars vs)
 weight:b.weight=b0.weight
 shape:shp b
 proper:properP b
 done:∀ j v,j<k→vs[j]?=some v→¬(v∈free∧x∈Zag b)
theorem ZmK {x:Str}{free vars:List Str}{b0:Exp}{k:Nat}{vs:List Str}{b:Exp}(h:ArmOk x free vars b0 k vs b)(hk:k<vars.length):ArmOk x free vars b0 (k+1) (ZeK x free (vs,b) k).1 (ZeK x free (vs,b) k).2:=by
 obtain ⟨v,hv⟩:=Zaa (l:=vs) (i:=k) (by rw [h.len];exact hk)
 have hdrop:v∉vs.drop (k+1):=by
  intro hm
  obtain ⟨j,hj⟩:=List.mem_iff_getElem?.1 hm
  rw [List.getElem?_drop] at hj
  have:=h.inj k _ v hv hj
  omega
 unfold ZeK
 simp only [hv]
 by_cases hh:hitP x free v [b]
 ·rw [if_neg (fun q=>q.elim hdrop fun q=>q hh)]
  have hfresh:=Zdl 0 (allP b++vs++free++[x])
  generalize ZaX 0 (allP b++vs++free++[x])=to at hfresh ⊢
  simp only [List.mem_append,List.mem_singleton,not_or] at hfresh
  obtain ⟨⟨⟨f1,f2⟩,f3⟩,f4⟩:=hfresh
  have hxv:x≠v:=fun e=>h.notin (e▸List.mem_of_getElem? hv)
  have hfx:x∈Zag (repl v to b)→x∈Zag b:=by
   intro hx
   obtain ⟨s,hs,he⟩:=(Znv h.shape f1 x).1 hx
   by_cases hsv:s=v
   ·rw [if_pos hsv] at he
    exact absurd he.symm f4
   ·rw [if_neg hsv] at he
    exact he▸hs
  refine ⟨by rw [List.length_set];exact h.len,h.inj.set f2,fun hm => ?_,?_,(Zg4 _ _ _).trans h.weight,Zlm _ _ _ h.shape,Zhj _ _ _ h.shape.wf h.proper,fun j w hj hw => ?_⟩
  ·rcases Zku hm with hm|hm
   ·exact h.notin hm
   ·exact f4 hm.symm
  ·refine (h.inst.comp _ _ _ _ _ (id_ok.ext _ _) (Zg7 v to b h.shape f1)).mono _ _ _ _ fun s hs d hd => ?_
   obtain ⟨c,hc,_,hcd⟩:=hd
   rcases hc with ⟨hb,t,ht,hr,hvc⟩|⟨hb,hvc,hfc⟩
   ·rw [hvc.inst] at hcd
    obtain ⟨u,hu,hvu⟩:=hcd
    obtain ⟨j,hj⟩:=List.mem_iff_getElem?.1 ht
    have hrj:=h.inj.rlast hj
    have hset:(vs.set k to)[j]?=some u:=by
     rw [List.getElem?_set]
     by_cases htv:t=v
     ·have hkj:k=j:=h.inj k j v hv (htv▸hj)
      rw [if_pos hkj,if_pos (by rw [h.len];omega),hu,if_pos htv]
     ·have hkj:¬k=j:=fun e=>htv (by rw [←e,hv] at hj;exact (Option.some.inj hj).symm)
      rw [if_neg hkj,hj,hu,if_neg htv]
    exact .inl ⟨hb,u,List.mem_of_getElem? hset,by rw [hr,hrj,(h.inj.set f2).rlast hset],hvu⟩
   ·rw [Zbj] at hvc
    have hsv:s∉vs:=hfc s (by rw [hvc.free];simp)
    rw [hvc.inst] at hcd
    obtain ⟨u,hu,hvu⟩:=hcd
    rw [if_neg (fun e=>hsv (by rw [e];exact List.mem_of_getElem? hv))] at hu
    subst hu
    refine .inr ⟨hb,Zbj.2 hvu,fun w hw => ?_⟩
    rw [hvu.free,List.mem_singleton] at hw
    subst hw
    intro hm
    rcases Zku hm with hm|hm
    ·exact hsv hm
    ·obtain ⟨d',hd',hf'⟩:=instR.free_to b0 b _ h.inst w hs
     rcases hd' with ⟨q,_⟩|⟨_,q,_⟩
     ·exact hb q
     ·exact f1 (hm▸Zhe b w (hf' w (by rw [(Zbj.1 q).free];simp)))
  ·rintro ⟨g1,g2⟩
   rw [List.getElem?_set] at hw
   split at hw
   ·split at hw
    ·cases hw
     exact f3 g1
    ·cases hw
   ·exact h.done j w (by omega) hw ⟨g1,hfx g2⟩
 ·rw [if_pos (.inr hh)]
  refine ⟨h.len,h.inj,h.notin,h.inst,h.weight,h.shape,h.proper,fun j w hj hw hg => ?_⟩
  by_cases hjk:j=k
  ·subst hjk
   rw [hv] at hw
   cases hw
   exact hh ⟨hg.1,b,by simp,hg.2⟩
  ·exact h.done j w (by omega) hw hg
theorem Zgk {x:Str}{free vars:List Str}{b:Exp}(hn:inj vars)(hx:x∉vars)(hs:shp b)(hp:properP b):∀ k,k≤vars.length→ArmOk x free vars b k (ZeT x free vars b k).1 (ZeT x free vars b k).2
 | 0,_=>⟨rfl,hn,hx,Zdh hs,rfl,hs,hp,fun _ _ h=>by omega⟩
 | k+1,hk=>by
  rw [ZfM]
  exact ZmK (Zgk hn hx hs hp k (by omega)) (by omega)
theorem ZsG {x:Str}{b:Exp}{a:ArmH × Exp}(hn:inj a.1.vars)(hs:shp a.2)(hp:properP a.2):(armP x (Zag b) a).1.con=a.1.con∧inj (armP x (Zag b) a).1.vars∧KidOk x b a.2 (armP x (Zag b) a).2 a.1.vars (armP x (Zag b) a).1.vars:=by
 unfold armP
 by_cases hx:x∈a.1.vars
 ·rw [if_pos hx]
  exact ⟨rfl,hn,rfl,fun _=>⟨rfl,rfl⟩,fun h=>h,Zdh hs,fun h=>absurd hx h,rfl,hs,hp⟩
 ·rw [if_neg hx]
  have h:=Zgk (free:=Zag b) hn hx hs hp a.1.vars.length (Nat.le_refl _)
  refine ⟨rfl,h.inj,h.len.symm,fun q=>absurd q hx,fun _=>h.notin,h.inst,fun _ hf u hu hm => ?_,h.weight,h.shape,h.proper⟩
  obtain ⟨j,hj⟩:=List.mem_iff_getElem?.1 hm
  exact h.done j u (by have:=(List.getElem?_eq_some_iff.1 hj).1;rw [h.len] at this;exact this) hj ⟨hu,hf⟩
variable {A:Zac}
def Zea (e:Exp):Nat→List Str
 | 0=>[e.name]
 | i+1=>Zea e i++(match e.children[i]? with | some x=>e.bound i++allP x | none=>[])
theorem ZfE {e x:Exp}{i:Nat}(h:e.children[i]?=some x):Zea e (i+1)=Zea e i++e.bound i++allP x:=by
 simp only [Zea,h,List.append_assoc]
theorem Zhn (e:Exp):Zea e e.children.length=allP e:=by
 have key:∀ i,i≤e.children.length→Zea e i=e.name::(((e.children.map allP).zipIdx.take i).map fun p=>e.bound p.2++p.1).flatten:=by
  intro i
  induction i with
  | zero=>intro _;rfl
  | succ i ih =>
   intro hi
   obtain ⟨x,hx⟩:=Zaa (l:=e.children) (i:=i) (by omega)
   have hz:((e.children.map allP).zipIdx)[i]?=some (allP x,i):=by simp [hx]
   rw [ZfE hx,ih (by omega),ZaC hz]
   simp
 rw [key _ (Nat.le_refl _),List.take_of_length_le (by simp),ZoC]
def Ziy (e:Exp):Nat→Nat
 | 0=>0
 | i+1=>Ziy e i+(e.bound i).length
theorem Zls (e:Exp)(hw:e.wf1)(hk:e.kind=8):∀ i,i≤e.arms.length→Ziy e (i+1)≤((e.arms.take i).map fun a=>a.1.vars.length).sum
 | 0,_=>by
  simp only [Ziy]
  rw [ZaH,if_neg (by omega),if_neg (by omega)]
  simp
 | i+1,hi=>by
  obtain ⟨a,ha⟩:=Zaa (l:=e.arms) (i:=i) (by omega)
  have h:=Zls e hw hk i (by omega)
  have hb:(e.bound (i+1)).length=a.1.vars.length:=by
   rw [ZaH,if_neg (by omega),if_pos ⟨hk,by omega⟩,Nat.add_sub_cancel,ha]
   rfl
  rw [Ziy,hb,ZaC ha]
  simp only [List.map_append,List.sum_append,List.map_cons,List.map_nil,List.sum_cons,List.sum_nil]
  omega
theorem ZgM (e:Exp)(hk:e.kind≠8):∀ i,Ziy e i≤i
 | 0=>Nat.le_refl _
 | i+1=>by
  have h:=ZgM e hk i
  simp only [Ziy]
  rcases Zni hk i with hb|hb<;>rw [hb]<;>simp<;>omega
theorem Zeq (e:Exp):e.wf→(allP e).length+1≤2*e.weight:=by
 induction e using Exp.ind with
 | h e ih =>
  intro hw
  have key:∀ i,i≤e.children.length→(Zea e i).length+i≤1+Ziy e i+2*((e.children.take i).map Exp.weight).sum:=by
   intro i
   induction i with
   | zero=>intro _;simp [Zea,Ziy]
   | succ i ihi =>
    intro hi
    obtain ⟨x,hx⟩:=Zaa (l:=e.children) (i:=i) (by omega)
    have h1:=ihi (by omega)
    have h2:=ih x (List.mem_of_getElem? hx) (hw.child (List.mem_of_getElem? hx))
    rw [ZfE hx,ZaC hx]
    simp only [List.length_append,List.map_append,List.sum_append,List.map_cons,List.map_nil,List.sum_cons,List.sum_nil,Ziy]
    omega
  have h:=key _ (Nat.le_refl _)
  rw [Zhn,List.take_of_length_le (Nat.le_refl _)] at h
  rw [e.weight_eq]
  by_cases hk:e.kind=8
  ·have h1:=hw.one.1 hk
   have h2:=Zls e hw.one hk e.arms.length (Nat.le_refl _)
   rw [List.take_of_length_le (Nat.le_refl _)] at h2
   rw [e.children_len,h1,Nat.add_comm 1] at h
   omega
  ·have h2:=ZgM e hk e.children.length
   omega
theorem ZnO {e:Exp}(hw:e.wf):∀ i,i≤e.children.length→(Zea e i).length≤(allP e).length:=by
 intro i hi
 rw [←Zhn]
 have:∀ k,(Zea e i).length≤(Zea e (i+k)).length:=by
  intro k
  induction k with
  | zero=>exact Nat.le_refl _
  | succ k ih =>
   refine Nat.le_trans ih ?_
   show _≤(Zea e (i+k)++_).length
   rw [List.length_append]
   omega
 have h:=this (e.children.length-i)
 rwa [show i+(e.children.length-i)=e.children.length by omega] at h
def nmL (e:Exp):Prop:=∀ s∈allP e,s.length≤1000
theorem nmL.child {e x:Exp}{i:Nat}(h:nmL e)(hx:e.children[i]?=some x):nmL x:=fun s hs=>h s (Zat.2 (.inr ⟨i,x,hx,.inr hs⟩))
theorem nmL.bound {e x:Exp}{i:Nat}(h:nmL e)(hx:e.children[i]?=some x):∀ s∈e.bound i,s.length≤1000:=fun s hs=>h s (Zat.2 (.inr ⟨i,x,hx,.inl hs⟩))
theorem ZqU (frm to:Str)(e:Exp):∀ s∈allP (repl frm to e),s∈allP e∨s=to:=by
 induction e using Exp.ind with
 | h e ih =>
  intro s hs
  by_cases hk:e.kind=1
  ·rw [Zet hk] at hs
   by_cases hf:e.name=frm
   ·rw [if_pos hf] at hs
    rcases Zat.1 hs with h|⟨i,x,hx,h⟩
    ·exact .inr h
    ·refine .inl (Zat.2 (.inr ⟨i,x,hx,h.imp (fun h => ?_) id⟩))
     rw [ZdH,if_neg (by omega)] at h
     rw [ZaH,if_neg (by omega)]
     exact h
   ·rw [if_neg hf] at hs
    exact .inl hs
  ·rw [ZfU hk] at hs
   rcases Zat.1 hs with h|⟨i,y,hy,h⟩
   ·exact .inl (Zat.2 (.inl h))
   ·rw [(Zbo (replC_len frm to e)).2.2.1] at hy
    rw [Zev (replC_len frm to e)] at h
    obtain ⟨x,hx⟩:=Zaa (l:=e.children) (i:=i) (by have:=(List.getElem?_eq_some_iff.1 hy).1;rw [replC_len,←e.children_len] at this;exact this)
    rw [ZcN hx] at hy
    cases hy
    rcases h with h|h
    ·exact .inl (Zat.2 (.inr ⟨i,x,hx,.inl h⟩))
    ·split at h
     ·exact .inl (Zat.2 (.inr ⟨i,x,hx,.inr h⟩))
     ·exact (ih x (List.mem_of_getElem? hx) s h).imp (fun h=>Zat.2 (.inr ⟨i,x,hx,.inr h⟩)) id
theorem ZiB {frm to:Str}{e:Exp}(h:nmL e)(ht:to.length≤1000):nmL (repl frm to e):=fun s hs=>(ZqU frm to e s hs).elim (h s) fun q=>q▸ht
theorem ZdY (n:Nat)(taken:List Str)(h:n+taken.length≤1073741824):(ZaX n taken).length≤1000:=by
 have h1:=ZgD n taken
 have h2:=Zei (ZaU n taken) 10 (by omega) (by omega)
 unfold ZaX ZbY
 rw [List.length_cons]
 omega
theorem ZlP (taken:List Str)(ht:taken.length≤536870912)(hs:∀ s∈taken,s.length≤1000):(K A).call 207 [ZaB taken] []=some (strV (ZaX 0 taken),[]):=by
 refine Zas (vf:=v207) (by kernel_rfl) rfl (by simp) ?_
 have h:=ZsR (A:=A) 0 0 (by omega) (by omega) taken (by omega) ht (fun s h=>by have:=hs s h;omega)
 unfold v207
 simp (maxSteps:=4000000) (disch:=first|omega|(simp;done)|(simp;omega)) [h,-getElem?_pos]
theorem Zrn (e:Exp):e.wf→e.weight≤268435456→(K A).call 208 [expV e] []=some (.sc (.arr 0 (allP e).length),[.arr 1 (wr (Zaf (allP e))) 0]):=by
 induction e using Exp.ind with
 | h e ih =>
 intro hwf hl
 refine Zas (vf:=v208) (by kernel_rfl) rfl (by simp) ?_
 have hle:=e.children_le
 rw [e.children_len] at hle
 have hpl:=Zeq e hwf
 have hend:=Zhn e
 by_cases hkids:e.kids=[]
 ·have harms:e.arms=[]:=Classical.byContradiction fun h=>by
   have h8:e.kind=8:=Classical.byContradiction fun h8=>h (hwf.one.2.1 h8)
   have:=hwf.one.1 h8
   rw [hkids] at this
   simp at this
  have hc:=Zb5 (A:=A) e hkids harms
  have hch:e.children=[]:=by simp [Exp.children,hkids,harms]
  rw [hch] at hend
  simp only [List.length_nil,Zea] at hend
  rw [←hend]
  have hr:wr (Zaf [e.name])=[[W.c (.str e.name)]]:=rfl
  unfold v208
  simp (maxSteps:=4000000) (disch:=first|omega|(simp;done)|(simp;omega)) [hc,hr,-getElem?_pos]
  refine Zaz (fun i=>⟨[(1,.sc (.ptr 64 0)),(3,.sc (.arr 320 1)),(10,.sc (.full [])),(11,intV 0),(12,intV i)],[(64,some (.box (wc e.row))),(320,some (.arr 1 [[W.c (.str e.name)]] 0))]⟩) 0 ?_ (fun i hi=>by omega) ?_
  ·simp
  ·unfold Zlu
   simp (maxSteps:=4000000) (disch:=first|omega|(simp;done)|(simp;omega)) [hr,-getElem?_pos]
 ·have hc:=ZbR (A:=A) e hkids (by omega)
  rw [e.children_len] at hc hend
  have h0:Zea e 0=[e.name]:=rfl
  have hr:wr (Zaf [e.name])=[[W.c (.str e.name)]]:=rfl
  unfold v208
  simp (maxSteps:=4000000) (disch:=first|omega|(simp;done)|(simp;omega)) [hc,-getElem?_pos]
  refine Zaz (fun i=>⟨[(1,.sc (.ptr 64 0)),(3,.sc (.arr 320 (Zea e i).length)),(10,.sc (.arr 544 (e.kids.length+e.arms.length))),(11,intV ((e.kids.length:Int)+e.arms.length)),(12,intV i)],
   [(64,some (.box (wc e.row))),(320,some (.arr 1 (wr (Zaf (Zea e i))) 0)),(544,some (.arr 11 (wr (Exp.rows e.children)) 0))]⟩) (e.kids.length+e.arms.length) ?_ ?_ ?_
  ·simp [h0,hr]
  ·intro i hi
   have hi1:i<e.children.length:=by rw [e.children_len];exact hi
   obtain ⟨x,hx⟩:=Zaa hi1
   have hm:=List.mem_of_getElem? hx
   have hrec:=ih x hm (hwf.child hm) (by have:=Exp.child_lt hm;omega)
   have hb:=Zhk (A:=A) e i hwf.one hi1 (by omega)
   have hs:=ZfE hx
   have hlen:=ZnO hwf (i+1) hi1
   rw [hs] at hlen
   rw [hs]
   simp only [List.length_append] at hlen
   have hi2:(i:Int)<(e.kids.length:Int)+e.arms.length:=by omega
   generalize Zea e i=ai at *
   generalize e.bound i=bi at *
   generalize allP x=ax at *
   unfold Zlu
   simp (maxSteps:=4000000) (disch:=first|omega|(simp;done)|(simp;omega)) [hi,hi2,hx,hb,hrec,Nat.add_assoc,-getElem?_pos]
  ·rw [hend]
   unfold Zlu
   simp (maxSteps:=4000000) (disch:=first|omega|(simp;done)|(simp;omega)) [-getElem?_pos]
theorem ZhD (frm to:Str)(e:Exp):e.wf→e.weight≤1073741824→(K A).call 209 [expV e,strV frm,strV to] []=some (expV (repl frm to e),[]):=by
 induction e using Exp.ind with
 | h e ih =>
 intro hwf hl
 refine Zas (vf:=v209) (by kernel_rfl) rfl (by simp) ?_
 have hle:=e.children_le
 rw [e.children_len] at hle
 by_cases hk:e.kind=1
 ·have hrow:wc (Exp.mk e.kind e.pos to e.num e.kids e.arms e.ty).row=[.c (.int .i64 e.kind),.c (.int .i64 e.pos),.c (.str to),.c (.int .i64 e.num),.c (.sl (Exp.rows e.kids)),.c (.sl (Exp.armRows e.arms)),.c (.int .i64 e.ty.kind),.c (.str e.ty.name),.c (.int .i64 e.ty.id),.c (.int .i64 e.ty.home),.c (.sl (Ty.rows e.ty.args))]:=by rw [Exp.row_eq];rfl
  have hrow0:wc e.row=[.c (.int .i64 e.kind),.c (.int .i64 e.pos),.c (.str e.name),.c (.int .i64 e.num),.c (.sl (Exp.rows e.kids)),.c (.sl (Exp.armRows e.arms)),.c (.int .i64 e.ty.kind),.c (.str e.ty.name),.c (.int .i64 e.ty.id),.c (.int .i64 e.ty.home),.c (.sl (Ty.rows e.ty.args))]:=by rw [Exp.row_eq];rfl
  rw [Zet hk]
  unfold v209
  by_cases hf:e.name=frm
  ·rw [if_pos hf]
   rw [hk] at hrow hrow0 ⊢
   simp (maxSteps:=4000000) (disch:=first|omega|(simp;done)|(simp;omega)) [hk,hf,hrow,hrow0,-getElem?_pos]
  ·rw [if_neg hf]
   simp (maxSteps:=4000000) (disch:=first|omega|(simp;done)|(simp;omega)) [hk,hf,-getElem?_pos]
 ·rw [ZfU hk]
  have hCl:=replC_len frm to e
  have hcg:=fun {i:Nat} {x:Exp} (h:e.children[i]?=some x)=>ZcN (frm:=frm) (to:=to) h
  have hw:=ZgH (A:=A) e (ZeI frm to e) hCl (by omega)
  by_cases hkids:e.kids=[]
  ·have harms:e.arms=[]:=Classical.byContradiction fun h=>by
    have h8:e.kind=8:=Classical.byContradiction fun h8=>h (hwf.one.2.1 h8)
    have:=hwf.one.1 h8
    rw [hkids] at this
    simp at this
   have hc:=Zb5 (A:=A) e hkids harms
   have hC0:ZeI frm to e=[]:=List.length_eq_zero_iff.1 (by rw [hCl,hkids,harms];rfl)
   rw [hC0] at hw ⊢
   have hr1:Exp.rows []=[]:=by rw [Exp.rows]
   have hr2:Exp.armRows []=[]:=by rw [Exp.armRows]
   have hz:Za5 [] []=[]:=rfl
   have hrow:wc (Zcc e []).row=[.c (.int .i64 e.kind),.c (.int .i64 e.pos),.c (.str e.name),.c (.int .i64 e.num),.c (.sl []),.c (.sl []),.c (.int .i64 e.ty.kind),.c (.str e.ty.name),.c (.int .i64 e.ty.id),.c (.int .i64 e.ty.home),.c (.sl (Ty.rows e.ty.args))]:=by
    rw [Exp.row_eq]
    simp [Zcc,harms,Za5,hr1,hr2,Exp.kind,Exp.pos,Exp.name,Exp.num,Exp.kids,Exp.arms,Exp.ty,wc]
   simp only [exsV,hr1,hkids,harms,List.length_nil,List.take_nil,List.drop_nil,hz,hr2] at hw
   unfold v209
   simp (maxSteps:=4000000) (disch:=first|omega|(simp;done)|(simp;omega)) [hk,hc,-getElem?_pos]
   refine Zaz (fun i=>⟨[(1,strV frm),(2,strV to),(3,.sc (.ptr 64 0)),(6,.sc (.ptr 128 0)),(7,.sc (.full [])),(22,.sc (.full [])),(23,intV 0),(24,intV i)],[(64,some (.box (wc e.row))),(128,some Zde)]⟩) 0 ?_ (fun i hi=>by omega) ?_
   ·simp
   ·unfold ZkU
    simp (maxSteps:=4000000) (disch:=first|omega|(simp;done)|(simp;omega)) [hw,hrow,-getElem?_pos]
  ·have hc:=ZbR (A:=A) e hkids (by omega)
   rw [e.children_len] at hc
   have hC2:(ZeI frm to e).length=e.children.length:=by rw [hCl,e.children_len]
   have hkl:((ZeI frm to e).take e.kids.length).length=e.kids.length:=by rw [List.length_take,hCl];omega
   have hal:(Za5 e.arms ((ZeI frm to e).drop e.kids.length)).length=e.arms.length:=by rw [armsW_len,List.length_drop,hCl];omega
   have hrow:wc (Zcc e (ZeI frm to e)).row=[.c (.int .i64 e.kind),.c (.int .i64 e.pos),.c (.str e.name),.c (.int .i64 e.num),.c (.sl (Exp.rows ((ZeI frm to e).take e.kids.length))),.c (.sl (Exp.armRows (Za5 e.arms ((ZeI frm to e).drop e.kids.length)))),.c (.int .i64 e.ty.kind),.c (.str e.ty.name),.c (.int .i64 e.ty.id),.c (.int .i64 e.ty.home),.c (.sl (Ty.rows e.ty.args))]:=by rw [Exp.row_eq];rfl
   generalize Zcc e (ZeI frm to e)=we at *
   generalize ZeI frm to e=cc at *
   unfold v209
   simp (maxSteps:=4000000) (disch:=first|omega|(simp;done)|(simp;omega)) [hk,hc,-getElem?_pos]
   refine Zaz (fun i=>⟨[(1,strV frm),(2,strV to),(3,.sc (.ptr 64 0)),(6,.sc (.ptr 128 0)),(7,.sc (.arr 1056 (e.kids.length+e.arms.length))),(22,.sc (.arr 1056 (e.kids.length+e.arms.length))),(23,intV ((e.kids.length:Int)+e.arms.length)),(24,intV i)],
    [(64,some (.box (wc e.row))),(128,some Zde),(1056,some (.arr 11 (wr (Exp.rows (cc.take i++e.children.drop i))) 0))]⟩) (e.kids.length+e.arms.length) ?_ ?_ ?_
   ·simp
   ·intro i hi
    have hi1:i<e.children.length:=by rw [e.children_len];exact hi
    obtain ⟨x,hx⟩:=Zaa hi1
    have hm:=List.mem_of_getElem? hx
    have hrec:=ih x hm (hwf.child hm) (by have:=Exp.child_lt hm;omega)
    have hb:=Zhk (A:=A) e i hwf.one hi1 (by omega)
    have hbl:=Nat.le_trans (e.bound_le i) hl
    have hco:=ZbA (A:=A) (e.bound i) frm (by omega)
    have hcx:=hcg hx
    have hg:=Zb2 (i:=i) hC2 hi1
    rw [hx] at hg
    have hst:=Zb8 hC2 hcx
    have hln:=Zb1 (i:=i) hC2
    rw [e.children_len] at hln
    have hi2:(i:Int)<(e.kids.length:Int)+e.arms.length:=by omega
    have hset:=fun y=>Zfy (cc.take i++e.children.drop i) i y
    rw [←hst]
    generalize cc.take i++e.children.drop i=zr at *
    unfold ZkU
    by_cases hf:frm∈e.bound i
    ·have hsame:zr.set i x=zr:=by
      refine List.ext_getElem? fun m => ?_
      rw [List.getElem?_set]
      split
      ·rename_i h
       subst h
       rw [hg]
       split
       ·rfl
       ·omega
      ·rfl
     rw [if_pos hf,hsame]
     simp (maxSteps:=4000000) (disch:=first|omega|(simp;done)|(simp;omega)) [hi,hi2,hg,hln,hb,hco,hf,Za6,-getElem?_pos]
    ·rw [if_neg hf]
     simp (maxSteps:=4000000) (disch:=first|omega|(simp;done)|(simp;omega)) [hi,hi2,hg,hln,hb,hco,hf,hrec,hset,Za6,-getElem?_pos]
   ·have htk:cc.take (e.kids.length+e.arms.length)++e.children.drop (e.kids.length+e.arms.length)=cc:=by
     rw [List.drop_of_length_le (by rw [e.children_len];omega),List.append_nil,List.take_of_length_le (by omega)]
    rw [htk]
    unfold ZkU
    simp (maxSteps:=4000000) (disch:=first|omega|(simp;done)|(simp;omega)) [hw,hrow,hkl,hal,hCl,-getElem?_pos]
end Go.Vs.Tryz
