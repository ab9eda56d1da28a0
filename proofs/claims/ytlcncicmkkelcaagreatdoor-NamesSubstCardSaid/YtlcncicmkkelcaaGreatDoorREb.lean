/- Substitution as the program does it: renaming by a name that does not occur (plain). (Parts of one proof, put together.) -/
import Derived.Test.YtlcncicmkkelcaaGreatDoorR5b
import Derived.Test.YtlcncicmkkelcaaGreatDoorRDb
set_option linter.unusedSimpArgs false
set_option linter.unusedVariables false
set_option linter.deprecated false
namespace Go.Vs.Tryz
open Go Go.Vs
def Zbm (e:Exp)(cs:List Exp):Exp:=.mk e.kind e.pos e.name e.num (cs.take e.kids.length) (Za4 e.arms (cs.drop e.kids.length)) e.ty
theorem Zbe {e:Exp}{cs:List Exp}(h:cs.length=e.kids.length+e.arms.length) :
 (Zbm e cs).kids.length=e.kids.length∧(Zbm e cs).arms.length=e.arms.length∧(Zbm e cs).children=cs∧(∀ i:Nat,((Zbm e cs).arms[i]?).map (·.1)=(e.arms[i]?).map (·.1)):=by
 have hal:(Za4 e.arms (cs.drop e.kids.length)).length=e.arms.length:=by rw [armsW_len,List.length_drop];omega
 refine ⟨?_,hal,?_,fun i => ?_⟩
 ·show (cs.take e.kids.length).length=_
  rw [List.length_take]
  omega
 ·show cs.take e.kids.length++(Za4 e.arms (cs.drop e.kids.length)).map (·.2)=cs
  have:(Za4 e.arms (cs.drop e.kids.length)).map (·.2)=cs.drop e.kids.length:=by
   unfold Za4
   exact Zs9 (by rw [List.length_drop];omega) _ fun _ _=>rfl
  rw [this,List.take_append_drop]
 ·show ((Za4 e.arms (cs.drop e.kids.length))[i]?).map (·.1)=_
  unfold Za4
  rw [List.getElem?_zipWith]
  cases ha:e.arms[i]? with
  | none=>rfl
  | some a =>
   obtain ⟨c,hc⟩:=Zaa (l:=cs.drop e.kids.length) (i:=i) (by have:=(List.getElem?_eq_some_iff.1 ha).1;rw [List.length_drop];omega)
   rw [hc]
   rfl
theorem Zfs {e:Exp}{cs:List Exp}(h:cs.length=e.kids.length+e.arms.length)(i:Nat):(Zbm e cs).bound i=e.bound i:=by
 have h4:=(Zbe h).2.2.2 (i-1)
 rw [ZaD,ZaD]
 have k:(Zbm e cs).kind=e.kind:=rfl
 have n:(Zbm e cs).name=e.name:=rfl
 rw [k,n]
 cases h1:e.arms[i-1]? with
 | none =>
  rw [h1] at h4
  cases h2:(Zbm e cs).arms[i-1]? with
  | none=>rfl
  | some b=>rw [h2] at h4;simp at h4
 | some a =>
  rw [h1] at h4
  cases h2:(Zbm e cs).arms[i-1]? with
  | none=>rw [h2] at h4;simp at h4
  | some b =>
   rw [h2] at h4
   simp only [Option.map_some,Option.some.injEq] at h4
   simp only [Option.map_some,Option.getD_some,h4]
theorem Zgw {e:Exp}{cs:List Exp}(h:cs.length=e.kids.length+e.arms.length):headEq e (Zbm e cs)∧Zg6 e (Zbm e cs):=by
 obtain ⟨h1,h2,h3,h4⟩:=Zbe h
 refine ⟨⟨rfl,rfl,rfl,h1.symm,h2.symm⟩,fun i p q hp hq => ?_⟩
 have:=h4 i
 rw [hp,hq] at this
 simp only [Option.map_some,Option.some.injEq] at this
 rw [this]
 exact ⟨rfl,rfl⟩
theorem ZoI (e:Exp):Zbm e e.children=e:=by
 unfold Zbm
 rw [ZnG,Zmc]
 cases e
 rfl
theorem ZpQ {e:Exp}{cs:List Exp}(h:cs.length=e.kids.length+e.arms.length)(hk:e.kind≠1)(hs:shp1 e)(hc:∀ c∈cs,shp c):shp (Zbm e cs):=by
 rw [ZfR]
 exact ⟨(Zgw h).1.shp1 hk hs,by rw [(Zbe h).2.2.1];exact hc⟩
theorem ZgO {e:Exp}{cs:List Exp}(h:cs.length=e.kids.length+e.arms.length):(Zbm e cs).weight=1+(e.arms.map fun a=>a.1.vars.length).sum+(cs.map Exp.weight).sum:=by
 obtain ⟨h1,h2,h3,h4⟩:=Zbe h
 rw [Exp.weight_eq,h3]
 congr 2
 congr 1
 refine List.ext_getElem? fun i => ?_
 have:=h4 i
 rw [List.getElem?_map,List.getElem?_map]
 cases hp:(Zbm e cs).arms[i]?<;>cases hq:e.arms[i]?<;>rw [hp,hq] at this<;>simp at this
 simp only [Option.map_some,this]
def allF (e:Exp)(l:List (List Str)):List Str:=e.name::(l.zipIdx.map fun p=>e.bound p.2++p.1).flatten
def allP (e:Exp):List Str:=e.fold allF
theorem ZoA (e:Exp):allP e=e.name::((e.children.map allP).zipIdx.map fun p=>e.bound p.2++p.1).flatten:=Exp.fold_eq _ e
theorem ZaA {e:Exp}{s:Str}:s∈allP e↔s=e.name∨∃ (i:Nat) (x:Exp),e.children[i]?=some x∧(s∈e.bound i∨s∈allP x):=by
 rw [ZoA,List.mem_cons]
 refine or_congr_right ?_
 rw [List.mem_flatten]
 constructor
 ·rintro ⟨l,hl,hs⟩
  obtain ⟨⟨m,i⟩,hp,rfl⟩:=List.mem_map.1 hl
  have hm:=List.mem_zipIdx_iff_getElem?.1 hp
  simp only [List.getElem?_map] at hm
  obtain ⟨x,hx,rfl⟩:=Option.map_eq_some_iff.1 hm
  exact ⟨i,x,hx,List.mem_append.1 hs⟩
 ·rintro ⟨i,x,hx,hs⟩
  refine ⟨e.bound i++allP x,List.mem_map.2 ⟨(allP x,i),List.mem_zipIdx_iff_getElem?.2 ?_,rfl⟩,List.mem_append.2 hs⟩
  simp [hx]
theorem Zgy (e:Exp):∀ s∈Zaf e,s∈allP e:=by
 induction e using Exp.ind with
 | h e ih =>
  intro s hs
  by_cases hk:e.kind=1
  ·rw [Za6 hk] at hs
   exact ZaA.2 (.inl hs)
  ·obtain ⟨i,x,hx,h1,_⟩:=(Zbu hk).1 hs
   exact ZaA.2 (.inr ⟨i,x,hx,.inr (ih x (List.mem_of_getElem? hx) s h1)⟩)
def ZqR (frm to:Str)(e:Exp)(l:List Exp):Exp :=
 if e.kind=1 then (if e.name=frm then .mk e.kind e.pos to e.num e.kids e.arms e.ty else e)
 else Zbm e ((e.children.zip l).zipIdx.map fun p=>if frm∈e.bound p.2 then p.1.1 else p.1.2)
def repl (frm to:Str)(e:Exp):Exp:=e.fold (ZqR frm to)
def Zey (frm to:Str)(e:Exp):List Exp:=e.children.zipIdx.map fun p=>if frm∈e.bound p.2 then p.1 else repl frm to p.1
@[simp] theorem replC_len (frm to:Str) (e:Exp):(Zey frm to e).length=e.kids.length+e.arms.length:=by simp [Zey]
theorem ZbX {frm to:Str}{e x:Exp}{i:Nat}(h:e.children[i]?=some x):(Zey frm to e)[i]?=some (if frm∈e.bound i then x else repl frm to x):=by
 simp [Zey,h]
theorem ZcT {frm to:Str}{e:Exp}(h:e.kind=1):repl frm to e=if e.name=frm then .mk e.kind e.pos to e.num e.kids e.arms e.ty else e:=by
 unfold repl
 rw [Exp.fold_eq,ZqR,if_pos h]
theorem ZdN {frm to:Str}{e:Exp}(h:e.kind≠1):repl frm to e=Zbm e (Zey frm to e):=by
 unfold repl
 rw [Exp.fold_eq,ZqR,if_neg h]
 congr 1
 refine List.ext_getElem? fun i => ?_
 rw [List.getElem?_map,List.getElem?_zipIdx]
 by_cases hi:i<e.children.length
 ·obtain ⟨x,hx⟩:=Zaa hi
  have hz:(e.children.zip (e.children.map (Exp.fold (ZqR frm to))))[i]?=some (x,repl frm to x):=by
   rw [List.getElem?_zip_eq_some]
   exact ⟨hx,by rw [List.getElem?_map,hx];rfl⟩
  rw [hz,ZbX hx]
  simp
 ·rw [List.getElem?_eq_none (by rw [List.length_zip,List.length_map];omega),List.getElem?_eq_none (by rw [replC_len,←e.children_len];omega)]
  rfl
theorem ZeE (frm to:Str)(e:Exp):(repl frm to e).weight=e.weight:=by
 induction e using Exp.ind with
 | h e ih =>
  by_cases hk:e.kind=1
  ·rw [ZcT hk]
   split
   ·rw [Exp.weight_eq,e.weight_eq]
    rfl
   ·rfl
  ·rw [ZdN hk,ZgO (replC_len _ _ _),e.weight_eq]
   congr 1
   congr 1
   refine List.ext_getElem? fun i => ?_
   rw [List.getElem?_map,List.getElem?_map]
   by_cases hi:i<e.children.length
   ·obtain ⟨x,hx⟩:=Zaa hi
    rw [ZbX hx,hx]
    simp only [Option.map_some]
    split
    ·rfl
    ·rw [ih x (List.mem_of_getElem? hx)]
   ·rw [List.getElem?_eq_none (by rw [replC_len,←e.children_len];omega),List.getElem?_eq_none (by omega)]
theorem Zic (frm to:Str)(e:Exp):shp e→shp (repl frm to e):=by
 induction e using Exp.ind with
 | h e ih =>
  intro hs
  by_cases hk:e.kind=1
  ·rw [ZcT hk]
   split
   ·rw [ZfR]
    exact ⟨hs.one,fun x hx=>hs.child hx⟩
   ·exact hs
  ·rw [ZdN hk]
   refine ZpQ (replC_len _ _ _) hk hs.one fun c hc => ?_
   obtain ⟨i,hi⟩:=List.mem_iff_getElem?.1 hc
   obtain ⟨x,hx⟩:=Zaa (l:=e.children) (i:=i) (by have:=(List.getElem?_eq_some_iff.1 hi).1;rw [replC_len,←e.children_len] at this;exact this)
   rw [ZbX hx] at hi
   cases hi
   have hm:=List.mem_of_getElem? hx
   split
   ·exact hs.child hm
   ·exact ih x hm (hs.child hm)
def renV (frm to:Str):Rep:=ofR fun s t=>t=if s=frm then to else s
theorem Zha (frm to:Str)(e:Exp):shp e→to∉allP e→instR e (repl frm to e) (renV frm to):=by
 induction e using Exp.ind with
 | h e ih =>
  intro hs hn
  by_cases hk:e.kind=1
  ·obtain ⟨a1,a2,a3⟩:=Ze5 hs.one.1 hk
   obtain ⟨n,t⟩:=hs.one.2.1 hk
   rw [ZcT hk]
   refine .mkVar hk ?_
   by_cases hf:e.name=frm
   ·rw [if_pos hf]
    exact ⟨to,(if_pos hf).symm,hk,rfl,n,t,a1,a2⟩
   ·rw [if_neg hf]
    exact ⟨e.name,(if_neg hf).symm,hk,rfl,n,t,a1,a2⟩
  ·rw [ZdN hk]
   obtain ⟨h1,h2⟩:=Zgw (replC_len frm to e)
   refine .mk hk ⟨h1,fun _=>rfl,h2,fun i x y hx hy => ?_⟩
   rw [(Zbe (replC_len frm to e)).2.2.1,ZbX hx] at hy
   cases hy
   rw [Zfs (replC_len frm to e)]
   have hm:=List.mem_of_getElem? hx
   have hnb:to∉e.bound i:=fun h=>hn (ZaA.2 (.inr ⟨i,x,hx,.inl h⟩))
   have hnx:to∉allP x:=fun h=>hn (ZaA.2 (.inr ⟨i,x,hx,.inr h⟩))
   by_cases hf:frm∈e.bound i
   ·rw [if_pos hf]
    refine .refl x _ (hs.child hm) fun s hsx c hc => ?_
    by_cases hb:s∈e.bound i
    ·exact .inl ⟨hb,s,hb,rfl,hc⟩
    ·refine .inr ⟨hb,⟨s,?_,hc⟩,fun u hu => ?_⟩
     ·exact (if_neg (fun h:s=frm=>hb (h.symm▸hf))).symm
     ·rw [hc.free,List.mem_singleton] at hu
      exact hu▸hb
   ·rw [if_neg hf]
    refine (ih x hm (hs.child hm) hnx).mono _ _ _ _ fun s hsx d hd => ?_
    obtain ⟨t,ht,hv⟩:=hd
    by_cases hb:s∈e.bound i
    ·rw [if_neg (fun h:s=frm=>hf (h▸hb))] at ht
     exact .inl ⟨hb,s,hb,rfl,ht▸hv⟩
    ·refine .inr ⟨hb,⟨t,ht,hv⟩,fun u hu => ?_⟩
     rw [hv.free,List.mem_singleton] at hu
     subst hu
     by_cases h:s=frm
     ·rw [if_pos h] at ht
      exact ht▸hnb
     ·rw [if_neg h] at ht
      exact ht▸hb
theorem Znw {frm to:Str}{e:Exp}(hs:shp e)(hn:to∉allP e)(u:Str):u∈Zaf (repl frm to e)↔∃ s∈Zaf e,u=if s=frm then to else s:=by
 have h:=Zha frm to e hs hn
 constructor
 ·intro hu
  obtain ⟨s,h1,d,⟨t,ht,hv⟩,h3⟩:=instR.free_from e _ _ hs.one (fun x hx=>hs.child hx) h u hu
  rw [hv.free,List.mem_singleton] at h3
  exact ⟨s,h1,h3.trans ht⟩
 ·rintro ⟨s,h1,rfl⟩
  obtain ⟨d,⟨t,ht,hv⟩,h3⟩:=instR.free_to e _ _ h s h1
  exact h3 _ (by rw [hv.free,ht];simp)
def hitP (x:Str)(free:List Str)(n:Str)(inside:List Exp):Prop:=n∈free∧∃ e∈inside,x∈Zaf e
instance (x:Str) (free:List Str) (n:Str) (inside:List Exp):Decidable (hitP x free n inside):=inferInstanceAs (Decidable (_∧_))
def Zap (e:Exp):Nat:=if e.kind=6 then 1 else 0
def Zcq (x:Str)(free:List Str)(e:Exp):Exp :=
 if e.name=x∨e.kids.length≤Zap e∨¬hitP x free e.name (e.kids.drop (Zap e)) then e else
  .mk e.kind e.pos (ZaK 0 (allP e++free++[x])) e.num (e.kids.zipIdx.map fun p=>if p.2<Zap e then p.1 else repl e.name (ZaK 0 (allP e++free++[x])) p.1) e.arms e.ty
def Zdq (x:Str)(free:List Str)(p:List Str × Exp)(i:Nat):List Str × Exp:=match p.1[i]? with
 | none=>p
 | some v=>if v∈p.1.drop (i+1)∨¬hitP x free v [p.2] then p else (p.1.set i (ZaK 0 (allP p.2++p.1++free++[x])),repl v (ZaK 0 (allP p.2++p.1++free++[x])) p.2)
def Zc7 (x:Str)(free:List Str)(vs:List Str)(b:Exp)(k:Nat):List Str × Exp:=(List.range k).foldl (Zdq x free) (vs,b)
theorem Zdg (x:Str)(free vs:List Str)(b:Exp)(k:Nat):Zc7 x free vs b (k+1)=Zdq x free (Zc7 x free vs b k) k:=by
 unfold Zc7
 rw [List.range_succ,List.foldl_append]
 rfl
def armP (x:Str)(free:List Str)(a:ArmH × Exp):ArmH × Exp :=
 if x∈a.1.vars then a else (⟨a.1.pos,a.1.con,(Zc7 x free a.1.vars a.2 a.1.vars.length).1⟩,(Zc7 x free a.1.vars a.2 a.1.vars.length).2)
def ZcM (x:Str)(free:List Str)(e:Exp):Exp :=
 if e.kind=4∨e.kind=6∨e.kind=7 then Zcq x free e else if e.kind=8 then .mk e.kind e.pos e.name e.num e.kids (e.arms.map (armP x free)) e.ty else e
def subN:Nat→Exp→Str→Exp→Exp
 | 0,e,_,_=>e
 | n+1,e,x,b=>if e.kind=1 then (if e.name=x then b else e) else
  Zbm (ZcM x (Zaf b) e) ((ZcM x (Zaf b) e).children.zipIdx.map fun p=>if x∈(ZcM x (Zaf b) e).bound p.2 then p.1 else subN n p.1 x b)
def subC (n:Nat)(e:Exp)(x:Str)(b:Exp):List Exp:=e.children.zipIdx.map fun p=>if x∈e.bound p.2 then p.1 else subN n p.1 x b
@[simp] theorem subC_len (n:Nat) (e:Exp) (x:Str) (b:Exp):(subC n e x b).length=e.kids.length+e.arms.length:=by simp [subC]
theorem ZeM {n:Nat}{e y:Exp}{x:Str}{b:Exp}{i:Nat}(h:e.children[i]?=some y):(subC n e x b)[i]?=some (if x∈e.bound i then y else subN n y x b):=by
 simp [subC,h]
theorem ZeP (n:Nat)(e:Exp)(x:Str)(b:Exp):subN (n+1) e x b=if e.kind=1 then (if e.name=x then b else e) else Zbm (ZcM x (Zaf b) e) (subC n (ZcM x (Zaf b) e) x b):=rfl
def inj (l:List Str):Prop:=∀ (i j:Nat) s,l[i]?=some s→l[j]?=some s→i=j
def properP (e:Exp):Prop:=e.fold fun e l=>(∀ a∈e.arms,inj a.1.vars)∧∀ p∈l,p
theorem Zdc (e:Exp):properP e=((∀ a∈e.arms,inj a.1.vars)∧∀ x∈e.children,properP x):=by
 have:=Exp.fold_eq (fun e (l:List Prop)=>(∀ a∈e.arms,inj a.1.vars)∧∀ p∈l,p) e
 unfold properP
 rw [this]
 simp only [List.forall_mem_map]
theorem properP.one {e:Exp}(h:properP e):∀ a∈e.arms,inj a.1.vars:=by rw [Zdc] at h;exact h.1
theorem properP.child {e x:Exp}(h:properP e)(hx:x∈e.children):properP x:=by rw [Zdc] at h;exact h.2 x hx
theorem Zn3 {e c:Exp}(h:∀ i:Nat,(c.arms[i]?).map (·.1)=(e.arms[i]?).map (·.1))(he:∀ a∈e.arms,inj a.1.vars):∀ a∈c.arms,inj a.1.vars:=by
 intro a ha
 obtain ⟨i,hi⟩:=List.mem_iff_getElem?.1 ha
 have:=h i
 rw [hi] at this
 cases hq:e.arms[i]? with
 | none=>rw [hq] at this;simp at this
 | some q =>
  rw [hq] at this
  simp only [Option.map_some,Option.some.injEq] at this
  rw [this]
  exact he q (List.mem_of_getElem? hq)
theorem Zgx (frm to:Str)(e:Exp):e.wf→properP e→properP (repl frm to e):=by
 induction e using Exp.ind with
 | h e ih =>
  intro hw h
  by_cases hk:e.kind=1
  ·rw [ZcT hk]
   split
   ·rw [Zdc]
    exact ⟨h.one,fun x hx=>h.child hx⟩
   ·exact h
  ·rw [ZdN hk,Zdc]
   obtain ⟨_,_,h3,h4⟩:=Zbe (replC_len frm to e)
   refine ⟨Zn3 h4 h.one,fun c hc => ?_⟩
   rw [h3] at hc
   obtain ⟨i,hi⟩:=List.mem_iff_getElem?.1 hc
   obtain ⟨x,hx⟩:=Zaa (l:=e.children) (i:=i) (by have:=(List.getElem?_eq_some_iff.1 hi).1;rw [replC_len,←e.children_len] at this;exact this)
   rw [ZbX hx] at hi
   cases hi
   have hm:=List.mem_of_getElem? hx
   split
   ·exact h.child hm
   ·exact ih x hm (hw.child hm) (h.child hm)
def subV (x:Str)(b:Exp):Rep:=fun s c=>if s=x then c=b else isVar s c
theorem ZdQ {s:Str}{c:Exp}:idV s c↔isVar s c:=⟨fun ⟨_,h,hv⟩=>h▸hv,fun h=>⟨s,rfl,h⟩⟩
theorem id_ok:idV.ok:=fun _ _ h=>(ZdQ.1 h).shp
theorem Zl3 {x0 x1 y b:Exp}{x:Str}{bs cs:List Str}(h0:instR x0 x1 (idV.ext bs cs))(h1:instR x1 y (subV x b))(hx:x∉cs)(hf:x∈Zaf x1→∀ u∈Zaf b,u∉cs):instR x0 y ((subV x b).ext bs cs):=by
 refine (h0.comp _ _ _ _ _ (id_ok.ext bs cs) h1).mono _ _ _ _ fun s hs d hd => ?_
 obtain ⟨c,hc,_,hcd⟩:=hd
 rcases hc with ⟨hb,t,ht,hr,hv⟩|⟨hb,hv,hfc⟩
 ·rw [hv.inst] at hcd
  unfold subV at hcd
  rw [if_neg (fun h:t=x=>hx (h▸ht))] at hcd
  exact .inl ⟨hb,t,ht,hr,hcd⟩
 ·rw [ZdQ] at hv
  have hsc:s∉cs:=hfc s (by rw [hv.free];simp)
  have hsf:s∈Zaf x1:=by
   obtain ⟨d',hd',hf'⟩:=instR.free_to x0 x1 _ h0 s hs
   rcases hd' with ⟨q,_⟩|⟨_,q,_⟩
   ·exact absurd q hb
   ·exact hf' s (by rw [(ZdQ.1 q).free];simp)
  rw [hv.inst] at hcd
  refine .inr ⟨hb,hcd,fun u hu => ?_⟩
  unfold subV at hcd
  split at hcd
  ·rename_i h
   rw [hcd] at hu
   exact hf (h▸hsf) u hu
  ·rw [hcd.free,List.mem_singleton] at hu
   exact hu▸hsc
theorem Zmg {x0 b:Exp}{x:Str}{bs:List Str}(hs:shp x0)(hx:x∈bs):instR x0 x0 ((subV x b).ext bs bs):=by
 refine .refl x0 _ hs fun s _ c hc => ?_
 by_cases hb:s∈bs
 ·exact .inl ⟨hb,s,hb,rfl,hc⟩
 ·refine .inr ⟨hb,?_,fun u hu => ?_⟩
  ·unfold subV
   rw [if_neg (fun h:s=x=>hb (h.symm▸hx))]
   exact hc
  ·rw [hc.free,List.mem_singleton] at hu
   exact hu▸hb
theorem Zdb {x0:Exp}{bs:List Str}(hs:shp x0):instR x0 x0 (idV.ext bs bs):=by
 refine .refl x0 _ hs fun s _ c hc => ?_
 by_cases hb:s∈bs
 ·exact .inl ⟨hb,s,hb,rfl,hc⟩
 ·refine .inr ⟨hb,ZdQ.2 hc,fun u hu => ?_⟩
  rw [hc.free,List.mem_singleton] at hu
  exact hu▸hb
structure KidOk (x:Str)(b x0 x1:Exp)(bs cs:List Str):Prop where
 len:bs.length=cs.length
 skip:x∈bs→x1=x0∧cs=bs
 notin:x∉bs→x∉cs
 inst:instR x0 x1 (idV.ext bs cs)
 apart:x∉cs→x∈Zaf x1→∀ u∈Zaf b,u∉cs
 weight:x1.weight=x0.weight
 shape:shp x1
 proper:properP x1
theorem inj.rlast {l:List Str}(h:inj l){i:Nat}{s:Str}(hi:l[i]?=some s):rlast l s=i:=Zin hi fun j x hij hx e=>by
 have:=h i j s hi (e▸hx)
 omega
theorem inj.set {l:List Str}(h:inj l){k:Nat}{t:Str}(ht:t∉l):inj (l.set k t):=by
 intro i j s hi hj
 rw [List.getElem?_set] at hi hj
 split at hi<;>split at hj
 ·omega
 ·split at hi
  ·cases hi
   exact absurd (List.mem_of_getElem? hj) ht
  ·cases hi
 ·split at hj
  ·cases hj
   exact absurd (List.mem_of_getElem? hi) ht
  ·cases hj
 ·exact h i j s hi hj
theorem Zh7 {l:List Str}{k:Nat}{t u:Str}(h:u∈l.set k t):u∈l∨u=t:=List.mem_or_eq_of_mem_set h
structure ArmOk (x:Str)(free vars:List Str)(b0:Exp)(k:Nat)(vs:List Str)(b:Exp):Prop where
 len:vs.length=vars.length
 inj:inj vs
 notin:x∉vs
 inst:instR b0 b (idV.ext vars vs)
 weight:b.weight=b0.weight
 shape:shp b
 proper:properP b
 done:∀ j v,j<k→vs[j]?=some v→¬(v∈free∧x∈Zaf b)
theorem Zmf {x:Str}{free vars:List Str}{b0:Exp}{k:Nat}{vs:List Str}{b:Exp}(h:ArmOk x free vars b0 k vs b)(hk:k<vars.length):ArmOk x free vars b0 (k+1) (Zdq x free (vs,b) k).1 (Zdq x free (vs,b) k).2:=by
 obtain ⟨v,hv⟩:=Zaa (l:=vs) (i:=k) (by rw [h.len];exact hk)
 have hdrop:v∉vs.drop (k+1):=by
  intro hm
  obtain ⟨j,hj⟩:=List.mem_iff_getElem?.1 hm
  rw [List.getElem?_drop] at hj
  have:=h.inj k _ v hv hj
  omega
 unfold Zdq
 simp only [hv]
 by_cases hh:hitP x free v [b]
 ·rw [if_neg (fun q=>q.elim hdrop fun q=>q hh)]
  have hfresh:=Zbc 0 (allP b++vs++free++[x])
  generalize ZaK 0 (allP b++vs++free++[x])=to at hfresh ⊢
  simp only [List.mem_append,List.mem_singleton,not_or] at hfresh
  obtain ⟨⟨⟨f1,f2⟩,f3⟩,f4⟩:=hfresh
  have hxv:x≠v:=fun e=>h.notin (e▸List.mem_of_getElem? hv)
  have hfx:x∈Zaf (repl v to b)→x∈Zaf b:=by
   intro hx
   obtain ⟨s,hs,he⟩:=(Znw h.shape f1 x).1 hx
   by_cases hsv:s=v
   ·rw [if_pos hsv] at he
    exact absurd he.symm f4
   ·rw [if_neg hsv] at he
    exact he▸hs
  refine ⟨by rw [List.length_set];exact h.len,h.inj.set f2,fun hm => ?_,?_,(ZeE _ _ _).trans h.weight,Zic _ _ _ h.shape,Zgx _ _ _ h.shape.wf h.proper,fun j w hj hw => ?_⟩
  ·rcases Zh7 hm with hm|hm
   ·exact h.notin hm
   ·exact f4 hm.symm
  ·refine (h.inst.comp _ _ _ _ _ (id_ok.ext _ _) (Zha v to b h.shape f1)).mono _ _ _ _ fun s hs d hd => ?_
   obtain ⟨c,hc,_,hcd⟩:=hd
   rcases hc with ⟨hb,t,ht,hr,hvc⟩|⟨hb,hvc,hfc⟩
   ·rw [hvc.inst] at hcd
    obtain ⟨u,hu,hvu⟩:=hcd
    obtain ⟨j,hj⟩:=List.mem_iff_getElem?.1 ht
    have hrj:=h.inj.rlast hj
    have hset:(vs.set k to)[j]?=some u:=by
     rw [List.getElem?_set]
     by_cases htv:t=v
     ·have hkj:k=j:=h.inj k j v hv (htv▸hj)
      rw [if_pos hkj,if_pos (by rw [h.len];omega),hu,if_pos htv]
     ·have hkj:¬k=j:=fun e=>htv (by rw [←e,hv] at hj;exact (Option.some.inj hj).symm)
      rw [if_neg hkj,hj,hu,if_neg htv]
    exact .inl ⟨hb,u,List.mem_of_getElem? hset,by rw [hr,hrj,(h.inj.set f2).rlast hset],hvu⟩
   ·rw [ZdQ] at hvc
    have hsv:s∉vs:=hfc s (by rw [hvc.free];simp)
    rw [hvc.inst] at hcd
    obtain ⟨u,hu,hvu⟩:=hcd
    rw [if_neg (fun e=>hsv (by rw [e];exact List.mem_of_getElem? hv))] at hu
    subst hu
    refine .inr ⟨hb,ZdQ.2 hvu,fun w hw => ?_⟩
    rw [hvu.free,List.mem_singleton] at hw
    subst hw
    intro hm
    rcases Zh7 hm with hm|hm
    ·exact hsv hm
    ·obtain ⟨d',hd',hf'⟩:=instR.free_to b0 b _ h.inst w hs
     rcases hd' with ⟨q,_⟩|⟨_,q,_⟩
     ·exact hb q
     ·exact f1 (hm▸Zgy b w (hf' w (by rw [(ZdQ.1 q).free];simp)))
  ·rintro ⟨g1,g2⟩
   rw [List.getElem?_set] at hw
   split at hw
   ·split at hw
    ·cases hw
     exact f3 g1
    ·cases hw
   ·exact h.done j w (by omega) hw ⟨g1,hfx g2⟩
 ·rw [if_pos (.inr hh)]
  refine ⟨h.len,h.inj,h.notin,h.inst,h.weight,h.shape,h.proper,fun j w hj hw hg => ?_⟩
  by_cases hjk:j=k
  ·subst hjk
   rw [hv] at hw
   cases hw
   exact hh ⟨hg.1,b,by simp,hg.2⟩
  ·exact h.done j w (by omega) hw hg
theorem ZeK {x:Str}{free vars:List Str}{b:Exp}(hn:inj vars)(hx:x∉vars)(hs:shp b)(hp:properP b):∀ k,k≤vars.length→ArmOk x free vars b k (Zc7 x free vars b k).1 (Zc7 x free vars b k).2
 | 0,_=>⟨rfl,hn,hx,Zdb hs,rfl,hs,hp,fun _ _ h=>by omega⟩
 | k+1,hk=>by
  rw [Zdg]
  exact Zmf (ZeK hn hx hs hp k (by omega)) (by omega)
theorem ZrK {x:Str}{b:Exp}{a:ArmH × Exp}(hn:inj a.1.vars)(hs:shp a.2)(hp:properP a.2):(armP x (Zaf b) a).1.con=a.1.con∧inj (armP x (Zaf b) a).1.vars∧KidOk x b a.2 (armP x (Zaf b) a).2 a.1.vars (armP x (Zaf b) a).1.vars:=by
 unfold armP
 by_cases hx:x∈a.1.vars
 ·rw [if_pos hx]
  exact ⟨rfl,hn,rfl,fun _=>⟨rfl,rfl⟩,fun h=>h,Zdb hs,fun h=>absurd hx h,rfl,hs,hp⟩
 ·rw [if_neg hx]
  have h:=ZeK (free:=Zaf b) hn hx hs hp a.1.vars.length (Nat.le_refl _)
  refine ⟨rfl,h.inj,h.len.symm,fun q=>absurd q hx,fun _=>h.notin,h.inst,fun _ hf u hu hm => ?_,h.weight,h.shape,h.proper⟩
  obtain ⟨j,hj⟩:=List.mem_iff_getElem?.1 hm
  exact h.done j u (by have:=(List.getElem?_eq_some_iff.1 hj).1;rw [h.len] at this;exact this) hj ⟨hu,hf⟩
structure PrepOk (x:Str)(b e e':Exp):Prop where
 head:headEq e e'
 con:e.kind=2→e.name=e'.name
 arms:Zg6 e e'
 kids:∀ (i:Nat) x0 x1,e.children[i]?=some x0→e'.children[i]?=some x1→KidOk x b x0 x1 (e.bound i) (e'.bound i)
 sum:(e'.arms.map fun a=>a.1.vars.length).sum=(e.arms.map fun a=>a.1.vars.length).sum
 vars:∀ a∈e'.arms,inj a.1.vars
theorem ZpR {e e':Exp}(hl:e'.arms.length=e.arms.length)(h:∀ (i:Nat) p q,e.arms[i]?=some p→e'.arms[i]?=some q→p.1.vars.length=q.1.vars.length) :
 (e'.arms.map fun a=>a.1.vars.length).sum=(e.arms.map fun a=>a.1.vars.length).sum:=by
 congr 1
 refine List.ext_getElem? fun i => ?_
 rw [List.getElem?_map,List.getElem?_map]
 cases hp:e.arms[i]? with
 | none =>
  have:e'.arms[i]?=none:=by rw [List.getElem?_eq_none_iff] at hp ⊢;omega
  rw [this]
 | some p =>
  obtain ⟨q,hq⟩:=Zaa (l:=e'.arms) (i:=i) (by have:=(List.getElem?_eq_some_iff.1 hp).1;omega)
  rw [hq]
  simp only [Option.map_some,h i p q hp hq]
theorem Zpb {x:Str}{b e:Exp}(hs:shp e)(hp:properP e)(h:∀ (i:Nat) x0,e.children[i]?=some x0→x∉e.bound i→x∈Zaf x0→∀ u∈Zaf b,u∉e.bound i):PrepOk x b e e:=by
 refine ⟨⟨rfl,rfl,rfl,rfl,rfl⟩,fun _=>rfl,fun i p q hp hq => ?_,fun i x0 x1 h0 h1 => ?_,rfl,hp.one⟩
 ·rw [hp] at hq
  cases hq
  exact ⟨rfl,rfl⟩
 ·rw [h0] at h1
  cases h1
  have hm:=List.mem_of_getElem? h0
  exact ⟨rfl,fun _=>⟨rfl,rfl⟩,fun q=>q,Zdb (hs.child hm),h i x0 h0,rfl,hs.child hm,hp.child hm⟩
theorem ZaT {e:Exp}(h:e.kind≠8)(hs:shp1 e):e.arms=[]∧e.children=e.kids:=by
 have:=hs.1.2.1 h
 exact ⟨this,by simp [Exp.children,this]⟩
theorem ZdW {e:Exp}(h:e.kind=4∨e.kind=6∨e.kind=7)(hs:shp1 e){i:Nat}(hi:i<e.children.length):e.bound i=if i<Zap e then [] else [e.name]:=by
 have hc:=(ZaT (by omega) hs).2
 have hk:=hs.2.2
 rw [hc,hk] at hi
 unfold Zjy at hi
 unfold Exp.bound Zap
 rcases h with h|h|h
 ·rw [if_pos (.inl h),if_neg (by omega:¬e.kind=6),if_neg (by omega)]
 ·rw [if_pos (by omega)] at hi
  by_cases h1:i=1
  ·rw [if_pos (.inr (.inr ⟨h,h1⟩)),if_pos h,if_neg (by omega)]
  ·rw [if_neg (by omega),if_neg (by omega),if_pos h,if_pos (by omega)]
 ·rw [if_pos (.inr (.inl h)),if_neg (by omega:¬e.kind=6),if_neg (by omega)]
theorem Zj6 {x:Str}{b e:Exp}(hs:shp e)(hp:properP e)(hk:e.kind=4∨e.kind=6∨e.kind=7):PrepOk x b e (Zcq x (Zaf b) e):=by
 obtain ⟨ha,hc⟩:=ZaT (by omega) hs.one
 have hkl:Zap e<e.kids.length:=by
  have h:=hs.one.2.2
  unfold Zjy at h
  unfold Zap
  rcases hk with k|k|k
  ·rw [if_neg (by omega),if_pos (by omega)] at h
   rw [if_neg (by omega),h]
   decide
  ·rw [if_pos (by omega)] at h
   rw [if_pos (by omega),h]
   decide
  ·rw [if_pos (by omega)] at h
   rw [if_neg (by omega),h]
   decide
 unfold Zcq
 split
 ·rename_i hc1
  refine Zpb hs hp fun i x0 h0 hxb hxf u hu hub => ?_
  have hi:=(List.getElem?_eq_some_iff.1 h0).1
  rw [ZdW hk hs.one hi] at hxb hub
  by_cases his:i<Zap e
  ·rw [if_pos his] at hub
   simp at hub
  ·rw [if_neg his] at hxb hub
   rw [List.mem_singleton] at hxb hub
   rcases hc1 with h1|h1|h1
   ·exact hxb h1.symm
   ·omega
   ·refine h1 ⟨hub▸hu,x0,?_,hxf⟩
    refine List.mem_of_getElem? (i:=i-Zap e) ?_
    rw [List.getElem?_drop,←hc,show Zap e+(i-Zap e)=i by omega]
    exact h0
 ·rename_i hc1
  simp only [not_or,Classical.not_not] at hc1
  obtain ⟨hxn,_,hhit⟩:=hc1
  have hfresh:=Zbc 0 (allP e++Zaf b++[x])
  generalize ZaK 0 (allP e++Zaf b++[x])=to at hfresh ⊢
  simp only [List.mem_append,List.mem_singleton,not_or] at hfresh
  obtain ⟨⟨f1,f2⟩,f3⟩:=hfresh
  have hkid:∀ (i:Nat) x0,e.kids[i]?=some x0→(e.kids.zipIdx.map fun p=>if p.2<Zap e then p.1 else repl e.name to p.1)[i]?=some (if i<Zap e then x0 else repl e.name to x0):=fun i x0 h=>by simp [h]
  have hkn:(e.kids.zipIdx.map fun p=>if p.2<Zap e then p.1 else repl e.name to p.1).length=e.kids.length:=by simp
  generalize (e.kids.zipIdx.map fun p=>if p.2<Zap e then p.1 else repl e.name to p.1)=ks at hkid hkn ⊢
  have hc':(Exp.mk e.kind e.pos to e.num ks e.arms e.ty).children=ks:=by rw [ZaH,ha];simp
  refine ⟨⟨rfl,rfl,rfl,hkn.symm,rfl⟩,fun h2=>by omega,fun i p q h1 h2 => ?_,fun i x0 x1 h0 h1 => ?_,rfl,hp.one⟩
  ·rw [ZcZ,h1] at h2
   cases h2
   exact ⟨rfl,rfl⟩
  ·have hi:=(List.getElem?_eq_some_iff.1 h0).1
   have hm:=List.mem_of_getElem? h0
   rw [hc'] at h1
   have hbn:(Exp.mk e.kind e.pos to e.num ks e.arms e.ty).bound i=if i<Zap e then [] else [to]:=by
    have he:=ZdW hk hs.one hi
    rw [ZaD] at he
    rw [Zea]
    by_cases c:e.kind=4∨e.kind=7∨e.kind=6∧i=1
    ·rw [if_pos c] at he ⊢
     by_cases his:i<Zap e
     ·rw [if_pos his] at he
      simp at he
     ·rw [if_neg his]
    ·rw [if_neg c,if_neg (by omega)] at he ⊢
     by_cases his:i<Zap e
     ·rw [if_pos his]
     ·rw [if_neg his] at he
      simp at he
   rw [hc] at h0
   rw [hkid i x0 h0] at h1
   cases h1
   rw [hbn,ZdW hk hs.one hi]
   by_cases his:i<Zap e
   ·rw [if_pos his,if_pos his,if_pos his]
    exact ⟨rfl,fun q=>by simp at q,fun q=>q,Zdb (hs.child hm),fun _ _ u _=>by simp,rfl,hs.child hm,hp.child hm⟩
   ·rw [if_neg his,if_neg his,if_neg his]
    have hnx:to∉allP x0:=fun h=>f1 (ZaA.2 (.inr ⟨i,x0,by rw [hc];exact h0,.inr h⟩))
    refine ⟨rfl,fun q=>absurd (List.mem_singleton.1 q).symm hxn,fun _ q=>f3 (List.mem_singleton.1 q).symm,?_,fun _ _ u hu q=>f2 (List.mem_singleton.1 q▸hu),ZeE _ _ _,Zic _ _ _ (hs.child hm),Zgx _ _ _ (hs.child hm).wf (hp.child hm)⟩
    refine (Zha e.name to x0 (hs.child hm) hnx).mono _ _ _ _ fun s hsx d hd => ?_
    obtain ⟨t,ht,hv⟩:=hd
    by_cases hsn:s=e.name
    ·rw [if_pos hsn] at ht
     subst ht
     refine .inl ⟨by simp [hsn],t,by simp,?_,hv⟩
     rw [hsn,Zin (l:=[e.name]) (i:=0) rfl (fun j y hj hy=>by cases j<;>simp_all),Zin (l:=[t]) (i:=0) rfl (fun j y hj hy=>by cases j<;>simp_all)]
    ·rw [if_neg hsn] at ht
     subst ht
     refine .inr ⟨by simp [hsn],ZdQ.2 hv,fun u hu => ?_⟩
     rw [hv.free,List.mem_singleton] at hu
     subst hu
     intro q
     exact hnx (List.mem_singleton.1 q▸Zgy x0 u hsx)
theorem ZnH {x:Str}{b e:Exp}(hs:shp e)(hp:properP e)(hk:e.kind=8):PrepOk x b e (.mk e.kind e.pos e.name e.num e.kids (e.arms.map (armP x (Zaf b))) e.ty):=by
 have hk1:=hs.one.1.1 hk
 have harm:∀ (i:Nat) p q,e.arms[i]?=some p→(e.arms.map (armP x (Zaf b)))[i]?=some q→q.1.con=p.1.con∧inj q.1.vars∧KidOk x b p.2 q.2 p.1.vars q.1.vars:=by
  intro i p q h1 h2
  rw [List.getElem?_map,h1] at h2
  cases h2
  have hm:=Zca (List.mem_of_getElem? h1)
  exact ZrK (hp.one p (List.mem_of_getElem? h1)) (hs.child hm) (hp.child hm)
 have hvl:∀ (i:Nat) p q,e.arms[i]?=some p→(e.arms.map (armP x (Zaf b)))[i]?=some q→p.1.vars.length=q.1.vars.length:=fun i p q h1 h2=>(harm i p q h1 h2).2.2.len
 have hal:(e.arms.map (armP x (Zaf b))).length=e.arms.length:=by simp
 generalize e.arms.map (armP x (Zaf b))=am at harm hvl hal ⊢
 refine ⟨⟨rfl,rfl,rfl,rfl,hal.symm⟩,fun h=>rfl,fun i p q h1 h2=>⟨(harm i p q h1 h2).1.symm,hvl i p q h1 h2⟩,fun i x0 x1 h0 h1 => ?_,ZpR hal hvl,fun q hq => ?_⟩
 ·rw [Zea,ZaD,if_neg (show ¬(e.kind=4∨e.kind=7∨e.kind=6∧i=1) by omega),if_neg (show ¬(e.kind=4∨e.kind=7∨e.kind=6∧i=1) by omega)]
  rcases ZjZ h0 with h0k|⟨j,p,rfl,hp',rfl⟩
  ·have hi:=(List.getElem?_eq_some_iff.1 h0k).1
   have h1':e.kids[i]?=some x1:=by
    rw [ZaH,List.getElem?_append_left hi] at h1
    exact h1
   rw [h0k] at h1'
   cases h1'
   have hm:=List.mem_of_getElem? h0
   rw [if_neg (show ¬(e.kind=8∧0<i) by omega),if_neg (show ¬(e.kind=8∧0<i) by omega)]
   exact ⟨rfl,fun q=>by simp at q,fun q=>q,Zdb (hs.child hm),fun _ _ u _=>by simp,rfl,hs.child hm,hp.child hm⟩
  ·rw [ZaH,List.getElem?_append_right (by omega),Nat.add_sub_cancel_left,List.getElem?_map] at h1
   obtain ⟨q,hq,rfl⟩:=Option.map_eq_some_iff.1 h1
   rw [if_pos ⟨hk,by omega⟩,if_pos ⟨hk,by omega⟩,hk1,show 1+j-1=j by omega,hp',hq]
   exact (harm j p q hp' hq).2.2
 ·rw [ZcZ] at hq
  obtain ⟨i,hi⟩:=List.mem_iff_getElem?.1 hq
  obtain ⟨p,hp'⟩:=Zaa (l:=e.arms) (i:=i) (by have:=(List.getElem?_eq_some_iff.1 hi).1;omega)
  exact (harm i p q hp' hi).2.1
theorem Ziq {x:Str}{b e:Exp}(hs:shp e)(hp:properP e):PrepOk x b e (ZcM x (Zaf b) e):=by
 unfold ZcM
 by_cases h:e.kind=4∨e.kind=6∨e.kind=7
 ·rw [if_pos h]
  exact Zj6 hs hp h
 ·rw [if_neg h]
  by_cases h8:e.kind=8
  ·rw [if_pos h8]
   exact ZnH hs hp h8
  ·rw [if_neg h8]
   refine Zpb hs hp fun i x0 _ _ _ u _ => ?_
   rw [ZaD,if_neg (by omega),if_neg (by omega)]
   simp
theorem Zco {x:Str}{b e e':Exp}(h:PrepOk x b e e'):e'.children.length=e.children.length:=h.head.children.symm
theorem Zk4 (x:Str)(b:Exp)(hb:shp b):∀ (n:Nat) (e:Exp),e.weight≤n→shp e→properP e→instR e (subN n e x b) (subV x b)
 | 0,e,h,_,_=>by have:=e.weight_pos;omega
 | n+1,e,h,hs,hp=>by
  rw [ZeP]
  by_cases hk:e.kind=1
  ·obtain ⟨a1,a2,a3⟩:=Ze5 hs.one.1 hk
   obtain ⟨m,t⟩:=hs.one.2.1 hk
   rw [if_pos hk]
   refine .mkVar hk ?_
   unfold subV
   by_cases hx:e.name=x
   ·rw [if_pos hx,if_pos hx]
   ·rw [if_neg hx,if_neg hx]
    exact ⟨hk,rfl,m,t,a1,a2⟩
  ·rw [if_neg hk]
   have hP:=Ziq (x:=x) (b:=b) hs hp
   generalize ZcM x (Zaf b) e=e' at hP ⊢
   have hl:=subC_len n e' x b
   obtain ⟨g1,g2⟩:=Zgw hl
   refine .mk hk ⟨⟨hP.head.1.trans g1.1,hP.head.2.1.trans g1.2.1,hP.head.2.2.1.trans g1.2.2.1,hP.head.2.2.2.1.trans g1.2.2.2.1,hP.head.2.2.2.2.trans g1.2.2.2.2⟩,fun h2=>hP.con h2,fun i p q hp' hq => ?_,fun i x0 y h0 hy => ?_⟩
   ·obtain ⟨r,hr⟩:=Zaa (l:=e'.arms) (i:=i) (by have:=hP.head.2.2.2.2;have:=(List.getElem?_eq_some_iff.1 hp').1;omega)
    exact ⟨(hP.arms i p r hp' hr).1.trans (g2 i r q hr hq).1,(hP.arms i p r hp' hr).2.trans (g2 i r q hr hq).2⟩
   ·obtain ⟨x1,h1⟩:=Zaa (l:=e'.children) (i:=i) (by rw [Zco hP];exact (List.getElem?_eq_some_iff.1 h0).1)
    have hK:=hP.kids i x0 x1 h0 h1
    rw [(Zbe hl).2.2.1,ZeM h1] at hy
    cases hy
    rw [Zfs hl]
    by_cases hx:x∈e'.bound i
    ·rw [if_pos hx]
     have hxb:x∈e.bound i:=Classical.byContradiction fun q=>hK.notin q hx
     obtain ⟨rfl,he⟩:=hK.skip hxb
     rw [he]
     exact Zmg hK.shape hxb
    ·rw [if_neg hx]
     refine Zl3 hK.inst (Zk4 x b hb n x1 ?_ hK.shape hK.proper) hx (hK.apart hx)
     have:=Exp.child_lt (List.mem_of_getElem? h0)
     have:=hK.weight
     omega
theorem Zhp (x:Str)(b:Exp):∀ (n:Nat) (e:Exp),e.weight≤n→shp e→properP e→(subN n e x b).weight≤e.weight*b.weight
 | 0,e,h,_,_=>by have:=e.weight_pos;omega
 | n+1,e,h,hs,hp=>by
  have hbp:=b.weight_pos
  rw [ZeP]
  by_cases hk:e.kind=1
  ·rw [if_pos hk]
   have he:=e.weight_pos
   split
   ·exact Nat.le_mul_of_pos_left _ he
   ·exact Nat.le_mul_of_pos_right _ hbp
  ·rw [if_neg hk]
   have hP:=Ziq (x:=x) (b:=b) hs hp
   generalize ZcM x (Zaf b) e=e' at hP ⊢
   rw [ZgO (subC_len n e' x b),hP.sum,e.weight_eq,Nat.add_mul]
   refine Nat.add_le_add (Nat.le_mul_of_pos_right _ hbp) ?_
   have key:∀ k,((subC n e' x b).take k |>.map Exp.weight).sum≤((e.children.take k).map Exp.weight).sum*b.weight:=by
    intro k
    induction k with
    | zero=>simp
    | succ k ih =>
     by_cases hkl:k<e.children.length
     ·obtain ⟨x0,h0⟩:=Zaa hkl
      obtain ⟨x1,h1⟩:=Zaa (l:=e'.children) (i:=k) (by rw [Zco hP];exact hkl)
      have hK:=hP.kids k x0 x1 h0 h1
      have hg:=ZeM (n:=n) (x:=x) (b:=b) h1
      rw [Zat hg,Zat h0,List.map_append,List.map_append,List.sum_append,List.sum_append,Nat.add_mul]
      refine Nat.add_le_add ih ?_
      simp only [List.map_cons,List.map_nil,List.sum_cons,List.sum_nil,Nat.add_zero]
      split
      ·rw [hK.weight]
       exact Nat.le_mul_of_pos_right _ hbp
      ·rw [←hK.weight]
       refine Zhp x b n x1 ?_ hK.shape hK.proper
       have:=Exp.child_lt (List.mem_of_getElem? h0)
       have:=hK.weight
       omega
     ·have hl:(subC n e' x b).length=e.children.length:=by rw [subC_len,←e'.children_len,Zco hP]
      rw [List.take_of_length_le (by omega),List.take_of_length_le (by omega)]
      rw [List.take_of_length_le (by omega),List.take_of_length_le (by omega)] at ih
      exact ih
   have:=key e.children.length
   rw [List.take_of_length_le (by rw [subC_len,←e'.children_len,Zco hP];omega),List.take_of_length_le (Nat.le_refl _)] at this
   exact this
def subP (e:Exp)(x:Str)(b:Exp):Exp:=subN e.weight e x b
end Go.Vs.Tryz
