/- Alpha equality by the program, walked. (Parts of one proof, put together.) -/
import Derived.Test.YtlcncicmkkelcaaGreatDoorR5s
import Derived.Test.YtlcncicmkkelcaaGreatDoorR7s
import Derived.Test.YtlcncicmkkelcaaGreatDoorR1s
import Derived.Test.YtlcncicmkkelcaaGreatDoorR6s
import Derived.Test.YtlcncicmkkelcaaGreatDoorR4s
import Derived.Test.YtlcncicmkkelcaaGreatDoorR3s
import Derived.Test.YtlcncicmkkelcaaGreatDoorM6s
set_option linter.unusedSimpArgs false
set_option linter.unusedVariables false
set_option linter.deprecated false
set_option maxHeartbeats 8000000
set_option maxRecDepth 10000
namespace Go.Vs
open Go
@[simp] theorem ownV_arr {oid k n:Nat} {own:List (Nat × Nat)} {L:Nat→Option Obj} {u:Upd}:ownV oid own L (.sc (.arr k n),u)=some (.sc (.arr k n),u):=by
 cases own with
 | nil=>rfl
 | cons p own=>simp [ownV]
end Go.Vs
namespace Go.Vs.Tryz
open Go Go.Vs
variable {A:Oracle}
def kidsN (k:Int):Nat:=if k=5∨k=6∨k=7 then 2 else if k=4∨k=8∨k=9∨k=11 then 1 else 0
def shp1 (e:Exp):Prop:=e.wf1∧(e.kind=1→e.num=0∧e.ty=tz)∧e.kids.length=kidsN e.kind
def shp (e:Exp):Prop:=e.fold fun e l=>shp1 e∧∀ p∈l,p
theorem shp_eq (e:Exp):shp e=(shp1 e∧∀ x∈e.children,shp x):=by
 have:=Exp.fold_eq (fun e (l:List Prop)=>shp1 e∧∀ p∈l,p) e
 unfold shp
 rw [this]
 simp only [List.forall_mem_map]
theorem shp.one {e:Exp}(h:shp e):shp1 e:=by rw [shp_eq] at h;exact h.1
theorem shp.child {e x:Exp}(h:shp e)(hx:x∈e.children):shp x:=by rw [shp_eq] at h;exact h.2 x hx
theorem shp.wf {e:Exp}:shp e→e.wf:=by
 induction e using Exp.ind with
 | h e ih =>
  intro h
  rw [Exp.wf_eq]
  exact ⟨h.one.1,fun x hx=>ih x hx (h.child hx)⟩
def zeroE:Exp:=.mk 0 0 [] 0 [] [] tz
def zerosM (e:Exp):List Exp:=List.replicate e.children.length zeroE
@[simp] theorem zerosM_len (e:Exp):(zerosM e).length=e.kids.length+e.arms.length:=by rw [zerosM,List.length_replicate,e.children_len]
theorem pairs_cons {l:List (Str × Str)}(h:l≠[]):∃ c rows,pairRows l=c::rows:=by
 cases l with
 | nil=>exact absurd rfl h
 | cons e r=>exact ⟨pairRow e,pairRows r,rfl⟩
theorem clone133 (l:List (Str × Str))(hl:l.length≤4294967296):(K A).call 133 [pairsV l] []=some (.sc (.arr 0 l.length),[.arr 2 (wr (pairRows l)) 0]):=by
 by_cases h:l=[]
 ·subst h
  exact clone_own (by kernel_rfl) (by kernel_rfl) (by kernel_rfl) (by kernel_rfl)
 ·obtain ⟨c,rows,hr⟩:=pairs_cons h
  have hlen:rows.length+1=l.length:=by
   have:=pairRows_len l
   rw [hr] at this
   simpa using this
  have hok:okRows 2 (wr (c::rows))=true:=hr▸okRows_pair l
  have hp:pairsV l=V.sc (.c (.sl (c::rows))):=by rw [←hr]
  rw [hr,hp,clone_data (by kernel_rfl) (by kernel_rfl)]
  refine clone_fn (vf:=v133) (by kernel_rfl) rfl (by decide) ?_
  unfold v133
  rw [wr_cons] at hok
  simp (disch:=first|omega|(simp;done)|(simp;omega)) [hok]
  omega
def zrows (e:Exp)(i:Nat):List Exp:=(zerosM e).take i++e.children.drop i
variable {A:Oracle}
@[simp] theorem tz_size:tz.size≤46656:=by decide
def cOk (ds:List DataD)(s:Str):Prop:=s=[71,111,110,101]∨∃ d∈ds,∃ c∈d.cons,s=c.name
def rawS (ds:List DataD)(e:Exp):Prop :=
 (e.kind=1∧e.name∈varNames∧e.kids=[]∧e.arms=[])∨(e.kind=2∧cOk ds e.name∧e.kids=[]∧e.arms=[])∨((e.kind=3∨e.kind=10)∧e.name=[]∧e.kids=[]∧e.arms=[]) ∨
 (e.kind=4∧e.name∈varNames∧(∃ x,e.kids=[x])∧e.arms=[])∨(e.kind=5∧e.name=[]∧(∃ x y,e.kids=[x,y])∧e.arms=[])∨((e.kind=6∨e.kind=7)∧e.name∈varNames∧(∃ x y,e.kids=[x,y])∧e.arms=[]) ∨
 ((e.kind=9∨e.kind=11)∧e.name=[]∧(∃ x,e.kids=[x])∧e.arms=[])∨(e.kind=8∧e.name=[]∧∃ x,e.kids=[x])
def armE (ds:List DataD)(a:ArmH × Exp):Prop:=a.1.pos=0∧cOk ds a.1.con∧a.1.vars.length≤4∧∀ v∈a.1.vars,v∈varNames
def rawE1 (ds:List DataD)(e:Exp):Prop:=e.pos=0∧(∀ a∈e.arms,armE ds a)∧e.ty.size≤46656∧(e.kind≠9→e.ty=tz)∧(e.kind≠3→e.num=0)∧rawS ds e
def rawE (ds:List DataD)(e:Exp):Prop:=e.fold fun e l=>rawE1 ds e∧∀ p∈l,p
theorem rawE_eq (ds:List DataD)(e:Exp):rawE ds e=(rawE1 ds e∧∀ x∈e.children,rawE ds x):=by
 have:=Exp.fold_eq (fun e (l:List Prop)=>rawE1 ds e∧∀ p∈l,p) e
 unfold rawE
 rw [this]
 simp only [List.forall_mem_map]
theorem rawE.one {ds:List DataD}{e:Exp}(h:rawE ds e):rawE1 ds e:=by rw [rawE_eq] at h;exact h.1
theorem rawE.child {ds:List DataD}{e x:Exp}(h:rawE ds e)(hx:x∈e.children):rawE ds x:=by rw [rawE_eq] at h;exact h.2 x hx
theorem rawE1.wf1 {ds:List DataD}{e:Exp}(h:rawE1 ds e):e.wf1:=by
 obtain ⟨_,_,_,_,_,h⟩:=h
 unfold Exp.wf1
 rcases h with ⟨k,_,hk,ha⟩|⟨k,_,hk,ha⟩|⟨k,_,hk,ha⟩|⟨k,_,⟨x,hk⟩,ha⟩|⟨k,_,⟨x,y,hk⟩,ha⟩|⟨k,_,⟨x,y,hk⟩,ha⟩|⟨k,_,⟨x,hk⟩,ha⟩|⟨k,_,x,hk⟩
 all_goals
  refine ⟨fun h => ?_,fun h => ?_,fun h => ?_⟩
  all_goals first | exact ha | exact hk | (rw [hk];rfl) | (exfalso;omega)
theorem rawE.wf {ds:List DataD}{e:Exp}:rawE ds e→e.wf:=by
 induction e using Exp.ind with
 | h e ih =>
  intro h
  rw [Exp.wf_eq]
  exact ⟨h.one.wf1,fun x hx=>ih x hx (h.child hx)⟩
theorem rawE.tyBd {ds:List DataD}{e:Exp}:rawE ds e→tyBd e:=by
 induction e using Exp.ind with
 | h e ih =>
  intro h
  rw [tyBd_eq]
  exact ⟨Nat.le_trans h.one.2.2.1 (by decide),fun x hx=>ih x hx (h.child hx)⟩
def wB (d:Nat):Nat:=32*8 ^ d
def RawQ (L:List Int)(ds:List DataD)(B:Nat)(r:V × List Obj):Prop:=∃ e J,rawE ds e∧e.weight≤B∧J≤L.length∧r=(expV e,[tapeO L J])
def ArmQ (L:List Int)(ds:List DataD)(dd:DataD)(x:Exp)(B d i:Nat)(s:St):Prop:=∃ arms J,arms.length=i∧J≤L.length∧(∀ a∈arms,armE ds a∧rawE ds a.2∧a.2.weight≤B) ∧
 s=⟨[(0,.sc (.ptr 0 0)),(1,datasV ds),(2,intV (d+1)),(6,.sc (.ptr 64 0)),(13,.sc (.ptr 10176 0)),(14,.sc (.ptr 10752 0)),(15,intV i)],
  [(0,some (tapeO L J)),(64,some (.box [zi,zi,zs,zi,.nil,.nil,zi,zs,zi,zi,.nil])),(10176,some (.box (wc (dataRow dd)))),(10624,some (.arr 11 [wc x.row] 0)),
    (10752,some (.box [.c (.int .i64 8),zi,zs,zi,.arr 10624 1,.arr 10822 i,zi,zs,zi,zi,.nil])),(10822,some (.arr 14 (wr (Exp.armRows arms)) 0))]⟩
def VarQ (L:List Int)(ds:List DataD)(dd:DataD)(x:Exp)(arms:List (ArmH × Exp))(con:Str)(d i j:Nat)(s:St):Prop:=∃ vars J,vars.length=j∧(∀ v∈vars,v∈varNames)∧J≤L.length ∧
 s=⟨[(0,.sc (.ptr 0 0)),(1,datasV ds),(2,intV (d+1)),(6,.sc (.ptr 64 0)),(13,.sc (.ptr 10176 0)),(14,.sc (.ptr 10752 0)),(15,intV i),(16,.sc (.ptr 11712 0)),(17,intV j)],
  [(0,some (tapeO L J)),(64,some (.box [zi,zi,zs,zi,.nil,.nil,zi,zs,zi,zi,.nil])),(10176,some (.box (wc (dataRow dd)))),(10624,some (.arr 11 [wc x.row] 0)),
    (10752,some (.box [.c (.int .i64 8),zi,zs,zi,.arr 10624 1,.arr 10822 i,zi,zs,zi,zi,.nil])),(10822,some (.arr 14 (wr (Exp.armRows arms)) 0)),
    (11712,some (.box [zi,.c (.str con),.arr 11779 j,zi,zi,zs,zi,.nil,.nil,zi,zs,zi,zi,.nil])),(11779,some (.arr 1 (wr (strRows vars)) 0))]⟩
def MadeQ (ds7:List DataD)(L:List Int)(r:V × List Obj):Prop:=∃ a b J ds,(∀ d∈ds,d∈ds7)∧goodDs ds∧rawE ds a∧a.weight≤wB 4∧rawE ds b∧b.weight≤wB 3∧J≤L.length∧r=(.tu [expV a,expV b,.sc (.ptr 0 0)],[tapeO L J])
variable {A:Oracle}
theorem rawE1.shp1 {ds:List DataD}{e:Exp}(h:rawE1 ds e):shp1 e:=by
 refine ⟨h.wf1,?_,?_⟩
 ·intro hk
  exact ⟨h.2.2.2.2.1 (by omega),h.2.2.2.1 (by omega)⟩
 ·obtain ⟨_,_,_,_,_,h⟩:=h
  unfold kidsN
  rcases h with ⟨k,_,hk,ha⟩|⟨k,_,hk,ha⟩|⟨k,_,hk,ha⟩|⟨k,_,⟨x,hk⟩,ha⟩|⟨k,_,⟨x,y,hk⟩,ha⟩|⟨k,_,⟨x,y,hk⟩,ha⟩|⟨k,_,⟨x,hk⟩,ha⟩|⟨k,_,x,hk⟩
  ·rw [hk,if_neg (by omega),if_neg (by omega)];rfl
  ·rw [hk,if_neg (by omega),if_neg (by omega)];rfl
  ·rw [hk,if_neg (by omega),if_neg (by omega)];rfl
  ·rw [hk,if_neg (by omega),if_pos (by omega)];rfl
  ·rw [hk,if_pos (by omega)];rfl
  ·rw [hk,if_pos (by omega)];rfl
  ·rw [hk,if_neg (by omega),if_pos (by omega)];rfl
  ·rw [hk,if_neg (by omega),if_pos (by omega)];rfl
theorem rawE.shp {ds:List DataD}{e:Exp}:rawE ds e→shp e:=by
 induction e using Exp.ind with
 | h e ih =>
  intro h
  rw [shp_eq]
  exact ⟨h.one.shp1,fun x hx=>ih x hx (h.child hx)⟩
theorem headEq.shp1 {e c:Exp}(h:headEq e c)(hk:e.kind≠1)(hs:shp1 e):shp1 c:=by
 obtain ⟨h1,h2,h3,h4,h5⟩:=h
 obtain ⟨⟨w1,w2,w3⟩,_,w5⟩:=hs
 refine ⟨⟨fun h8 => ?_,fun h8 => ?_,fun h8=>absurd (h1.trans h8) hk⟩,fun h8=>absurd (h1.trans h8) hk,?_⟩
 ·rw [←h4];exact w1 (h1.trans h8)
 ·have:=w2 (by rw [h1];exact h8)
  rw [this] at h5
  exact List.length_eq_zero_iff.1 h5.symm
 ·rw [←h4,w5,h1]
theorem canon_tyBd (taken:List Str)(e:Exp):∀ old names,e.wf→tyBd e→tyBd (canonM taken e old names):=by
 induction e using Exp.ind with
 | h e ih =>
  intro old names hw h
  by_cases hk:e.kind=1
  ·rw [canonM_var hk]
   split
   ·rw [tyBd_eq]
    exact ⟨h.one,fun x hx=>h.child hx⟩
   ·exact h
  ·obtain ⟨p1,p2,_⟩:=canon_parts (taken:=taken) (old:=old) (names:=names) hk hw.one
   rw [tyBd_eq]
   refine ⟨by rw [←p1.2.2.1];exact h.one,fun y hy => ?_⟩
   rw [p2] at hy
   obtain ⟨i,hi⟩:=List.mem_iff_getElem?.1 hy
   have hlt:i<e.children.length:=by
    rcases Nat.lt_or_ge i (canonC taken e old names).length with h2|h2
    ·rwa [canonC_len,←e.children_len] at h2
    ·rw [List.getElem?_eq_none h2] at hi;cases hi
   obtain ⟨x,hx⟩:=get_of_lt hlt
   rw [canonC_get hx] at hi
   cases hi
   exact ih x (List.mem_of_getElem? hx) _ _ (hw.child (List.mem_of_getElem? hx)) (h.child (List.mem_of_getElem? hx))
theorem strip_shp (e:Exp):shp e→shp (stripM e):=by
 induction e using Exp.ind with
 | h e ih =>
  intro h
  obtain ⟨h1,h2,h3,h4,h5,h6,h7,h8⟩:=strip_parts e
  obtain ⟨⟨w1,w2,w3⟩,w4,w5⟩:=h.one
  rw [shp_eq]
  refine ⟨⟨⟨fun k=>by rw [h5];exact w1 (h1▸k),fun k => ?_,fun k => ?_⟩,fun k=>by rw [h3,h4];exact w4 (h1▸k),by rw [h5,h1];exact w5⟩,fun y hy => ?_⟩
  ·have:=w2 (h1▸k)
   rw [this] at h6
   exact List.length_eq_zero_iff.1 h6
  ·have:=w3 (h1▸k)
   rw [this] at h5
   exact List.length_eq_zero_iff.1 h5
  ·rw [h7] at hy
   obtain ⟨x,hx,rfl⟩:=List.mem_map.1 hy
   exact ih x hx (h.child hx)
theorem strip_tyBd (e:Exp):tyBd e→tyBd (stripM e):=by
 induction e using Exp.ind with
 | h e ih =>
  intro h
  obtain ⟨h1,h2,h3,h4,h5,h6,h7,h8⟩:=strip_parts e
  rw [tyBd_eq]
  refine ⟨by rw [h4];exact h.one,fun y hy => ?_⟩
  rw [h7] at hy
  obtain ⟨x,hx,rfl⟩:=List.mem_map.1 hy
  exact ih x hx (h.child hx)
theorem canonT_tyBd {e:Exp}(taken:List Str)(hw:e.wf)(h:tyBd e):tyBd (canonT e taken):=canon_tyBd _ _ _ _ (strip_wf e hw) (strip_tyBd e h)
theorem canonT_weight {e:Exp}(taken:List Str)(hw:e.wf):(canonT e taken).weight=e.weight:=by
 unfold canonT
 rw [canon_weight _ _ _ _ (strip_wf e hw),strip_weight]
theorem IffB.get {P:Prop}{r:V × List Obj}(h:IffB P r)(hp:P):r=(boolV true,[]):=by
 obtain ⟨v,hv,rfl⟩:=h
 rw [hv.2 hp]
variable {A:Oracle}
abbrev u64V (n:Nat):V:=.sc (.c (.int .u64 n))
def u64Row (n:Nat):List Cell:=[.int .u64 n]
def u64Rows (d:List Nat):List (List Cell):=d.map u64Row
@[simp] theorem u64Row_len (n:Nat):(u64Row n).length=1:=rfl
@[simp] theorem u64Rows_len (d:List Nat):(u64Rows d).length=d.length:=by simp [u64Rows]
@[simp] theorem u64Rows_get (d:List Nat) (i:Nat):(u64Rows d)[i]?=(d[i]?).map u64Row:=by simp [u64Rows]
@[simp] theorem okRows_u64 (d:List Nat):okRows 1 (wr (u64Rows d))=true:=okRows_of d u64Row_len
@[simp] theorem wc_u64 (n:Nat):wc (u64Row n)=[.c (.int .u64 n)]:=rfl
@[simp] theorem u64Rows_snoc (d:List Nat) (x:Nat):wr (u64Rows d)++[[W.c (.int .u64 x)]]=wr (u64Rows (d++[x])):=by simp [u64Rows,wr,u64Row]
@[simp] theorem u64_set (d:List Nat) (i x:Nat):setRow (wr (u64Rows d)) i [W.c (.int .u64 x)]=wr (u64Rows (d.set i x)):=by
 rw [setRow_set]
 simp [u64Rows,wr,List.map_set,u64Row]
abbrev arrU (d:List Nat):Obj:=.arr 1 (wr (u64Rows d)) 0
def sortedIn (a b:Nat)(d:List Nat):Prop:=∀ (p q x y:Nat),a≤p→p<q→q<b→d[p]?=some x→d[q]?=some y→x≤y
def SortR (a b:Nat)(d e:List Nat):Prop:=e.Perm d∧(∀ k,k<a∨b≤k→e[k]?=d[k]?)∧sortedIn a b e
def butAt (a i j:Nat)(d:List Nat):Prop:=∀ (p q x y:Nat),a≤p→p<q→q≤i→q≠j→d[p]?=some x→d[q]?=some y→x≤y
theorem less198 (a b:Nat):(K A).call 198 [u64V a,u64V b] []=some (boolV (decide (a<b)),[]):=by
 refine fn_of (vf:=v198) (by kernel_rfl) rfl (by simp) ?_
 have h:∀ n:Nat,(K A).call 245 [u64V n] []=some (boolV false,[]):=fun n=>by
  refine fn_of (vf:=v245) (by kernel_rfl) rfl (by simp) ?_
  unfold v245
  simp
 unfold v198
 simp [h]
def retV:V:=.tu []
def cmpTo (d:List Nat):Nat→List Nat
 | 0=>[]
 | m+1=>match d[m]? with
  | none=>cmpTo d m
  | some x=>if 0<m∧d[m-1]?=some x then cmpTo d m else cmpTo d m++[x]
theorem cmpTo_keep {d:List Nat}{m x:Nat}(h:d[m]?=some x)(hn:¬(0<m∧d[m-1]?=some x)):cmpTo d (m+1)=cmpTo d m++[x]:=by
 simp only [cmpTo,h,if_neg hn]
theorem cmpTo_drop {d:List Nat}{m x:Nat}(h:d[m]?=some x)(hm:0<m)(hn:d[m-1]?=some x):cmpTo d (m+1)=cmpTo d m:=by
 simp only [cmpTo,h,if_pos (⟨hm,hn⟩:0<m∧d[m-1]?=some x)]
theorem cmpTo_len (d:List Nat):∀ m,(cmpTo d m).length≤m
 | 0=>by simp [cmpTo]
 | m+1=>by
  have:=cmpTo_len d m
  simp only [cmpTo]
  split
  ·omega
  ·split
   ·omega
   ·simp;omega
theorem cmpTo_mem {d:List Nat}{x:Nat}:∀ {m:Nat},x∈cmpTo d m↔∃ k,k<m∧d[k]?=some x
 | 0=>by simp [cmpTo]
 | m+1=>by
  have ih:=@cmpTo_mem d x m
  cases h:d[m]? with
  | none =>
   simp only [cmpTo,h]
   rw [ih]
   constructor
   ·rintro ⟨k,hk,hx⟩
    exact ⟨k,by omega,hx⟩
   ·rintro ⟨k,hk,hx⟩
    refine ⟨k,?_,hx⟩
    rcases Nat.lt_or_ge k m with h1|h1
    ·exact h1
    ·have:k=m:=by omega
     rw [this,h] at hx
     cases hx
  | some y =>
   by_cases hn:0<m∧d[m-1]?=some y
   ·rw [cmpTo_drop h hn.1 hn.2,ih]
    constructor
    ·rintro ⟨k,hk,hx⟩
     exact ⟨k,by omega,hx⟩
    ·rintro ⟨k,hk,hx⟩
     rcases Nat.lt_or_ge k m with h1|h1
     ·exact ⟨k,h1,hx⟩
     ·have:k=m:=by omega
      rw [this,h] at hx
      cases hx
      exact ⟨m-1,by omega,hn.2⟩
   ·rw [cmpTo_keep h hn,List.mem_append,ih]
    simp only [List.mem_singleton]
    constructor
    ·rintro (⟨k,hk,hx⟩|rfl)
     ·exact ⟨k,by omega,hx⟩
     ·exact ⟨m,by omega,h⟩
    ·rintro ⟨k,hk,hx⟩
     rcases Nat.lt_or_ge k m with h1|h1
     ·exact .inl ⟨k,h1,hx⟩
     ·have:k=m:=by omega
      rw [this,h] at hx
      cases hx
      exact .inr rfl
def ascend (l:List Nat):Prop:=∀ (p q x y:Nat),p<q→l[p]?=some x→l[q]?=some y→x<y
theorem ascend_snoc {l:List Nat}{x:Nat}(h:ascend l)(hx:∀ y∈l,y<x):ascend (l++[x]):=by
 intro p q u v hpq hu hv
 have hq:=(List.getElem?_eq_some_iff.1 hv).1
 simp only [List.length_append,List.length_singleton] at hq
 rw [List.getElem?_append_left (by omega)] at hu
 rcases Nat.lt_or_ge q l.length with h1|h1
 ·rw [List.getElem?_append_left h1] at hv
  exact h p q u v hpq hu hv
 ·rw [List.getElem?_append_right h1,show q-l.length=0 by omega] at hv
  cases hv
  exact hx u (List.mem_of_getElem? hu)
theorem cmpTo_ascend {d:List Nat}(hs:sortedIn 0 d.length d):∀ m,ascend (cmpTo d m)
 | 0=>fun p q x y _ hx=>by simp [cmpTo] at hx
 | m+1=>by
  have ih:=cmpTo_ascend hs m
  cases h:d[m]? with
  | none=>simpa only [cmpTo,h] using ih
  | some y =>
   by_cases hn:0<m∧d[m-1]?=some y
   ·rw [cmpTo_drop h hn.1 hn.2]
    exact ih
   ·rw [cmpTo_keep h hn]
    refine ascend_snoc ih fun u hu => ?_
    obtain ⟨k,hk,hx⟩:=cmpTo_mem.1 hu
    have hm:=(List.getElem?_eq_some_iff.1 h).1
    have h1:=hs k m u y (Nat.zero_le _) hk hm hx h
    rcases Nat.lt_or_eq_of_le h1 with h2|h2
    ·exact h2
    ·exfalso
     obtain ⟨z,hz⟩:=get_of_lt (l:=d) (i:=m-1) (by omega)
     have h3:z=y:=by
      have h4:=hs (m-1) m z y (Nat.zero_le _) (by omega) hm hz h
      rcases Nat.lt_or_ge k (m-1) with h5|h5
      ·have h6:=hs k (m-1) u z (Nat.zero_le _) h5 (by omega) hx hz
       omega
      ·have:k=m-1:=by omega
       rw [this,hz] at hx
       cases hx
       omega
     exact hn ⟨by omega,by rw [hz,h3]⟩
def bump (k i:Nat):Nat:=if i≤k then k+1 else k
def below (l:List Nat)(k:Nat):Nat:=(l.filter fun j=>decide (j<k)).length
theorem below_succ:∀ {l:List Nat}{k:Nat},l.Nodup→below l (k+1)=below l k+if k∈l then 1 else 0
 | [],k,_=>by simp [below]
 | a::l,k,h=>by
  have ih:=@below_succ l k (List.nodup_cons.1 h).2
  have hn:=(List.nodup_cons.1 h).1
  unfold below at ih ⊢
  simp only [List.filter_cons]
  by_cases h1:a<k
  ·have h2:a<k+1:=by omega
   have h3:¬k=a:=by omega
   simp only [h1,h2,decide_true,if_true,List.length_cons,List.mem_cons,h3,false_or]
   omega
  ·by_cases h2:a=k
   ·subst h2
    have h3:a<a+1:=by omega
    simp only [h1,h3,decide_true,decide_false,if_true,List.length_cons,List.mem_cons,true_or,Bool.false_eq_true,if_false]
    rw [if_neg hn] at ih
    omega
   ·have h3:¬a<k+1:=by omega
    have h4:¬k=a:=fun h=>h2 h.symm
    simp only [h1,h3,decide_false,Bool.false_eq_true,if_false,List.mem_cons,h4,false_or]
    exact ih
theorem ascend_nodup:∀ {l:List Nat},ascend l→l.Nodup:=by
 intro l h
 rw [List.nodup_iff_pairwise_ne]
 rw [List.pairwise_iff_getElem]
 intro i j hi hj hij heq
 have:=h i j l[i] l[j] hij (List.getElem?_eq_getElem hi) (List.getElem?_eq_getElem hj)
 omega
theorem bump_inv {l:List Nat}(hl:ascend l)(n:Nat):∀ t,t≤l.length→(((l.take t).foldl bump (n+1))=n+1+below (l.take t) ((l.take t).foldl bump (n+1)))∧(l.take t).foldl bump (n+1)∉l.take t
 | 0,_=>by simp [below]
 | t+1,ht=>by
  obtain ⟨h1,h2⟩:=bump_inv hl n t (by omega)
  obtain ⟨c,hc⟩:=get_of_lt (l:=l) (i:=t) (by omega)
  rw [take_next hc,List.foldl_append,List.foldl_cons,List.foldl_nil]
  generalize hk:(l.take t).foldl bump (n+1)=k at h1 h2
  have hlt:∀ x∈l.take t,x<c:=by
   intro x hx
   obtain ⟨i,hi⟩:=List.mem_iff_getElem?.1 hx
   rw [List.getElem?_take] at hi
   split at hi
   ·rename_i hit
    exact hl i t x c hit hi hc
   ·cases hi
  unfold bump
  by_cases hck:c≤k
  ·rw [if_pos hck]
   constructor
   ·unfold below at h1 ⊢
    rw [List.filter_append,List.length_append]
    have e1:((l.take t).filter fun j=>decide (j<k+1))=(l.take t).filter fun j=>decide (j<k):=List.filter_congr fun x hx=>by
     have:=hlt x hx
     have h3:x≠k:=fun h=>h2 (h▸hx)
     simp only [decide_eq_decide]
     omega
    rw [e1]
    have e2:([c].filter fun j=>decide (j<k+1)).length=1:=by
     have:c<k+1:=by omega
     simp [this]
    omega
   ·simp only [List.mem_append,List.mem_singleton,not_or]
    refine ⟨fun h => ?_,by omega⟩
    have:=hlt _ h
    omega
  ·rw [if_neg hck]
   constructor
   ·unfold below at h1 ⊢
    rw [List.filter_append,List.length_append]
    have e2:([c].filter fun j=>decide (j<k)).length=0:=by
     have:¬c<k:=by omega
     simp [this]
    omega
   ·simp only [List.mem_append,List.mem_singleton,not_or]
    exact ⟨h2,by omega⟩
def freeN (taken:List Str)(a b:Nat):Nat:=((List.range b).filter fun j=>decide (a≤j∧vName j∉taken)).length
theorem freeN_succ (taken:List Str)(a b:Nat)(h:a≤b):freeN taken a (b+1)=freeN taken a b+if vName b∉taken then 1 else 0:=by
 unfold freeN
 rw [List.range_succ,List.filter_append,List.length_append]
 congr 1
 by_cases hb:vName b∉taken
 ·simp [hb,h]
 ·simp [hb]
theorem freeN_self (taken:List Str)(a:Nat):freeN taken a a=0:=by
 unfold freeN
 rw [List.length_eq_zero_iff,List.filter_eq_nil_iff]
 intro x hx
 have:=List.mem_range.1 hx
 simp only [decide_eq_true_eq,not_and]
 omega
theorem freeN_split (taken:List Str)(a:Nat):∀ b,a<b→freeN taken a b=(if vName a∉taken then 1 else 0)+freeN taken (a+1) b
 | 0,h=>by omega
 | b+1,h=>by
  rcases Nat.lt_or_ge a b with h1|h1
  ·rw [freeN_succ _ _ _ (by omega),freeN_succ _ _ _ (by omega),freeN_split taken a b h1]
   omega
  ·have:a=b:=by omega
   subst this
   rw [freeN_succ _ _ _ (Nat.le_refl _),freeN_self,freeN_self]
   omega
theorem freshF_count (taken:List Str):∀ f k n,n+vCount taken k<f→freeN taken k (freshF taken f k n)=n
 | 0,k,n,h=>by omega
 | f+1,k,n,h=>by
  simp only [freshF]
  split
  ·rename_i hm
   have h1:=freshF_count taken f (k+1) n (by have:=vCount_lt hm;omega)
   have h2:=freshF_ge taken f (k+1) n
   rw [freeN_split _ _ _ (by omega),h1,if_neg (by simpa using hm)]
   omega
  ·rename_i hm
   split
   ·rename_i h0
    rw [freeN_self,h0]
   ·have h1:=freshF_count taken f (k+1) (n-1) (by have:=vCount_mono taken k;omega)
    have h2:=freshF_ge taken f (k+1) (n-1)
    rw [freeN_split _ _ _ (by omega),h1,if_pos hm]
    omega
theorem freeN_mono (taken:List Str)(a:Nat):∀ {b c},a≤b→b≤c→freeN taken a b≤freeN taken a c:=by
 intro b c hab hbc
 induction c with
 | zero =>
  have:b=0:=by omega
  rw [this]
  exact Nat.le_refl _
 | succ c ih =>
  rcases Nat.lt_or_ge b (c+1) with h|h
  ·rw [freeN_succ _ _ _ (by omega)]
   have:=ih (by omega)
   omega
  ·have:b=c+1:=by omega
   rw [this]
   exact Nat.le_refl _
theorem fresh_unique {taken:List Str}{n k:Nat}(h1:1≤k)(hk:vName k∉taken)(hc:freeN taken 1 k=n):freshK n taken=k:=by
 have hn:=freshS_not n taken
 have hm:freeN taken 1 (freshK n taken)=n:=freshF_count taken _ _ _ (by have:=vCount_le taken 1;omega)
 have h2:1≤freshK n taken:=freshF_ge taken _ 1 n
 have hr:vName (freshK n taken)∉taken:=hn
 generalize freshK n taken=r at hr hm h2 ⊢
 rcases Nat.lt_trichotomy r k with h|h|h
 ·have h3:=freeN_mono taken 1 (b:=r+1) (c:=k) (by omega) (by omega)
  rw [freeN_succ _ _ _ h2,if_pos hr] at h3
  omega
 ·exact h
 ·have h3:=freeN_mono taken 1 (b:=k+1) (c:=r) (by omega) (by omega)
  rw [freeN_succ _ _ _ h1,if_pos hk] at h3
  omega
theorem mem_outP {e:Exp}{s:Str}:∀ n,s∈outP e n→n≤e.children.length→∃ (i:Nat)(x:Exp),e.children[i]?=some x∧s∈freeP x∧s∉e.bound i
 | 0,h,_=>by simp [outP] at h
 | n+1,h,hn=>by
  obtain ⟨x,hx⟩:=get_of_lt (l:=e.children) (i:=n) (by omega)
  rw [outP_succ hx,mem_foldNew] at h
  rcases h with h|h
  ·exact mem_outP n h (by omega)
  ·exact ⟨n,x,hx,h.1,h.2⟩
theorem mem_freeP {e:Exp}{s:Str}(hk:e.kind≠1):s∈freeP e↔∃ (i:Nat)(x:Exp),e.children[i]?=some x∧s∈freeP x∧s∉e.bound i:=by
 constructor
 ·intro h
  rw [freeP_eq,if_neg hk,←outP_end] at h
  exact mem_outP _ h (Nat.le_refl _)
 ·rintro ⟨i,x,hx,hs,hb⟩
  exact (free_child hk hx hs).resolve_left hb
theorem mem_freeP_var {e:Exp}{s:Str}(hk:e.kind=1):s∈freeP e↔s=e.name:=by rw [freeP_eq,if_pos hk,List.mem_singleton]
def nmN1 (e:Exp):Prop:=e.kind=1∨e.kind=2∨e.kind=4∨e.kind=6∨e.kind=7∨e.name=[]
def nmN (e:Exp):Prop:=e.fold fun e l=>nmN1 e∧∀ p∈l,p
theorem nmN_eq (e:Exp):nmN e=(nmN1 e∧∀ x∈e.children,nmN x):=by
 have:=Exp.fold_eq (fun e (l:List Prop)=>nmN1 e∧∀ p∈l,p) e
 unfold nmN
 rw [this]
 simp only [List.forall_mem_map]
theorem nmN.one {e:Exp}(h:nmN e):nmN1 e:=by rw [nmN_eq] at h;exact h.1
theorem nmN.child {e x:Exp}(h:nmN e)(hx:x∈e.children):nmN x:=by rw [nmN_eq] at h;exact h.2 x hx
theorem rawE.nmN {ds:List DataD}{e:Exp}:rawE ds e→nmN e:=by
 induction e using Exp.ind with
 | h e ih =>
  intro h
  rw [nmN_eq]
  refine ⟨?_,fun x hx=>ih x hx (h.child hx)⟩
  obtain ⟨_,_,_,_,_,h⟩:=h.one
  unfold nmN1
  rcases h with ⟨k,_⟩|⟨k,_⟩|⟨_,n,_⟩|⟨k,_⟩|⟨_,n,_⟩|⟨k,_⟩|⟨_,n,_⟩|⟨_,n,_⟩
  ·exact .inl k
  ·exact .inr (.inl k)
  ·exact .inr (.inr (.inr (.inr (.inr n))))
  ·exact .inr (.inr (.inl k))
  ·exact .inr (.inr (.inr (.inr (.inr n))))
  ·rcases k with k|k
   ·exact .inr (.inr (.inr (.inl k)))
   ·exact .inr (.inr (.inr (.inr (.inl k))))
  ·exact .inr (.inr (.inr (.inr (.inr n))))
  ·exact .inr (.inr (.inr (.inr (.inr n))))
variable {A:Oracle}
theorem words85 (l m:List Str)(h:l.length≤4294967296):(K A).call 85 [strsV l,strsV m] []=some (boolV (decide (l=m)),[]):=by
 refine fn_of (vf:=v85) (by kernel_rfl) rfl (by decide) ?_
 unfold v85
 by_cases hl:l.length=m.length
 ·have hp:=differ_le l m
  simp (disch:=first|omega|(simp;done)|(simp;omega)) [hl]
  refine wp_loop (fun i=>⟨[(0,strsV l),(1,strsV m),(5,intV i)],[]⟩) (differ l m) ?_ ?_ ?_
  ·simp
  ·intro i hi
   obtain ⟨x,hx,hy⟩:=differ_lt hi
   have hlt:i<m.length:=by omega
   unfold l85_0
   simp (disch:=first|omega|(simp;done)|(simp;omega)) [hx,hy,hlt,hl,-getElem?_pos]
  ·unfold l85_0
   by_cases hm:differ l m<l.length
   ·obtain ⟨x,y,hx,hy,hxy⟩:=differ_at hl hm
    have hne:l≠m:=fun h=>by rw [←differ_eq hl] at h;omega
    have hm':differ l m<m.length:=by omega
    simp (disch:=first|omega|(simp;done)|(simp;omega)) [hx,hy,hm',hl,hxy,hne,-getElem?_pos]
   ·have he:l=m:=(differ_eq hl).1 (by omega)
    subst he
    simp (disch:=first|omega|(simp;done)|(simp;omega)) [hm,-getElem?_pos]
 ·have hne:l≠m:=fun h=>hl (by rw [h])
  have hl':¬(l.length:Int)=m.length:=by omega
  simp (disch:=first|omega|(simp;done)|(simp;omega)) [hl',hne,hl]
theorem equalAll86 (l m:List Exp)(hl:l.length≤1073741824)(ih:∀ x∈l,∀ y∈m,∃ r,IffB (sameP x y) r∧(K A).call 35 [expV x,expV y] []=some r) :
 ∃ r,IffB (allR sameP l m) r∧(K A).call 86 [exsV l,exsV m] []=some r:=by
 refine fn_ofE _ (vf:=v86) (by kernel_rfl) rfl (by simp) ?_
 unfold v86
 by_cases hn:l.length=m.length
 ·simp (disch:=first|omega|(simp;done)|(simp;omega)) [hn]
  refine wp_loopI (fun i s=>(∀ (j:Nat) x y,j<i→l[j]?=some x→m[j]?=some y→sameP x y)∧s=⟨[(0,exsV l),(1,exsV m),(5,intV i)],[]⟩) l.length ⟨by omega,by simp⟩ ?_ ?_
  ·rintro i s hi ⟨hs,rfl⟩
   obtain ⟨x,hx⟩:=get_of_lt hi
   obtain ⟨y,hy⟩:=get_of_lt (l:=m) (i:=i) (by omega)
   obtain ⟨_,⟨b,hb,rfl⟩,hc⟩:=ih x (List.mem_of_getElem? hx) y (List.mem_of_getElem? hy)
   unfold l86_0
   cases b with
   | true =>
    have hxy:=hb.1 rfl
    simp (disch:=first|omega|(simp;done)|(simp;omega)) [hi,hx,hy,hc,-getElem?_pos]
    intro j x' y' hj hx' hy'
    by_cases hji:j=i
    ·subst hji
     rw [hx] at hx'
     rw [hy] at hy'
     cases hx'
     cases hy'
     exact hxy
    ·exact hs j x' y' (by omega) hx' hy'
   | false =>
    simp (disch:=first|omega|(simp;done)|(simp;omega)) [hi,hx,hy,hc,-getElem?_pos]
    exact IffB.no fun h=>by have:=hb.2 (h.2 i x y hx hy);cases this
  ·rintro s ⟨hs,rfl⟩
   unfold l86_0
   simp (disch:=first|omega|(simp;done)|(simp;omega))
   exact IffB.yes ⟨hn,fun i x y hx hy=>hs i x y (List.getElem?_eq_some_iff.1 hx).1 hx hy⟩
 ·have hn':¬(l.length:Int)=m.length:=by omega
  simp (disch:=first|omega|(simp;done)|(simp;omega)) [hn,hn']
  exact IffB.no fun h=>hn h.1
theorem equal35 (a:Exp):∀ b,tyBd a→a.weight≤1073741824→b.weight≤1073741824→∃ r,IffB (sameP a b) r∧(K A).call 35 [expV a,expV b] []=some r:=by
 induction a using Exp.ind with
 | h a ih =>
 intro b ht hw hwb
 have hal:=a.children_le
 have hbl:=b.children_le
 have hchA:=a.children_len
 have hchB:=b.children_len
 refine fn_ofE _ (vf:=v35) (by kernel_rfl) rfl (by simp) ?_
 obtain ⟨_,⟨t,h3,rfl⟩,hc3⟩:=teq85 (A:=A) 1073741824 a.ty b.ty ht.one (by omega)
 have hca:=children50 (A:=A) a (by omega)
 have hcb:=children50 (A:=A) b (by omega)
 obtain ⟨_,⟨vk,hK,rfl⟩,hck⟩:=equalAll86 (A:=A) a.children b.children (by omega) fun x hx y hy=>ih x hx y (ht.child hx) (by have:=Exp.child_lt hx;omega) (by have:=Exp.child_lt hy;omega)
 unfold v35
 by_cases q1:a.kind=b.kind
 case neg =>
  simp (disch:=first|omega|(simp;done)|(simp;omega)) [q1]
  exact IffB.no fun h=>by rw [sameP_eq] at h;exact q1 h.1
 by_cases q2:a.name=b.name
 case neg =>
  simp (disch:=first|omega|(simp;done)|(simp;omega)) [q1,q2]
  exact IffB.no fun h=>by rw [sameP_eq] at h;exact q2 h.2.1
 by_cases q3:a.num=b.num
 case neg =>
  simp (disch:=first|omega|(simp;done)|(simp;omega)) [q1,q2,q3]
  exact IffB.no fun h=>by rw [sameP_eq] at h;exact q3 h.2.2.1
 cases t with
 | false =>
  simp (disch:=first|omega|(simp;done)|(simp;omega)) [q1,q2,q3,hc3]
  exact IffB.no fun h=>by rw [sameP_eq] at h;have:=h3.2 h.2.2.2.1;cases this
 | true =>
 have q4:=h3.1 rfl
 by_cases q5:a.kids.length=b.kids.length
 case neg =>
  have q5':¬(a.kids.length:Int)=b.kids.length:=by omega
  simp (disch:=first|omega|(simp;done)|(simp;omega)) [q1,q2,q3,hc3,q5,q5']
  exact IffB.no fun h=>by rw [sameP_eq] at h;exact q5 h.2.2.2.2.1
 by_cases q6:a.arms.length=b.arms.length
 case neg =>
  have q6':¬(a.arms.length:Int)=b.arms.length:=by omega
  simp (disch:=first|omega|(simp;done)|(simp;omega)) [q1,q2,q3,hc3,q5,q6,q6']
  exact IffB.no fun h=>by rw [sameP_eq] at h;exact q6 h.2.2.2.2.2.1
 have hrest:(∀ (i:Nat) p q,a.arms[i]?=some p→b.arms[i]?=some q→p.1.con=q.1.con∧p.1.vars=q.1.vars)→IffB (sameP a b) (boolV vk,[]):=by
  intro harms
  refine ⟨vk,hK.trans ?_,rfl⟩
  rw [sameP_eq]
  exact ⟨fun h=>⟨q1,q2,q3,q4,q5,q6,harms,h.2⟩,fun h=>⟨by omega,h.2.2.2.2.2.2.2⟩⟩
 have hbad:∀ (i:Nat) p q,a.arms[i]?=some p→b.arms[i]?=some q→¬(p.1.con=q.1.con∧p.1.vars=q.1.vars)→IffB (sameP a b) (boolV false,[]):=by
  intro i p q hp hq h
  exact IffB.no fun h'=>by rw [sameP_eq] at h';exact h (h'.2.2.2.2.2.2.1 i p q hp hq)
 generalize sameP a b=P at hrest hbad ⊢
 clear ih hK ht
 simp (disch:=first|omega|(simp;done)|(simp;omega)) [q1,q2,q3,hc3,q5,q6]
 refine wp_loopI (fun i s=>(∀ (j:Nat) p q,j<i→a.arms[j]?=some p→b.arms[j]?=some q→p.1.con=q.1.con∧p.1.vars=q.1.vars)∧s=⟨[(2,.sc (.ptr 64 0)),(3,.sc (.ptr 128 0)),(5,intV i)],[(64,some (.box (wc a.row))),(128,some (.box (wc b.row)))]⟩) a.arms.length ⟨by omega,by simp⟩ ?_ ?_
 ·rintro i s hi ⟨hs,rfl⟩
  obtain ⟨p,hp⟩:=get_of_lt hi
  obtain ⟨q,hq⟩:=get_of_lt (l:=b.arms) (i:=i) (by omega)
  have hv:=Exp.vars_le (List.mem_of_getElem? hp)
  have hc:=words85 (A:=A) p.1.vars q.1.vars (by omega)
  have hib:i<b.arms.length:=by omega
  have bad:=hbad i p q hp hq
  have hiI:(i:Int)<b.arms.length:=by omega
  unfold l35_0
  by_cases c1:p.1.con=q.1.con
  ·by_cases c2:p.1.vars=q.1.vars
   ·rw [c2] at hc
    simp (maxSteps:=4000000) (disch:=first|omega|(simp;done)|(simp;omega)) [hi,hib,hiI,hp,hq,hc,c1,c2,q6,-getElem?_pos]
    intro j x1 x2 y1 y2 hj hx' hy'
    by_cases hji:j=i
    ·subst hji
     rw [hp] at hx'
     rw [hq] at hy'
     cases hx'
     cases hy'
     exact ⟨c1,c2⟩
    ·exact hs j _ _ (by omega) hx' hy'
   ·simp (maxSteps:=4000000) (disch:=first|omega|(simp;done)|(simp;omega)) [hi,hib,hiI,hp,hq,hc,c1,c2,q6,-getElem?_pos]
    exact bad fun h=>c2 h.2
  ·simp (maxSteps:=4000000) (disch:=first|omega|(simp;done)|(simp;omega)) [hi,hib,hiI,hp,hq,hc,c1,q6,-getElem?_pos]
   exact bad fun h=>c1 h.1
 ·rintro s ⟨hs,rfl⟩
  have yes:=hrest fun i p q hp hq=>hs i p q (List.getElem?_eq_some_iff.1 hp).1 hp hq
  unfold l35_0
  simp (maxSteps:=4000000) (disch:=first|omega|(simp;done)|(simp;omega)) [hca,hcb,hck,q6,-getElem?_pos]
  exact yes
variable {A:Oracle}
theorem strip94 (e:Exp):e.wf→e.weight≤1073741824→(K A).call 94 [expV e] []=some (expV (stripM e),[]):=by
 induction e using Exp.ind with
 | h e ih =>
 intro hwf hl
 refine fn_of (vf:=v94) (by kernel_rfl) rfl (by simp) ?_
 have hle:=e.children_le
 rw [e.children_len] at hle
 have hml:(e.children.map stripM).length=e.children.length:=by simp
 have hw:=with146 (A:=A) e (e.children.map stripM) (by rw [hml,e.children_len]) hl
 have hal:(armsW e.arms ((e.children.map stripM).drop e.kids.length)).length=e.arms.length:=by rw [armsW_len,List.length_drop,hml,e.children_len];omega
 rw [strip_kids] at hw
 have hks:(stripM e).kids.length=e.kids.length:=(strip_parts e).2.2.2.2.1
 have has:(stripM e).arms.length=e.arms.length:=(strip_parts e).2.2.2.2.2.1
 have hsa:=strip_arms e
 generalize armsW e.arms ((e.children.map stripM).drop e.kids.length)=ws at *
 have hpl:(armsP ws).length=ws.length:=armsP_len ws
 by_cases hkids:e.kids=[]
 ·have harms:e.arms=[]:=Classical.byContradiction fun h=>by
   have h8:e.kind=8:=Classical.byContradiction fun h8=>h (hwf.one.2.1 h8)
   have:=hwf.one.1 h8
   rw [hkids] at this
   simp at this
  have hc:=children51_leaf (A:=A) e hkids harms
  have hch:e.children=[]:=by simp [Exp.children,hkids,harms]
  rw [hch] at hw
  simp only [List.map_nil,exsV,rows0] at hw
  unfold v94
  simp (maxSteps:=4000000) (disch:=first|omega|(simp;done)|(simp;omega)) [hc,-getElem?_pos]
  refine wp_loop (fun i=>⟨[(1,.sc (.ptr 64 0)),(2,.sc (.ptr 128 0)),(3,.sc (.full [])),(9,.sc (.full [])),(10,intV 0),(11,intV i)],[(64,some (.box (wc e.row))),(128,some zbox2)]⟩) 0 (by simp) (fun i hi=>by omega) ?_
  unfold l94_0
  simp (maxSteps:=4000000) (disch:=first|omega|(simp;done)|(simp;omega)) [hw,hal,-getElem?_pos]
  refine wp_loop (fun i=>⟨[(1,.sc (.ptr 64 0)),(2,.sc (.ptr 128 0)),(28,intV e.arms.length),(29,intV i)],
   [(64,some (.box [.c (.int .i64 e.kind),zi,.c (.str e.name),.c (.int .i64 e.num),.arr 1696 e.kids.length,.arr 1697 e.arms.length,.c (.int .i64 e.ty.kind),.c (.str e.ty.name),.c (.int .i64 e.ty.id),.c (.int .i64 e.ty.home),.c (.sl (Ty.rows e.ty.args))])),(128,some zbox2),(1696,some (.arr 11 (wr (Exp.rows (stripM e).kids)) 0)),(1697,some (.arr 14 (wr (Exp.armRows ((armsP ws).take i++ws.drop i))) 0))]⟩) e.arms.length ?_ ?_ ?_
  ·simp
  ·intro i hi
   obtain ⟨a,ha⟩:=get_of_lt (l:=ws) (i:=i) (by omega)
   have hz:(armsP ws)[i]?=some ((⟨0,a.1.con,a.1.vars⟩:ArmH),a.2):=by
    unfold armsP
    rw [List.getElem?_map,ha]
    rfl
   have hg:=get_step (i:=i) hpl (by omega)
   rw [ha] at hg
   have hs:=set_step hpl hz
   have hln:=len_step (i:=i) hpl
   rw [←hs]
   generalize (armsP ws).take i++ws.drop i=zz at hg hln ⊢
   have hset:=armrows_set zz i ((⟨0,a.1.con,a.1.vars⟩:ArmH),a.2)
   have hsp:=pos_splice a
   have hln2:zz.length=e.arms.length:=by omega
   unfold l94_1
   simp (maxSteps:=4000000) (disch:=first|omega|(simp;done)|(simp;omega)) [hi,hg,hln2,hsp,hset,blt_dec,-getElem?_pos]
  ·have ht:(armsP ws).take e.arms.length++ws.drop e.arms.length=(stripM e).arms:=by
    rw [←hal,List.drop_length,List.append_nil,List.take_of_length_le (by omega),hsa]
   rw [ht]
   have hsr:=strip_row e
   unfold l94_1
   simp (maxSteps:=4000000) (disch:=first|omega|(simp;done)|(simp;omega)) [hsr,hks,has,-getElem?_pos]
 ·have hc:=children51 (A:=A) e hkids hl
  rw [e.children_len] at hc
  unfold v94
  simp (maxSteps:=4000000) (disch:=first|omega|(simp;done)|(simp;omega)) [hc,-getElem?_pos]
  refine wp_loop (fun i=>⟨[(1,.sc (.ptr 64 0)),(2,.sc (.ptr 128 0)),(3,.sc (.arr 288 (e.kids.length+e.arms.length))),(9,.sc (.arr 288 (e.kids.length+e.arms.length))),(10,intV ((e.kids.length:Int)+e.arms.length)),(11,intV i)],
   [(64,some (.box (wc e.row))),(128,some zbox2),(288,some (.arr 11 (wr (Exp.rows ((e.children.map stripM).take i++e.children.drop i))) 0))]⟩) (e.kids.length+e.arms.length) ?_ ?_ ?_
  ·simp
  ·intro i hi
   obtain ⟨x,hx⟩:=get_of_lt (l:=e.children) (i:=i) (by rw [e.children_len];exact hi)
   have hmem:=List.mem_of_getElem? hx
   have hrec:=ih x hmem (hwf.child hmem) (by have:=Exp.child_lt hmem;omega)
   have hz:(e.children.map stripM)[i]?=some (stripM x):=by simp [hx]
   have hg:=get_step (i:=i) hml (by rw [e.children_len];exact hi)
   rw [hx] at hg
   have hs:=set_step hml hz
   have hln:=len_step (i:=i) hml
   rw [←hs]
   generalize (e.children.map stripM).take i++e.children.drop i=zz at hg hln ⊢
   have hset:=rows_set zz i (stripM x)
   have hi':(i:Int)<(e.kids.length:Int)+e.arms.length:=by omega
   rw [e.children_len] at hln
   unfold l94_0
   simp (maxSteps:=4000000) (disch:=first|omega|(simp;done)|(simp;omega)) [hi,hi',hg,hln,hrec,hset,blt_dec,-getElem?_pos]
  ·have ht:(e.children.map stripM).take (e.kids.length+e.arms.length)++e.children.drop (e.kids.length+e.arms.length)=e.children.map stripM:=by
    rw [List.drop_of_length_le (by simp),List.append_nil,List.take_of_length_le (by simp)]
   rw [ht]
   unfold l94_0
   simp (maxSteps:=4000000) (disch:=first|omega|(simp;done)|(simp;omega)) [hw,hml,hal,-getElem?_pos]
   refine wp_loop (fun i=>⟨[(1,.sc (.ptr 64 0)),(2,.sc (.ptr 128 0)),(28,intV e.arms.length),(29,intV i)],
    [(64,some (.box [.c (.int .i64 e.kind),zi,.c (.str e.name),.c (.int .i64 e.num),.arr 1696 e.kids.length,.arr 1697 e.arms.length,.c (.int .i64 e.ty.kind),.c (.str e.ty.name),.c (.int .i64 e.ty.id),.c (.int .i64 e.ty.home),.c (.sl (Ty.rows e.ty.args))])),(128,some zbox2),(288,some (.arr 11 (wr (Exp.rows (e.children.map stripM))) (e.kids.length+e.arms.length))),(1696,some (.arr 11 (wr (Exp.rows (stripM e).kids)) 0)),(1697,some (.arr 14 (wr (Exp.armRows ((armsP ws).take i++ws.drop i))) 0))]⟩) e.arms.length ?_ ?_ ?_
   ·simp
   ·intro i hi
    obtain ⟨a,ha⟩:=get_of_lt (l:=ws) (i:=i) (by omega)
    have hz:(armsP ws)[i]?=some ((⟨0,a.1.con,a.1.vars⟩:ArmH),a.2):=by
     unfold armsP
     rw [List.getElem?_map,ha]
     rfl
    have hg:=get_step (i:=i) hpl (by omega)
    rw [ha] at hg
    have hs:=set_step hpl hz
    have hln:=len_step (i:=i) hpl
    rw [←hs]
    generalize (armsP ws).take i++ws.drop i=zz at hg hln ⊢
    have hset:=armrows_set zz i ((⟨0,a.1.con,a.1.vars⟩:ArmH),a.2)
    have hsp:=pos_splice a
    have hln2:zz.length=e.arms.length:=by omega
    unfold l94_1
    simp (maxSteps:=4000000) (disch:=first|omega|(simp;done)|(simp;omega)) [hi,hg,hln2,hsp,hset,blt_dec,-getElem?_pos]
   ·have ht:(armsP ws).take e.arms.length++ws.drop e.arms.length=(stripM e).arms:=by
     rw [←hal,List.drop_length,List.append_nil,List.take_of_length_le (by omega),hsa]
    rw [ht]
    have hsr:=strip_row e
    unfold l94_1
    simp (maxSteps:=4000000) (disch:=first|omega|(simp;done)|(simp;omega)) [hsr,hks,has,-getElem?_pos]
end Go.Vs.Tryz
