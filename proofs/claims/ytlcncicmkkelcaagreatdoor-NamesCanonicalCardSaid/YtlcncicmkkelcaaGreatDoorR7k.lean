/- Alpha equality by the program, walked. (Parts of one proof, put together.) -/
import Derived.Test.YtlcncicmkkelcaaGreatDoorR5k
import Derived.Test.YtlcncicmkkelcaaGreatDoorR6k
import Derived.Test.YtlcncicmkkelcaaGreatDoorR1k
import Derived.Test.YtlcncicmkkelcaaGreatDoorR4k
import Derived.Test.YtlcncicmkkelcaaGreatDoorR3k
import Derived.Test.YtlcncicmkkelcaaGreatDoorM6k
set_option linter.unusedSimpArgs false
set_option linter.unusedVariables false
set_option linter.deprecated false
set_option maxHeartbeats 8000000
namespace Go.Vs
open Go
@[simp] theorem ownV_arr {oid k n:Nat} {own:List (Nat × Nat)} {L:Nat→Option Obj} {u:Upd}:ownV oid own L (.sc (.arr k n),u)=some (.sc (.arr k n),u):=by
 cases own with
 | nil=>rfl
 | cons p own=>simp [ownV]
end Go.Vs
namespace Go.Vs.Tryz
open Go Go.Vs
variable {A:Oracle}
def kidsN (k:Int):Nat:=if k=5∨k=6∨k=7 then 2 else if k=4∨k=8∨k=9∨k=11 then 1 else 0
def shp1 (e:Exp):Prop:=e.wf1∧(e.kind=1→e.num=0∧e.ty=tz)∧e.kids.length=kidsN e.kind
def shp (e:Exp):Prop:=e.fold fun e l=>shp1 e∧∀ p∈l,p
theorem shp_eq (e:Exp):shp e=(shp1 e∧∀ x∈e.children,shp x):=by
 have:=Exp.fold_eq (fun e (l:List Prop)=>shp1 e∧∀ p∈l,p) e
 unfold shp
 rw [this]
 simp only [List.forall_mem_map]
theorem shp.one {e:Exp}(h:shp e):shp1 e:=by rw [shp_eq] at h;exact h.1
theorem shp.child {e x:Exp}(h:shp e)(hx:x∈e.children):shp x:=by rw [shp_eq] at h;exact h.2 x hx
theorem shp.wf {e:Exp}:shp e→e.wf:=by
 induction e using Exp.ind with
 | h e ih =>
  intro h
  rw [Exp.wf_eq]
  exact ⟨h.one.1,fun x hx=>ih x hx (h.child hx)⟩
def zeroE:Exp:=.mk 0 0 [] 0 [] [] tz
def zerosM (e:Exp):List Exp:=List.replicate e.children.length zeroE
@[simp] theorem zerosM_len (e:Exp):(zerosM e).length=e.kids.length+e.arms.length:=by rw [zerosM,List.length_replicate,e.children_len]
theorem bound_len {a b:Exp}(h:headEq a b)(ha:armsEq a b)(i:Nat):(a.bound i).length=(b.bound i).length:=by
 rw [bound_some,bound_some,h.1]
 split
 ·rfl
 ·split
  ·cases hp:a.arms[i-1]? with
   | none =>
    have:b.arms[i-1]?=none:=by
     rw [List.getElem?_eq_none_iff] at hp ⊢
     have:=h.2.2.2.2
     omega
    rw [this]
   | some p =>
    have hi:=(List.getElem?_eq_some_iff.1 hp).1
    obtain ⟨q,hq⟩:=get_of_lt (l:=b.arms) (i:=i-1) (by have:=h.2.2.2.2;omega)
    rw [hq]
    exact (ha _ p q hp hq).2
  ·rfl
theorem pairs_cons {l:List (Str × Str)}(h:l≠[]):∃ c rows,pairRows l=c::rows:=by
 cases l with
 | nil=>exact absurd rfl h
 | cons e r=>exact ⟨pairRow e,pairRows r,rfl⟩
theorem clone133 (l:List (Str × Str))(hl:l.length≤4294967296):(K A).call 133 [pairsV l] []=some (.sc (.arr 0 l.length),[.arr 2 (wr (pairRows l)) 0]):=by
 by_cases h:l=[]
 ·subst h
  exact clone_own (by kernel_rfl) (by kernel_rfl) (by kernel_rfl) (by kernel_rfl)
 ·obtain ⟨c,rows,hr⟩:=pairs_cons h
  have hlen:rows.length+1=l.length:=by
   have:=pairRows_len l
   rw [hr] at this
   simpa using this
  have hok:okRows 2 (wr (c::rows))=true:=hr▸okRows_pair l
  have hp:pairsV l=V.sc (.c (.sl (c::rows))):=by rw [←hr]
  rw [hr,hp,clone_data (by kernel_rfl) (by kernel_rfl)]
  refine clone_fn (vf:=v133) (by kernel_rfl) rfl (by decide) ?_
  unfold v133
  rw [wr_cons] at hok
  simp (disch:=first|omega|(simp;done)|(simp;omega)) [hok]
  omega
def zrows (e:Exp)(i:Nat):List Exp:=(zerosM e).take i++e.children.drop i
variable {A:Oracle}
@[simp] theorem tz_size:tz.size≤46656:=by decide
def cOk (ds:List DataD)(s:Str):Prop:=s=[71,111,110,101]∨∃ d∈ds,∃ c∈d.cons,s=c.name
def rawS (ds:List DataD)(e:Exp):Prop :=
 (e.kind=1∧e.name∈varNames∧e.kids=[]∧e.arms=[])∨(e.kind=2∧cOk ds e.name∧e.kids=[]∧e.arms=[])∨((e.kind=3∨e.kind=10)∧e.name=[]∧e.kids=[]∧e.arms=[]) ∨
 (e.kind=4∧e.name∈varNames∧(∃ x,e.kids=[x])∧e.arms=[])∨(e.kind=5∧e.name=[]∧(∃ x y,e.kids=[x,y])∧e.arms=[])∨((e.kind=6∨e.kind=7)∧e.name∈varNames∧(∃ x y,e.kids=[x,y])∧e.arms=[]) ∨
 ((e.kind=9∨e.kind=11)∧e.name=[]∧(∃ x,e.kids=[x])∧e.arms=[])∨(e.kind=8∧e.name=[]∧∃ x,e.kids=[x])
def armE (ds:List DataD)(a:ArmH × Exp):Prop:=a.1.pos=0∧cOk ds a.1.con∧a.1.vars.length≤4∧∀ v∈a.1.vars,v∈varNames
def rawE1 (ds:List DataD)(e:Exp):Prop:=e.pos=0∧(∀ a∈e.arms,armE ds a)∧e.ty.size≤46656∧(e.kind≠9→e.ty=tz)∧(e.kind≠3→e.num=0)∧rawS ds e
def rawE (ds:List DataD)(e:Exp):Prop:=e.fold fun e l=>rawE1 ds e∧∀ p∈l,p
theorem rawE_eq (ds:List DataD)(e:Exp):rawE ds e=(rawE1 ds e∧∀ x∈e.children,rawE ds x):=by
 have:=Exp.fold_eq (fun e (l:List Prop)=>rawE1 ds e∧∀ p∈l,p) e
 unfold rawE
 rw [this]
 simp only [List.forall_mem_map]
theorem rawE_mk (ds:List DataD) (k p n m ks l t):rawE ds (Exp.mk k p n m ks l t)=(rawE1 ds (Exp.mk k p n m ks l t)∧(∀ x∈ks,rawE ds x)∧∀ a∈l,rawE ds a.2):=by
 rw [rawE_eq]
 simp only [Exp.kids,Exp.arms,Exp.children,List.mem_append,List.mem_map]
 apply propext
 constructor
 ·rintro ⟨h1,h2⟩
  exact ⟨h1,fun x hx=>h2 x (.inl hx),fun a ha=>h2 a.2 (.inr ⟨a,ha,rfl⟩)⟩
 ·rintro ⟨h1,h2,h3⟩
  refine ⟨h1,?_⟩
  rintro x (hx|⟨a,ha,rfl⟩)
  ·exact h2 x hx
  ·exact h3 a ha
theorem rawE.one {ds:List DataD}{e:Exp}(h:rawE ds e):rawE1 ds e:=by rw [rawE_eq] at h;exact h.1
theorem rawE.child {ds:List DataD}{e x:Exp}(h:rawE ds e)(hx:x∈e.children):rawE ds x:=by rw [rawE_eq] at h;exact h.2 x hx
theorem rawE1.wf1 {ds:List DataD}{e:Exp}(h:rawE1 ds e):e.wf1:=by
 obtain ⟨_,_,_,_,_,h⟩:=h
 unfold Exp.wf1
 rcases h with ⟨k,_,hk,ha⟩|⟨k,_,hk,ha⟩|⟨k,_,hk,ha⟩|⟨k,_,⟨x,hk⟩,ha⟩|⟨k,_,⟨x,y,hk⟩,ha⟩|⟨k,_,⟨x,y,hk⟩,ha⟩|⟨k,_,⟨x,hk⟩,ha⟩|⟨k,_,x,hk⟩
 all_goals
  refine ⟨fun h => ?_,fun h => ?_,fun h => ?_⟩
  all_goals first | exact ha | exact hk | (rw [hk];rfl) | (exfalso;omega)
theorem rawE.wf {ds:List DataD}{e:Exp}:rawE ds e→e.wf:=by
 induction e using Exp.ind with
 | h e ih =>
  intro h
  rw [Exp.wf_eq]
  exact ⟨h.one.wf1,fun x hx=>ih x hx (h.child hx)⟩
theorem rawE.tyBd {ds:List DataD}{e:Exp}:rawE ds e→tyBd e:=by
 induction e using Exp.ind with
 | h e ih =>
  intro h
  rw [tyBd_eq]
  exact ⟨Nat.le_trans h.one.2.2.1 (by decide),fun x hx=>ih x hx (h.child hx)⟩
theorem type70S (L:List Int)(ds:List DataD)(hL:L.length≤1073741824)(hds:goodDs ds):∀ (d I:Nat),d≤100→I≤L.length →
 ∃ r,TypeS L (5 ^ d) r∧(K A).call 70 [.sc (.ptr 0 0),datasV ds,.sc (.c (.sl [])),intV d] [tapeO L I]=some r:=by
 intro d
 have intSz:(Ty.mk 4 [73,110,116] 0 0 []).size=1:=Ty.size_leaf
 induction d with
 | zero =>
  intro I _ hI
  obtain ⟨k,J,hk,hJ,hc⟩:=next37 (A:=A) L I 7 hI hL (by omega) (by omega)
  refine fn_ofE _ (vf:=v70) (by kernel_rfl) rfl (by simp) ?_
  have hi:=int29 (A:=A)
  unfold v70
  by_cases h3:k<3
  ·have h3':(k:Int)<3:=by omega
   have h4':(k:Int)<4:=by omega
   simp (disch:=first|omega|(simp;done)|(simp;omega)) [hc,hi,h3',h4',-getElem?_pos]
   exact ⟨_,J,by rw [intSz];omega,hJ,rfl⟩
  ·have h3':¬(k:Int)<3:=by omega
   by_cases h4:k<4
   ·have h4':(k:Int)<4:=by omega
    simp (disch:=first|omega|(simp;done)|(simp;omega)) [hc,hi,h3',h4',-getElem?_pos]
    exact ⟨_,J,by rw [intSz];omega,hJ,rfl⟩
   ·have h4':¬(k:Int)<4:=by omega
    simp (disch:=first|omega|(simp;done)|(simp;omega)) [hc,hi,h3',h4',-getElem?_pos]
    exact ⟨_,J,by rw [intSz];omega,hJ,rfl⟩
 | succ d ih =>
  intro I hd hI
  obtain ⟨k,J,hk,hJ,hc⟩:=next37 (A:=A) L I 7 hI hL (by omega) (by omega)
  have hi:=int29 (A:=A)
  have hn:Ty.rows []=[]:=by rw [Ty.rows]
  have hd1:¬(d:Int)+1<1:=by omega
  have hp:1≤5 ^ d:=Nat.pos_of_ne_zero (by simp)
  have hp1:5 ^ (d+1)=5*5 ^ d:=by rw [Nat.pow_succ];omega
  refine fn_ofE _ (vf:=v70) (by kernel_rfl) rfl (by simp) ?_
  by_cases h4:k<4
  ·have h4':(k:Int)<4:=by omega
   unfold v70
   by_cases h3:k<3
   ·have h3':(k:Int)<3:=by omega
    simp (disch:=first|omega|(simp;done)|(simp;omega)) [hc,hi,h3',h4',-getElem?_pos]
    exact ⟨_,J,by rw [intSz];omega,hJ,rfl⟩
   ·have h3':¬(k:Int)<3:=by omega
    simp (disch:=first|omega|(simp;done)|(simp;omega)) [hc,hi,h3',h4',-getElem?_pos]
    exact ⟨_,J,by rw [intSz];omega,hJ,rfl⟩
  ·have h3':¬(k:Int)<3:=by omega
   have h4':¬(k:Int)<4:=by omega
   by_cases hdata:ds≠[]∧k<6
   ·have hpos:0<ds.length:=List.length_pos_iff.2 hdata.1
    have hds1:=hds.1
    obtain ⟨m,J1,hm,hJ1,hc1⟩:=next37 (A:=A) L J ds.length hJ hL (by omega) (by omega)
    obtain ⟨dd,hdd⟩:=get_of_lt (l:=ds) (i:=m) (by omega)
    have hgood:=hds.2 dd (List.mem_of_getElem? hdd)
    have hm':(m:Int)<ds.length:=hm
    have fin:wp (K A) (.loop l70_0) (blockQ 1 (thenQ (K A) (.seq (.region [] [o 77 (.fld 1 (tv 10)),o 78 (.load false 1 (tv 77)),o 79 (.mv (tv 11)),oa 80 (.call (kf 100) [(false,(tv 78)),(false,(tv 79))] []) 4992,on (.store 5 (tv 8) (tv 80) [])] [] [8]) .ret)
     (blockQ 0 (thenQ (K A) (.seq (.region [] [o 81 (.mv (tv 0)),o 82 (.mv (tv 1)),o 83 (.mv (tv 2)),o 84 (.mv (tv 3)),o 85 (.bin .sub 0 (tv 84) (ki 1)),oa 86 (.call (kf 70) [(true,(tv 81)),(false,(tv 82)),(false,(tv 83)),(false,(tv 85))] []) 5440,oa 13 (.new [zi,zs,zi,zi,.nil] []) 5504,on (.store 5 (tv 13) (tv 86) [])] [] [0,1,2,3,8,13])
       (.seq (.region [] [o 87 (.load true 5 (tv 13)),o 88 (.mv (tv 0)),o 89 (.mv (tv 1)),o 90 (.mv (tv 2)),o 91 (.mv (tv 3)),o 92 (.bin .sub 0 (tv 91) (ki 1)),oa 93 (.call (kf 70) [(true,(tv 88)),(false,(tv 89)),(false,(tv 90)),(false,(tv 92))] []) 6016,oa 94 (.call (kf 128) [(false,(tv 87)),(false,(tv 93))] []) 6080,on (.store 5 (tv 8) (tv 94) [])] [(0,6)] [8]) .ret)) (endsQ false 1 [.cell 8 true 5] (TypeS L (5 ^ (d+1))))))))
     ⟨[(0,.sc (.ptr 0 0)),(1,datasV ds),(2,.sc (.c (.sl []))),(3,intV (d+1)),(8,.sc (.ptr 64 0)),(10,.sc (.ptr 3392 0)),(11,.sc (.arr 3521 0)),(12,intV 0)],
       [(0,some (tapeO L J1)),(64,some (.box [zi,zs,zi,zi,.nil])),(3392,some (.box (wc (dataRow dd)))),(3521,some (.arr 5 [] 0))]⟩:=by
     refine wp_loopI (TypeJ L ds [] dd d) dd.params.length ⟨[],J1,rfl,by simp,hJ1,by simp [hn]⟩ ?_ ?_
     ·rintro i s hi' ⟨tys,J2,ht,hts,hJ2,rfl⟩
      obtain ⟨r,⟨ty,J3,hty,hJ3,rfl⟩,hc2⟩:=ih J2 (by omega) hJ2
      have hip:=hgood.1
      unfold l70_0
      simp (disch:=first|omega|(simp;done)|(simp;omega)) [hi',hc2,ht,-getElem?_pos]
      refine ⟨tys++[ty],J3,by simp [ht],?_,hJ3,by simp⟩
      intro x hx
      rcases List.mem_append.1 hx with hx|hx
      ·exact hts x hx
      ·simp only [List.mem_singleton] at hx
       exact hx▸hty
     ·rintro s ⟨tys,J2,ht,hts,hJ2,rfl⟩
      have hip:=hgood.1
      have hcon:=con65 (A:=A) dd.name tys (by omega)
      unfold l70_0
      simp (disch:=first|omega|(simp;done)|(simp;omega)) [hcon,ht,-getElem?_pos]
      refine ⟨_,J2,?_,hJ2,rfl⟩
      have hs:=sizes_le hts
      have hm4:tys.length*5 ^ d≤4*5 ^ d:=Nat.mul_le_mul_right _ (by omega)
      simp only [Ty.size,Ty.sizes_map]
      omega
    by_cases hk4:k=4
    ·unfold v70
     simp (disch:=first|omega|(simp;done)|(simp;omega)) [hc,hi,h3',h4',hd1,hk4,hdata.1,hpos,hc1,hdd,-getElem?_pos]
     exact fin
    ·have hk5:k=5:=by omega
     unfold v70
     simp (disch:=first|omega|(simp;done)|(simp;omega)) [hc,hi,h3',h4',hd1,hk5,hdata.1,hpos,hc1,hdd,-getElem?_pos]
     exact fin
   ·obtain ⟨r1,⟨t1,J1,ht1,hJ1,rfl⟩,hc1⟩:=ih J (by omega) hJ
    obtain ⟨r2,⟨t2,J2,ht2,hJ2,rfl⟩,hc2⟩:=ih J1 (by omega) hJ1
    have har:=arrow79 (A:=A) t1 t2
    have hsz:(Ty.mk 4 [45,62] 0 0 [t1,t2]).size≤5 ^ (d+1):=by
     simp only [Ty.size,Ty.sizes]
     omega
    have hb4:¬((k:Int)=4∧0<ds.length):=by
     rintro ⟨h1,h2⟩
     exact hdata ⟨List.length_pos_iff.1 h2,by omega⟩
    have hb5:¬((k:Int)=5∧0<ds.length):=by
     rintro ⟨h1,h2⟩
     exact hdata ⟨List.length_pos_iff.1 h2,by omega⟩
    unfold v70
    by_cases hz:ds=[]
    ·subst hz
     have hz2:dataRows []=[]:=rfl
     simp only [datasV,hz2] at hc1 hc2
     by_cases hk4:(k:Int)=4
     ·simp (disch:=first|omega|(simp;done)|(simp;omega)) [hc,hi,h3',h4',hd1,hk4,hc1,hc2,har,-getElem?_pos]
      exact ⟨_,J2,hsz,hJ2,rfl⟩
     ·by_cases hk5:(k:Int)=5
      ·simp (disch:=first|omega|(simp;done)|(simp;omega)) [hc,hi,h3',h4',hd1,hk4,hk5,hc1,hc2,har,-getElem?_pos]
       exact ⟨_,J2,hsz,hJ2,rfl⟩
      ·simp (disch:=first|omega|(simp;done)|(simp;omega)) [hc,hi,h3',h4',hd1,hk4,hk5,hc1,hc2,har,-getElem?_pos]
       exact ⟨_,J2,hsz,hJ2,rfl⟩
    ·have hk4:¬(k:Int)=4:=fun h=>hdata ⟨hz,by omega⟩
     have hk5:¬(k:Int)=5:=fun h=>hdata ⟨hz,by omega⟩
     simp (disch:=first|omega|(simp;done)|(simp;omega)) [hc,hi,h3',h4',hd1,hk4,hk5,hc1,hc2,har,-getElem?_pos]
     exact ⟨_,J2,hsz,hJ2,rfl⟩
def wB (d:Nat):Nat:=32*8 ^ d
theorem wB_pos (d:Nat):32≤wB d:=by
 have:1≤8 ^ d:=Nat.pos_of_ne_zero (by simp)
 unfold wB
 omega
theorem wB_succ (d:Nat):wB (d+1)=8*wB d:=by
 unfold wB
 rw [Nat.pow_succ]
 omega
def RawQ (L:List Int)(ds:List DataD)(B:Nat)(r:V × List Obj):Prop:=∃ e J,rawE ds e∧e.weight≤B∧J≤L.length∧r=(expV e,[tapeO L J])
def ArmQ (L:List Int)(ds:List DataD)(dd:DataD)(x:Exp)(B d i:Nat)(s:St):Prop:=∃ arms J,arms.length=i∧J≤L.length∧(∀ a∈arms,armE ds a∧rawE ds a.2∧a.2.weight≤B) ∧
 s=⟨[(0,.sc (.ptr 0 0)),(1,datasV ds),(2,intV (d+1)),(6,.sc (.ptr 64 0)),(13,.sc (.ptr 10176 0)),(14,.sc (.ptr 10752 0)),(15,intV i)],
  [(0,some (tapeO L J)),(64,some (.box [zi,zi,zs,zi,.nil,.nil,zi,zs,zi,zi,.nil])),(10176,some (.box (wc (dataRow dd)))),(10624,some (.arr 11 [wc x.row] 0)),
    (10752,some (.box [.c (.int .i64 8),zi,zs,zi,.arr 10624 1,.arr 10822 i,zi,zs,zi,zi,.nil])),(10822,some (.arr 14 (wr (Exp.armRows arms)) 0))]⟩
def VarQ (L:List Int)(ds:List DataD)(dd:DataD)(x:Exp)(arms:List (ArmH × Exp))(con:Str)(d i j:Nat)(s:St):Prop:=∃ vars J,vars.length=j∧(∀ v∈vars,v∈varNames)∧J≤L.length ∧
 s=⟨[(0,.sc (.ptr 0 0)),(1,datasV ds),(2,intV (d+1)),(6,.sc (.ptr 64 0)),(13,.sc (.ptr 10176 0)),(14,.sc (.ptr 10752 0)),(15,intV i),(16,.sc (.ptr 11712 0)),(17,intV j)],
  [(0,some (tapeO L J)),(64,some (.box [zi,zi,zs,zi,.nil,.nil,zi,zs,zi,zi,.nil])),(10176,some (.box (wc (dataRow dd)))),(10624,some (.arr 11 [wc x.row] 0)),
    (10752,some (.box [.c (.int .i64 8),zi,zs,zi,.arr 10624 1,.arr 10822 i,zi,zs,zi,zi,.nil])),(10822,some (.arr 14 (wr (Exp.armRows arms)) 0)),
    (11712,some (.box [zi,.c (.str con),.arr 11779 j,zi,zi,zs,zi,.nil,.nil,zi,zs,zi,zi,.nil])),(11779,some (.arr 1 (wr (strRows vars)) 0))]⟩
theorem raw22 (L:List Int)(ds:List DataD)(hL:L.length≤1073741824)(hds:goodDs ds):∀ (d I:Nat),d≤4→I≤L.length →
 ∃ r,RawQ L ds (wB d) r∧(K A).call 22 [.sc (.ptr 0 0),datasV ds,intV d] [tapeO L I]=some r:=by
 intro d
 induction d using Nat.strongRecOn with
 | ind d ih =>
 intro I hd hI
 obtain ⟨k,J,hk,hJ,hc⟩:=next37 (A:=A) L I 14 hI hL (by omega) (by omega)
 refine fn_ofE _ (vf:=v22) (by kernel_rfl) rfl (by simp) ?_
 have hp:1≤wB d:=by have:=wB_pos d;omega
 have hds1:=hds.1
 obtain ⟨c,hc14,hcd,hcs⟩:∃ c:Nat,c<14∧(d=0→c<5)∧((d=0∧(k:Int).tmod 5=c)∨(d≠0∧k=c)):=by
  by_cases h:d=0
  ·refine ⟨k % 5,by omega,fun _=>by omega,.inl ⟨h,rfl⟩⟩
  ·exact ⟨k,by omega,fun h'=>absurd h' h,.inr ⟨h,rfl⟩⟩
 unfold v22
 refine wp_seqE ⟨[(0,.sc (.ptr 0 0)),(1,datasV ds),(2,intV d),(6,.sc (.ptr 64 0))],[(0,some (tapeO L I)),(64,some (.box [zi,zi,zs,zi,.nil,.nil,zi,zs,zi,zi,.nil]))]⟩ (by simp) ?_
 refine wp_seqE ⟨[(0,.sc (.ptr 0 0)),(1,datasV ds),(2,intV d),(6,.sc (.ptr 64 0)),(7,intV k)],[(0,some (tapeO L J)),(64,some (.box [zi,zi,zs,zi,.nil,.nil,zi,zs,zi,zi,.nil]))]⟩ (by simp [hc]) ?_
 refine wp_seqI (fun s=>s=⟨[(0,.sc (.ptr 0 0)),(1,datasV ds),(2,intV d),(6,.sc (.ptr 64 0)),(7,intV c)],[(0,some (tapeO L J)),(64,some (.box [zi,zi,zs,zi,.nil,.nil,zi,zs,zi,zi,.nil]))]⟩ ∨
  s=⟨[(0,.sc (.ptr 0 0)),(1,datasV ds),(2,intV d),(6,.sc (.ptr 64 0)),(7,intV c),(21,boolV false)],[(0,some (tapeO L J)),(64,some (.box [zi,zi,zs,zi,.nil,.nil,zi,zs,zi,zi,.nil]))]⟩) ?_ ?_
 ·rcases hcs with ⟨h0,h1⟩|⟨h0,rfl⟩
  ·subst h0
   simp (disch:=first|omega|(simp;done)|(simp;omega)) [h1]
  ·have h0':¬(d:Int)<1:=by omega
   simp (disch:=first|omega|(simp;done)|(simp;omega)) [h0']
 ·intro s hs
  refine wp_assocE ⟨[(0,.sc (.ptr 0 0)),(1,datasV ds),(2,intV d),(6,.sc (.ptr 64 0)),(24,intV c)],[(0,some (tapeO L J)),(64,some (.box [zi,zi,zs,zi,.nil,.nil,zi,zs,zi,zi,.nil]))]⟩ (by rcases hs with rfl | rfl<;>simp) ?_
  clear hs s hcs hc hk
  have leaf:∀ (kind num:Int) (name:Str) (J:Nat),J≤L.length→rawE1 ds (.mk kind 0 name num [] [] tz)→RawQ L ds (wB d) (expV (.mk kind 0 name num [] [] tz),[tapeO L J]):=by
   intro kind num name J hJ h8
   refine ⟨_,J,?_,?_,hJ,rfl⟩
   ·rw [rawE_mk]
    exact ⟨h8,by simp,by simp⟩
   ·rw [weight_mk]
    simpa using hp
  by_cases h5:c<5
  ·have:c=0∨c=1∨c=2∨c=3∨c=4:=by omega
   rcases this with rfl|rfl|rfl|rfl|rfl
   ·obtain ⟨s,J1,hs,hJ1,hc1⟩:=variable38 (A:=A) L J hJ hL
    simp (disch:=first|omega|(simp;done)|(simp;omega)) [hc1]
    exact leaf 1 0 s J1 hJ1 (by simp [rawE1,rawS,Exp.kind,Exp.pos,Exp.name,Exp.num,Exp.kids,Exp.arms,Exp.ty,hs])
   ·obtain ⟨s,J1,hs,hJ1,hc1⟩:=variable38 (A:=A) L J hJ hL
    simp (disch:=first|omega|(simp;done)|(simp;omega)) [hc1]
    exact leaf 1 0 s J1 hJ1 (by simp [rawE1,rawS,Exp.kind,Exp.pos,Exp.name,Exp.num,Exp.kids,Exp.arms,Exp.ty,hs])
   ·obtain ⟨n,J1,_,hJ1,hc1⟩:=next37 (A:=A) L J 4 hJ hL (by omega) (by omega)
    simp (disch:=first|omega|(simp;done)|(simp;omega)) [hc1]
    exact leaf 3 n [] J1 hJ1 (by simp [rawE1,rawS,Exp.kind,Exp.pos,Exp.name,Exp.num,Exp.kids,Exp.arms,Exp.ty])
   ·by_cases hz:ds=[]
    ·subst hz
     have hz2:dataRows []=[]:=rfl
     simp (disch:=first|omega|(simp;done)|(simp;omega)) [hz2]
     exact leaf 2 0 [71,111,110,101] J hJ (by simp [rawE1,rawS,Exp.kind,Exp.pos,Exp.name,Exp.num,Exp.kids,Exp.arms,Exp.ty,cOk])
    ·have hpos:0<ds.length:=List.length_pos_iff.2 hz
     obtain ⟨m,J1,hm,hJ1,hc1⟩:=next37 (A:=A) L J ds.length hJ hL (by omega) (by omega)
     obtain ⟨dd,hdd⟩:=get_of_lt (l:=ds) (i:=m) (by omega)
     have hgood:=hds.2 dd (List.mem_of_getElem? hdd)
     obtain ⟨q,J2,hq,hJ2,hc2⟩:=next37 (A:=A) L J1 dd.cons.length hJ1 hL (by have:=hgood.2.1;omega) (by have:=hgood.2.2.1;omega)
     obtain ⟨cc,hcc⟩:=get_of_lt (l:=dd.cons) (i:=q) (by omega)
     simp (disch:=first|omega|(simp;done)|(simp;omega)) [hpos,hc1,hdd,hc2,hcc,-getElem?_pos]
     have hcok:cOk ds cc.name:=.inr ⟨dd,List.mem_of_getElem? hdd,cc,List.mem_of_getElem? hcc,rfl⟩
     exact leaf 2 0 cc.name J2 hJ2 (by simp [rawE1,rawS,Exp.kind,Exp.pos,Exp.name,Exp.num,Exp.kids,Exp.arms,Exp.ty,hcok])
   ·simp (disch:=first|omega|(simp;done)|(simp;omega))
    exact leaf 10 0 [] J hJ (by simp [rawE1,rawS,Exp.kind,Exp.pos,Exp.name,Exp.num,Exp.kids,Exp.arms,Exp.ty])
  ·obtain ⟨d',rfl⟩:∃ d',d=d'+1:=⟨d-1,by omega⟩
   have ih1:∀ I,I≤L.length→∃ r,RawQ L ds (wB d') r∧(K A).call 22 [.sc (.ptr 0 0),datasV ds,intV d'] [tapeO L I]=some r:=fun I hI=>ih d' (by omega) I (by omega) hI
   have hp':=wB_pos d'
   have h32:wB (d'+1)=8*wB d':=wB_succ d'
   rw [h32]
   have:c=5∨c=6∨c=7∨c=8∨c=9∨c=10∨c=11∨c=12∨c=13:=by omega
   rcases this with rfl|rfl|rfl|rfl|rfl|rfl|rfl|rfl|rfl
   ·obtain ⟨s,J1,hs,hJ1,hc1⟩:=variable38 (A:=A) L J hJ hL
    obtain ⟨_,⟨x,J2,hx,hxw,hJ2,rfl⟩,hc2⟩:=ih1 J1 hJ1
    simp (disch:=first|omega|(simp;done)|(simp;omega)) [hc1,hc2]
    refine ⟨.mk 4 0 s 0 [x] [] tz,J2,by rw [rawE_mk];simp [rawE1,rawS,Exp.kind,Exp.pos,Exp.name,Exp.num,Exp.kids,Exp.arms,Exp.ty,hx,hs],by rw [weight_mk];simp;omega,hJ2,?_⟩
    simp [expV,Exp.row,tz,Ty.kind,Ty.name,Ty.id,Ty.home,Ty.args]
   ·obtain ⟨s,J1,hs,hJ1,hc1⟩:=variable38 (A:=A) L J hJ hL
    obtain ⟨_,⟨x,J2,hx,hxw,hJ2,rfl⟩,hc2⟩:=ih1 J1 hJ1
    simp (disch:=first|omega|(simp;done)|(simp;omega)) [hc1,hc2]
    refine ⟨.mk 4 0 s 0 [x] [] tz,J2,by rw [rawE_mk];simp [rawE1,rawS,Exp.kind,Exp.pos,Exp.name,Exp.num,Exp.kids,Exp.arms,Exp.ty,hx,hs],by rw [weight_mk];simp;omega,hJ2,?_⟩
    simp [expV,Exp.row,tz,Ty.kind,Ty.name,Ty.id,Ty.home,Ty.args]
   ·obtain ⟨_,⟨x,J1,hx,hxw,hJ1,rfl⟩,hc1⟩:=ih1 J hJ
    obtain ⟨_,⟨y,J2,hy,hyw,hJ2,rfl⟩,hc2⟩:=ih1 J1 hJ1
    simp (disch:=first|omega|(simp;done)|(simp;omega)) [hc1,hc2]
    refine ⟨.mk 5 0 [] 0 [x,y] [] tz,J2,by rw [rawE_mk];simp [rawE1,rawS,Exp.kind,Exp.pos,Exp.name,Exp.num,Exp.kids,Exp.arms,Exp.ty,hx,hy],by rw [weight_mk];simp;omega,hJ2,?_⟩
    simp [expV,Exp.row,tz,Ty.kind,Ty.name,Ty.id,Ty.home,Ty.args]
   ·obtain ⟨_,⟨x,J1,hx,hxw,hJ1,rfl⟩,hc1⟩:=ih1 J hJ
    obtain ⟨_,⟨y,J2,hy,hyw,hJ2,rfl⟩,hc2⟩:=ih1 J1 hJ1
    simp (disch:=first|omega|(simp;done)|(simp;omega)) [hc1,hc2]
    refine ⟨.mk 5 0 [] 0 [x,y] [] tz,J2,by rw [rawE_mk];simp [rawE1,rawS,Exp.kind,Exp.pos,Exp.name,Exp.num,Exp.kids,Exp.arms,Exp.ty,hx,hy],by rw [weight_mk];simp;omega,hJ2,?_⟩
    simp [expV,Exp.row,tz,Ty.kind,Ty.name,Ty.id,Ty.home,Ty.args]
   ·obtain ⟨_,⟨x,J1,hx,hxw,hJ1,rfl⟩,hc1⟩:=ih1 J hJ
    obtain ⟨_,⟨y,J2,hy,hyw,hJ2,rfl⟩,hc2⟩:=ih1 J1 hJ1
    simp (disch:=first|omega|(simp;done)|(simp;omega)) [hc1,hc2]
    refine ⟨.mk 5 0 [] 0 [x,y] [] tz,J2,by rw [rawE_mk];simp [rawE1,rawS,Exp.kind,Exp.pos,Exp.name,Exp.num,Exp.kids,Exp.arms,Exp.ty,hx,hy],by rw [weight_mk];simp;omega,hJ2,?_⟩
    simp [expV,Exp.row,tz,Ty.kind,Ty.name,Ty.id,Ty.home,Ty.args]
   ·obtain ⟨n,J0,hn,hJ0,hc0⟩:=next37 (A:=A) L J 2 hJ hL (by omega) (by omega)
    obtain ⟨s,J1,hs,hJ1,hc1⟩:=variable38 (A:=A) L J0 hJ0 hL
    obtain ⟨_,⟨x,J2,hx,hxw,hJ2,rfl⟩,hc2⟩:=ih1 J1 hJ1
    obtain ⟨_,⟨y,J3,hy,hyw,hJ3,rfl⟩,hc3⟩:=ih1 J2 hJ2
    simp (disch:=first|omega|(simp;done)|(simp;omega)) [hc0,hc1,hc2,hc3]
    refine ⟨.mk (6+n) 0 s 0 [x,y] [] tz,J3,by rw [rawE_mk];simp [rawE1,rawS,Exp.kind,Exp.pos,Exp.name,Exp.num,Exp.kids,Exp.arms,Exp.ty,hx,hy,hs];omega,by rw [weight_mk];simp;omega,hJ3,?_⟩
    simp [expV,Exp.row,tz,Ty.kind,Ty.name,Ty.id,Ty.home,Ty.args]
   ·obtain ⟨_,⟨x,J1,hx,hxw,hJ1,rfl⟩,hc1⟩:=ih1 J hJ
    obtain ⟨_,⟨ty,J2,hty,hJ2,rfl⟩,hc2⟩:=type70S (A:=A) L ds hL hds 2 J1 (by omega) hJ1
    simp at hc2
    simp (disch:=first|omega|(simp;done)|(simp;omega)) [hc1,hc2]
    have hty':ty.size≤46656:=by omega
    refine ⟨.mk 9 0 [] 0 [x] [] ty,J2,by rw [rawE_mk];simp [rawE1,rawS,Exp.kind,Exp.pos,Exp.name,Exp.num,Exp.kids,Exp.arms,Exp.ty,hx,hty'],by rw [weight_mk];simp;omega,hJ2,?_⟩
    simp [expV,Exp.row,Ty.row_eq]
   ·obtain ⟨_,⟨x,J1,hx,hxw,hJ1,rfl⟩,hc1⟩:=ih1 J hJ
    simp (disch:=first|omega|(simp;done)|(simp;omega)) [hc1]
    refine ⟨.mk 11 0 [] 0 [x] [] tz,J1,by rw [rawE_mk];simp [rawE1,rawS,Exp.kind,Exp.pos,Exp.name,Exp.num,Exp.kids,Exp.arms,Exp.ty,hx],by rw [weight_mk];simp;omega,hJ1,?_⟩
    simp [expV,Exp.row,tz,Ty.kind,Ty.name,Ty.id,Ty.home,Ty.args]
   ·by_cases hz:ds=[]
    ·subst hz
     have hz2:dataRows []=[]:=rfl
     obtain ⟨_,⟨x,J1,hx,hxw,hJ1,rfl⟩,hc1⟩:=ih1 J hJ
     simp [datasV,hz2] at hc1
     simp (disch:=first|omega|(simp;done)|(simp;omega)) [datasV,hz2,hc1]
     exact ⟨x,J1,hx,by omega,hJ1,rfl⟩
    ·have hpos:ds.length≠0:=by have:=List.length_pos_iff.2 hz;omega
     obtain ⟨m,J1,hm,hJ1,hc1⟩:=next37 (A:=A) L J ds.length hJ hL (by omega) (by omega)
     obtain ⟨dd,hdd⟩:=get_of_lt (l:=ds) (i:=m) (by omega)
     have hgood:=hds.2 dd (List.mem_of_getElem? hdd)
     obtain ⟨hg1,hg2,hg3,hg4⟩:=hgood
     obtain ⟨_,⟨x,J2,hx,hxw,hJ2,rfl⟩,hc2⟩:=ih1 J1 hJ1
     simp (disch:=first|omega|(simp;done)|(simp;omega)) [hz,hc1,hdd,hc2,-getElem?_pos]
     refine wp_loopI (ArmQ L ds dd x (wB d') d') dd.cons.length ⟨[],J2,rfl,hJ2,by simp,by simp⟩ ?_ ?_
     ·rintro i s hi ⟨arms,J3,harms,hJ3,hall,rfl⟩
      obtain ⟨cc,hcc⟩:=get_of_lt hi
      have hfl:=hg4 cc (List.mem_of_getElem? hcc)
      unfold l22_1
      simp (disch:=first|omega|(simp;done)|(simp;omega)) [hi,hcc,harms,-getElem?_pos]
      refine wp_loopI (VarQ L ds dd x arms cc.name d' i) cc.fields.length ⟨[],J3,rfl,by simp,hJ3,by simp [harms]⟩ ?_ ?_
      ·rintro j s hj ⟨vars,J4,hvars,hvn,hJ4,rfl⟩
       obtain ⟨v,J5,hv,hJ5,hc5⟩:=variable38 (A:=A) L J4 hJ4 hL
       unfold l22_0
       simp (disch:=first|omega|(simp;done)|(simp;omega)) [hi,hj,hcc,hc5,hvars,harms,-getElem?_pos]
       refine ⟨vars++[v],J5,by simp [hvars],?_,hJ5,by simp [harms]⟩
       intro u hu
       rcases List.mem_append.1 hu with hu|hu
       ·exact hvn u hu
       ·simp only [List.mem_singleton] at hu
        exact hu▸hv
      ·rintro s ⟨vars,J4,hvars,hvn,hJ4,rfl⟩
       obtain ⟨_,⟨y,J5,hy,hyw,hJ5,rfl⟩,hc5⟩:=ih1 J4 hJ4
       unfold l22_0
       simp (disch:=first|omega|(simp;done)|(simp;omega)) [hi,hcc,hc5,hvars,harms,-getElem?_pos]
       refine ⟨arms++[(⟨0,cc.name,vars⟩,y)],J5,by simp [harms],hJ5,?_,?_⟩
       ·intro a ha
        rcases List.mem_append.1 ha with ha|ha
        ·exact hall a ha
        ·simp only [List.mem_singleton] at ha
         subst ha
         exact ⟨⟨rfl,.inr ⟨dd,List.mem_of_getElem? hdd,cc,List.mem_of_getElem? hcc,rfl⟩,by simp only;omega,hvn⟩,hy,hyw⟩
       ·simp [harms,Exp.armRows_map,wr,armRow]
     ·rintro s ⟨arms,J3,harms,hJ3,hall,rfl⟩
      unfold l22_1
      simp (disch:=first|omega|(simp;done)|(simp;omega)) [harms,-getElem?_pos]
      refine ⟨.mk 8 0 [] 0 [x] arms tz,J3,?_,?_,hJ3,?_⟩
      ·rw [rawE_mk]
       refine ⟨?_,by simp [hx],fun a ha=>(hall a ha).2.1⟩
       refine ⟨rfl,fun a ha=>(hall a ha).1,tz_size,fun _=>rfl,fun _=>rfl,?_⟩
       simp [rawS,Exp.kind,Exp.name,Exp.kids,Exp.arms]
      ·rw [weight_mk]
       have h1:(arms.map fun a=>a.1.vars.length).sum≤(arms.map fun _=>4).sum:=sum_le fun a ha=>(hall a ha).1.2.2.1
       have h2:(arms.map fun a=>a.2.weight).sum≤(arms.map fun _=>wB d').sum:=sum_le fun a ha=>(hall a ha).2.2
       simp only [List.map_const',List.sum_replicate_nat,harms] at h1 h2
       simp only [List.map_cons,List.map_nil,List.sum_cons,List.sum_nil]
       have h3:dd.cons.length*wB d'≤6*wB d':=Nat.mul_le_mul_right _ hg3
       omega
      ·simp [expV,Exp.row,tz,Ty.kind,Ty.name,Ty.id,Ty.home,Ty.args]
def MadeQ (ds7:List DataD)(L:List Int)(r:V × List Obj):Prop:=∃ a b J ds,(∀ d∈ds,d∈ds7)∧goodDs ds∧rawE ds a∧a.weight≤wB 4∧rawE ds b∧b.weight≤wB 3∧J≤L.length∧r=(.tu [expV a,expV b,.sc (.ptr 0 0)],[tapeO L J])
theorem made20 {ds7:List DataD}(bits:Int)(L:List Int)(hL:L.length≤1073741824)(h21:∃ r,DatasP ds7 r∧(K A).call 23 [intV bits] []=some r) :
 ∃ r,MadeQ ds7 L r∧(K A).call 20 [intV bits,.sc (.c (.sl (intRows L)))] []=some r:=by
 refine fn_ofE _ (vf:=v20) (by kernel_rfl) rfl (by simp) ?_
 obtain ⟨_,⟨ds,hsub,hds,rfl⟩,hc⟩:=h21
 obtain ⟨_,⟨a,J1,ha,haw,hJ1,rfl⟩,hc1⟩:=raw22 (A:=A) L ds hL hds 4 0 (by omega) (by omega)
 obtain ⟨_,⟨b,J2,hb,hbw,hJ2,rfl⟩,hc2⟩:=raw22 (A:=A) L ds hL hds 3 J1 (by omega) hJ1
 simp [tapeO,intV,datasV] at hc1 hc2
 unfold v20
 simp (disch:=first|omega|(simp;done)|(simp;omega)) [hc,hc1,hc2]
 exact ⟨a,b,J2,ds,hsub,hds,ha,haw,hb,hbw,hJ2,rfl⟩
variable {A:Oracle}
theorem rawE1.shp1 {ds:List DataD}{e:Exp}(h:rawE1 ds e):shp1 e:=by
 refine ⟨h.wf1,?_,?_⟩
 ·intro hk
  exact ⟨h.2.2.2.2.1 (by omega),h.2.2.2.1 (by omega)⟩
 ·obtain ⟨_,_,_,_,_,h⟩:=h
  unfold kidsN
  rcases h with ⟨k,_,hk,ha⟩|⟨k,_,hk,ha⟩|⟨k,_,hk,ha⟩|⟨k,_,⟨x,hk⟩,ha⟩|⟨k,_,⟨x,y,hk⟩,ha⟩|⟨k,_,⟨x,y,hk⟩,ha⟩|⟨k,_,⟨x,hk⟩,ha⟩|⟨k,_,x,hk⟩
  ·rw [hk,if_neg (by omega),if_neg (by omega)];rfl
  ·rw [hk,if_neg (by omega),if_neg (by omega)];rfl
  ·rw [hk,if_neg (by omega),if_neg (by omega)];rfl
  ·rw [hk,if_neg (by omega),if_pos (by omega)];rfl
  ·rw [hk,if_pos (by omega)];rfl
  ·rw [hk,if_pos (by omega)];rfl
  ·rw [hk,if_neg (by omega),if_pos (by omega)];rfl
  ·rw [hk,if_neg (by omega),if_pos (by omega)];rfl
theorem rawE.shp {ds:List DataD}{e:Exp}:rawE ds e→shp e:=by
 induction e using Exp.ind with
 | h e ih =>
  intro h
  rw [shp_eq]
  exact ⟨h.one.shp1,fun x hx=>ih x hx (h.child hx)⟩
theorem headEq.shp1 {e c:Exp}(h:headEq e c)(hk:e.kind≠1)(hs:shp1 e):shp1 c:=by
 obtain ⟨h1,h2,h3,h4,h5⟩:=h
 obtain ⟨⟨w1,w2,w3⟩,_,w5⟩:=hs
 refine ⟨⟨fun h8 => ?_,fun h8 => ?_,fun h8=>absurd (h1.trans h8) hk⟩,fun h8=>absurd (h1.trans h8) hk,?_⟩
 ·rw [←h4];exact w1 (h1.trans h8)
 ·have:=w2 (by rw [h1];exact h8)
  rw [this] at h5
  exact List.length_eq_zero_iff.1 h5.symm
 ·rw [←h4,w5,h1]
theorem canon_shp (taken:List Str)(e:Exp):∀ old names,shp e→shp (canonM taken e old names):=by
 induction e using Exp.ind with
 | h e ih =>
  intro old names h
  by_cases hk:e.kind=1
  ·rw [canonM_var hk]
   split
   ·rw [shp_eq]
    exact ⟨h.one,fun x hx=>h.child hx⟩
   ·exact h
  ·obtain ⟨p1,p2,_⟩:=canon_parts (taken:=taken) (old:=old) (names:=names) hk h.one.1
   rw [shp_eq]
   refine ⟨p1.shp1 hk h.one,fun y hy => ?_⟩
   rw [p2] at hy
   obtain ⟨i,hi⟩:=List.mem_iff_getElem?.1 hy
   have hlt:i<e.children.length:=by
    rcases Nat.lt_or_ge i (canonC taken e old names).length with h2|h2
    ·rwa [canonC_len,←e.children_len] at h2
    ·rw [List.getElem?_eq_none h2] at hi;cases hi
   obtain ⟨x,hx⟩:=get_of_lt hlt
   rw [canonC_get hx] at hi
   cases hi
   exact ih x (List.mem_of_getElem? hx) _ _ (h.child (List.mem_of_getElem? hx))
theorem canon_tyBd (taken:List Str)(e:Exp):∀ old names,e.wf→tyBd e→tyBd (canonM taken e old names):=by
 induction e using Exp.ind with
 | h e ih =>
  intro old names hw h
  by_cases hk:e.kind=1
  ·rw [canonM_var hk]
   split
   ·rw [tyBd_eq]
    exact ⟨h.one,fun x hx=>h.child hx⟩
   ·exact h
  ·obtain ⟨p1,p2,_⟩:=canon_parts (taken:=taken) (old:=old) (names:=names) hk hw.one
   rw [tyBd_eq]
   refine ⟨by rw [←p1.2.2.1];exact h.one,fun y hy => ?_⟩
   rw [p2] at hy
   obtain ⟨i,hi⟩:=List.mem_iff_getElem?.1 hy
   have hlt:i<e.children.length:=by
    rcases Nat.lt_or_ge i (canonC taken e old names).length with h2|h2
    ·rwa [canonC_len,←e.children_len] at h2
    ·rw [List.getElem?_eq_none h2] at hi;cases hi
   obtain ⟨x,hx⟩:=get_of_lt hlt
   rw [canonC_get hx] at hi
   cases hi
   exact ih x (List.mem_of_getElem? hx) _ _ (hw.child (List.mem_of_getElem? hx)) (h.child (List.mem_of_getElem? hx))
theorem strip_shp (e:Exp):shp e→shp (stripM e):=by
 induction e using Exp.ind with
 | h e ih =>
  intro h
  obtain ⟨h1,h2,h3,h4,h5,h6,h7,h8⟩:=strip_parts e
  obtain ⟨⟨w1,w2,w3⟩,w4,w5⟩:=h.one
  rw [shp_eq]
  refine ⟨⟨⟨fun k=>by rw [h5];exact w1 (h1▸k),fun k => ?_,fun k => ?_⟩,fun k=>by rw [h3,h4];exact w4 (h1▸k),by rw [h5,h1];exact w5⟩,fun y hy => ?_⟩
  ·have:=w2 (h1▸k)
   rw [this] at h6
   exact List.length_eq_zero_iff.1 h6
  ·have:=w3 (h1▸k)
   rw [this] at h5
   exact List.length_eq_zero_iff.1 h5
  ·rw [h7] at hy
   obtain ⟨x,hx,rfl⟩:=List.mem_map.1 hy
   exact ih x hx (h.child hx)
theorem strip_tyBd (e:Exp):tyBd e→tyBd (stripM e):=by
 induction e using Exp.ind with
 | h e ih =>
  intro h
  obtain ⟨h1,h2,h3,h4,h5,h6,h7,h8⟩:=strip_parts e
  rw [tyBd_eq]
  refine ⟨by rw [h4];exact h.one,fun y hy => ?_⟩
  rw [h7] at hy
  obtain ⟨x,hx,rfl⟩:=List.mem_map.1 hy
  exact ih x hx (h.child hx)
theorem canonT_shp {e:Exp}(taken:List Str)(h:shp e):shp (canonT e taken):=canon_shp _ _ _ _ (strip_shp e h)
theorem canonT_tyBd {e:Exp}(taken:List Str)(hw:e.wf)(h:tyBd e):tyBd (canonT e taken):=canon_tyBd _ _ _ _ (strip_wf e hw) (strip_tyBd e h)
theorem canonT_weight {e:Exp}(taken:List Str)(hw:e.wf):(canonT e taken).weight=e.weight:=by
 unfold canonT
 rw [canon_weight _ _ _ _ (strip_wf e hw),strip_weight]
theorem IffB.get {P:Prop}{r:V × List Obj}(h:IffB P r)(hp:P):r=(boolV true,[]):=by
 obtain ⟨v,hv,rfl⟩:=h
 rw [hv.2 hp]
theorem IffB.eq {P:Prop}{r r':V × List Obj}(h:IffB P r)(h':IffB P r'):∃ v,r=(boolV v,[])∧r'=(boolV v,[]):=by
 obtain ⟨v,hv,rfl⟩:=h
 obtain ⟨v',hv',rfl⟩:=h'
 refine ⟨v,rfl,?_⟩
 cases v<;>cases v'<;>simp_all
variable {A:Oracle}
abbrev u64V (n:Nat):V:=.sc (.c (.int .u64 n))
def u64Row (n:Nat):List Cell:=[.int .u64 n]
def u64Rows (d:List Nat):List (List Cell):=d.map u64Row
@[simp] theorem u64Row_len (n:Nat):(u64Row n).length=1:=rfl
@[simp] theorem u64Rows_len (d:List Nat):(u64Rows d).length=d.length:=by simp [u64Rows]
@[simp] theorem u64Rows_get (d:List Nat) (i:Nat):(u64Rows d)[i]?=(d[i]?).map u64Row:=by simp [u64Rows]
@[simp] theorem okRows_u64 (d:List Nat):okRows 1 (wr (u64Rows d))=true:=okRows_of d u64Row_len
@[simp] theorem wc_u64 (n:Nat):wc (u64Row n)=[.c (.int .u64 n)]:=rfl
@[simp] theorem u64Rows_snoc (d:List Nat) (x:Nat):wr (u64Rows d)++[[W.c (.int .u64 x)]]=wr (u64Rows (d++[x])):=by simp [u64Rows,wr,u64Row]
@[simp] theorem u64_set (d:List Nat) (i x:Nat):setRow (wr (u64Rows d)) i [W.c (.int .u64 x)]=wr (u64Rows (d.set i x)):=by
 rw [setRow_set]
 simp [u64Rows,wr,List.map_set,u64Row]
abbrev arrU (d:List Nat):Obj:=.arr 1 (wr (u64Rows d)) 0
def sortedIn (a b:Nat)(d:List Nat):Prop:=∀ (p q x y:Nat),a≤p→p<q→q<b→d[p]?=some x→d[q]?=some y→x≤y
def SortR (a b:Nat)(d e:List Nat):Prop:=e.Perm d∧(∀ k,k<a∨b≤k→e[k]?=d[k]?)∧sortedIn a b e
def butAt (a i j:Nat)(d:List Nat):Prop:=∀ (p q x y:Nat),a≤p→p<q→q≤i→q≠j→d[p]?=some x→d[q]?=some y→x≤y
theorem less198 (a b:Nat):(K A).call 198 [u64V a,u64V b] []=some (boolV (decide (a<b)),[]):=by
 refine fn_of (vf:=v198) (by kernel_rfl) rfl (by simp) ?_
 have h:∀ n:Nat,(K A).call 245 [u64V n] []=some (boolV false,[]):=fun n=>by
  refine fn_of (vf:=v245) (by kernel_rfl) rfl (by simp) ?_
  unfold v245
  simp
 unfold v198
 simp [h]
def retV:V:=.tu []
end Go.Vs.Tryz
