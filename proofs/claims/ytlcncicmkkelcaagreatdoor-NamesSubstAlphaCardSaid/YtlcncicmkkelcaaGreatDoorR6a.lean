/- Alpha equality by the program, walked. (Parts of one proof, put together.) -/
import Derived.Test.YtlcncicmkkelcaaGreatDoorR4a
import Derived.Test.YtlcncicmkkelcaaGreatDoorR5a
import Derived.Test.YtlcncicmkkelcaaGreatDoorR1a
import Derived.Test.YtlcncicmkkelcaaGreatDoorR3a
import Derived.Test.YtlcncicmkkelcaaGreatDoorM6a
set_option linter.unusedSimpArgs false
set_option linter.unusedVariables false
set_option linter.deprecated false
set_option maxHeartbeats 2000000
namespace Go.Vs
open Go
@[simp] theorem ownV_arr {oid k n:Nat} {own:List (Nat × Nat)} {L:Nat→Option Obj} {u:Upd}:ownV oid own L (.sc (.arr k n),u)=some (.sc (.arr k n),u):=by
 cases own with
 | nil=>rfl
 | cons p own=>simp [ownV]
end Go.Vs
namespace Go.Vs.Tryz
open Go Go.Vs
variable {A:Zac}
def Zmo (k:Int):Nat:=if k=5∨k=6∨k=7 then 2 else if k=4∨k=8∨k=9∨k=11 then 1 else 0
def shp1 (e:Exp):Prop:=e.wf1∧(e.kind=1→e.num=0∧e.ty=tz)∧e.kids.length=Zmo e.kind
def shp (e:Exp):Prop:=e.fold fun e l=>shp1 e∧∀ p∈l,p
theorem Ze2 (e:Exp):shp e=(shp1 e∧∀ x∈e.children,shp x):=by
 have:=Exp.fold_eq (fun e (l:List Prop)=>shp1 e∧∀ p∈l,p) e
 unfold shp
 rw [this]
 simp only [List.forall_mem_map]
theorem shp.one {e:Exp}(h:shp e):shp1 e:=by rw [Ze2] at h;exact h.1
theorem shp.child {e x:Exp}(h:shp e)(hx:x∈e.children):shp x:=by rw [Ze2] at h;exact h.2 x hx
theorem shp.wf {e:Exp}:shp e→e.wf:=by
 induction e using Exp.ind with
 | h e ih =>
  intro h
  rw [Exp.wf_eq]
  exact ⟨h.one.1,fun x hx=>ih x hx (h.child hx)⟩
def zeroE:Exp:=.mk 0 0 [] 0 [] [] tz
def Zm6 (e:Exp):List Exp:=List.replicate e.children.length zeroE
@[simp] theorem zerosM_len (e:Exp):(Zm6 e).length=e.kids.length+e.arms.length:=by rw [Zm6,List.length_replicate,e.children_len]
theorem Zjl {a b:Exp}(h:headEq a b)(ha:ZbZ a b)(i:Nat):(a.bound i).length=(b.bound i).length:=by
 rw [ZaH,ZaH,h.1]
 split
 ·rfl
 ·split
  ·cases hp:a.arms[i-1]? with
   | none =>
    have:b.arms[i-1]?=none:=by
     rw [List.getElem?_eq_none_iff] at hp ⊢
     have:=h.2.2.2.2
     omega
    rw [this]
   | some p =>
    have hi:=(List.getElem?_eq_some_iff.1 hp).1
    obtain ⟨q,hq⟩:=Zaa (l:=b.arms) (i:=i-1) (by have:=h.2.2.2.2;omega)
    rw [hq]
    exact (ha _ p q hp hq).2
  ·rfl
def zrows (e:Exp)(i:Nat):List Exp:=(Zm6 e).take i++e.children.drop i
variable {A:Zac}
@[simp] theorem tz_size:tz.size≤46656:=by decide
def cOk (ds:List DataD)(s:Str):Prop:=s=[71,111,110,101]∨∃ d∈ds,∃ c∈d.cons,s=c.name
def rawS (ds:List DataD)(e:Exp):Prop :=
 (e.kind=1∧e.name∈Za8∧e.kids=[]∧e.arms=[])∨(e.kind=2∧cOk ds e.name∧e.kids=[]∧e.arms=[])∨((e.kind=3∨e.kind=10)∧e.name=[]∧e.kids=[]∧e.arms=[]) ∨
 (e.kind=4∧e.name∈Za8∧(∃ x,e.kids=[x])∧e.arms=[])∨(e.kind=5∧e.name=[]∧(∃ x y,e.kids=[x,y])∧e.arms=[])∨((e.kind=6∨e.kind=7)∧e.name∈Za8∧(∃ x y,e.kids=[x,y])∧e.arms=[]) ∨
 ((e.kind=9∨e.kind=11)∧e.name=[]∧(∃ x,e.kids=[x])∧e.arms=[])∨(e.kind=8∧e.name=[]∧∃ x,e.kids=[x])
def armE (ds:List DataD)(a:ArmH × Exp):Prop:=a.1.pos=0∧cOk ds a.1.con∧a.1.vars.length≤4∧∀ v∈a.1.vars,v∈Za8
def rawE1 (ds:List DataD)(e:Exp):Prop:=e.pos=0∧(∀ a∈e.arms,armE ds a)∧e.ty.size≤46656∧(e.kind≠9→e.ty=tz)∧(e.kind≠3→e.num=0)∧rawS ds e
def rawE (ds:List DataD)(e:Exp):Prop:=e.fold fun e l=>rawE1 ds e∧∀ p∈l,p
theorem Zj1 (ds:List DataD)(e:Exp):rawE ds e=(rawE1 ds e∧∀ x∈e.children,rawE ds x):=by
 have:=Exp.fold_eq (fun e (l:List Prop)=>rawE1 ds e∧∀ p∈l,p) e
 unfold rawE
 rw [this]
 simp only [List.forall_mem_map]
theorem Zdb (ds:List DataD) (k p n m ks l t):rawE ds (Exp.mk k p n m ks l t)=(rawE1 ds (Exp.mk k p n m ks l t)∧(∀ x∈ks,rawE ds x)∧∀ a∈l,rawE ds a.2):=by
 rw [Zj1]
 simp only [Exp.kids,Exp.arms,Exp.children,List.mem_append,List.mem_map]
 apply propext
 constructor
 ·rintro ⟨h1,h2⟩
  exact ⟨h1,fun x hx=>h2 x (.inl hx),fun a ha=>h2 a.2 (.inr ⟨a,ha,rfl⟩)⟩
 ·rintro ⟨h1,h2,h3⟩
  refine ⟨h1,?_⟩
  rintro x (hx|⟨a,ha,rfl⟩)
  ·exact h2 x hx
  ·exact h3 a ha
theorem rawE.one {ds:List DataD}{e:Exp}(h:rawE ds e):rawE1 ds e:=by rw [Zj1] at h;exact h.1
theorem rawE.child {ds:List DataD}{e x:Exp}(h:rawE ds e)(hx:x∈e.children):rawE ds x:=by rw [Zj1] at h;exact h.2 x hx
theorem rawE1.wf1 {ds:List DataD}{e:Exp}(h:rawE1 ds e):e.wf1:=by
 obtain ⟨_,_,_,_,_,h⟩:=h
 unfold Exp.wf1
 rcases h with ⟨k,_,hk,ha⟩|⟨k,_,hk,ha⟩|⟨k,_,hk,ha⟩|⟨k,_,⟨x,hk⟩,ha⟩|⟨k,_,⟨x,y,hk⟩,ha⟩|⟨k,_,⟨x,y,hk⟩,ha⟩|⟨k,_,⟨x,hk⟩,ha⟩|⟨k,_,x,hk⟩
 all_goals
  refine ⟨fun h => ?_,fun h => ?_,fun h => ?_⟩
  all_goals first | exact ha | exact hk | (rw [hk];rfl) | (exfalso;omega)
theorem rawE.wf {ds:List DataD}{e:Exp}:rawE ds e→e.wf:=by
 induction e using Exp.ind with
 | h e ih =>
  intro h
  rw [Exp.wf_eq]
  exact ⟨h.one.wf1,fun x hx=>ih x hx (h.child hx)⟩
theorem rawE.tyBd {ds:List DataD}{e:Exp}:rawE ds e→tyBd e:=by
 induction e using Exp.ind with
 | h e ih =>
  intro h
  rw [Zc6]
  exact ⟨Nat.le_trans h.one.2.2.1 (by decide),fun x hx=>ih x hx (h.child hx)⟩
theorem ZrP (L:List Int)(ds:List DataD)(hL:L.length≤1073741824)(hds:ZhC ds):∀ (d I:Nat),d≤100→I≤L.length →
 ∃ r,TypeS L (5 ^ d) r∧(K A).call 70 [.sc (.ptr 0 0),ZaS ds,.sc (.c (.sl [])),intV d] [Zbi L I]=some r:=by
 intro d
 have intSz:(Ty.mk 4 [73,110,116] 0 0 []).size=1:=Ty.size_leaf
 induction d with
 | zero =>
  intro I _ hI
  obtain ⟨k,J,hk,hJ,hc⟩:=ZeA (A:=A) L I 7 hI hL (by omega) (by omega)
  refine ZcD _ (vf:=v70) (by kernel_rfl) rfl (by simp) ?_
  have hi:=int29 (A:=A)
  unfold v70
  by_cases h3:k<3
  ·have h3':(k:Int)<3:=by omega
   have h4':(k:Int)<4:=by omega
   simp (disch:=first|omega|(simp;done)|(simp;omega)) [hc,hi,h3',h4',-getElem?_pos]
   exact ⟨_,J,by rw [intSz];omega,hJ,rfl⟩
  ·have h3':¬(k:Int)<3:=by omega
   by_cases h4:k<4
   ·have h4':(k:Int)<4:=by omega
    simp (disch:=first|omega|(simp;done)|(simp;omega)) [hc,hi,h3',h4',-getElem?_pos]
    exact ⟨_,J,by rw [intSz];omega,hJ,rfl⟩
   ·have h4':¬(k:Int)<4:=by omega
    simp (disch:=first|omega|(simp;done)|(simp;omega)) [hc,hi,h3',h4',-getElem?_pos]
    exact ⟨_,J,by rw [intSz];omega,hJ,rfl⟩
 | succ d ih =>
  intro I hd hI
  obtain ⟨k,J,hk,hJ,hc⟩:=ZeA (A:=A) L I 7 hI hL (by omega) (by omega)
  have hi:=int29 (A:=A)
  have hn:Ty.rows []=[]:=by rw [Ty.rows]
  have hd1:¬(d:Int)+1<1:=by omega
  have hp:1≤5 ^ d:=Nat.pos_of_ne_zero (by simp)
  have hp1:5 ^ (d+1)=5*5 ^ d:=by rw [Nat.pow_succ];omega
  refine ZcD _ (vf:=v70) (by kernel_rfl) rfl (by simp) ?_
  by_cases h4:k<4
  ·have h4':(k:Int)<4:=by omega
   unfold v70
   by_cases h3:k<3
   ·have h3':(k:Int)<3:=by omega
    simp (disch:=first|omega|(simp;done)|(simp;omega)) [hc,hi,h3',h4',-getElem?_pos]
    exact ⟨_,J,by rw [intSz];omega,hJ,rfl⟩
   ·have h3':¬(k:Int)<3:=by omega
    simp (disch:=first|omega|(simp;done)|(simp;omega)) [hc,hi,h3',h4',-getElem?_pos]
    exact ⟨_,J,by rw [intSz];omega,hJ,rfl⟩
  ·have h3':¬(k:Int)<3:=by omega
   have h4':¬(k:Int)<4:=by omega
   by_cases hdata:ds≠[]∧k<6
   ·have hpos:0<ds.length:=List.length_pos_iff.2 hdata.1
    have hds1:=hds.1
    obtain ⟨m,J1,hm,hJ1,hc1⟩:=ZeA (A:=A) L J ds.length hJ hL (by omega) (by omega)
    obtain ⟨dd,hdd⟩:=Zaa (l:=ds) (i:=m) (by omega)
    have hgood:=hds.2 dd (List.mem_of_getElem? hdd)
    have hm':(m:Int)<ds.length:=hm
    have fin:wp (K A) (.loop Zp9) (ZcY 1 (Zgd (K A) (.seq (.region [] [o 77 (.fld 1 (tv 10)),o 78 (.load false 1 (tv 77)),o 79 (.mv (tv 11)),oa 80 (.call (kf 100) [(false,(tv 78)),(false,(tv 79))] []) 4992,on (.store 5 (tv 8) (tv 80) [])] [] [8]) .ret)
     (ZcY 0 (Zgd (K A) (.seq (.region [] [o 81 (.mv (tv 0)),o 82 (.mv (tv 1)),o 83 (.mv (tv 2)),o 84 (.mv (tv 3)),o 85 (.bin .sub 0 (tv 84) (ki 1)),oa 86 (.call (kf 70) [(true,(tv 81)),(false,(tv 82)),(false,(tv 83)),(false,(tv 85))] []) 5440,oa 13 (.new [zi,zs,zi,zi,.nil] []) 5504,on (.store 5 (tv 13) (tv 86) [])] [] [0,1,2,3,8,13])
       (.seq (.region [] [o 87 (.load true 5 (tv 13)),o 88 (.mv (tv 0)),o 89 (.mv (tv 1)),o 90 (.mv (tv 2)),o 91 (.mv (tv 3)),o 92 (.bin .sub 0 (tv 91) (ki 1)),oa 93 (.call (kf 70) [(true,(tv 88)),(false,(tv 89)),(false,(tv 90)),(false,(tv 92))] []) 6016,oa 94 (.call (kf 128) [(false,(tv 87)),(false,(tv 93))] []) 6080,on (.store 5 (tv 8) (tv 94) [])] [(0,6)] [8]) .ret)) (ZfW false 1 [.cell 8 true 5] (TypeS L (5 ^ (d+1))))))))
     ⟨[(0,.sc (.ptr 0 0)),(1,ZaS ds),(2,.sc (.c (.sl []))),(3,intV (d+1)),(8,.sc (.ptr 64 0)),(10,.sc (.ptr 3392 0)),(11,.sc (.arr 3521 0)),(12,intV 0)],
       [(0,some (Zbi L J1)),(64,some (.box [zi,zs,zi,zi,.nil])),(3392,some (.box (wc (ZaJ dd)))),(3521,some (.arr 5 [] 0))]⟩:=by
     refine Zal (TypeJ L ds [] dd d) dd.params.length ⟨[],J1,rfl,by simp,hJ1,by simp [hn]⟩ ?_ ?_
     ·rintro i s hi' ⟨tys,J2,ht,hts,hJ2,rfl⟩
      obtain ⟨r,⟨ty,J3,hty,hJ3,rfl⟩,hc2⟩:=ih J2 (by omega) hJ2
      have hip:=hgood.1
      unfold Zp9
      simp (disch:=first|omega|(simp;done)|(simp;omega)) [hi',hc2,ht,-getElem?_pos]
      refine ⟨tys++[ty],J3,by simp [ht],?_,hJ3,by simp⟩
      intro x hx
      rcases List.mem_append.1 hx with hx|hx
      ·exact hts x hx
      ·simp only [List.mem_singleton] at hx
       exact hx▸hty
     ·rintro s ⟨tys,J2,ht,hts,hJ2,rfl⟩
      have hip:=hgood.1
      have hcon:=Zts (A:=A) dd.name tys (by omega)
      unfold Zp9
      simp (disch:=first|omega|(simp;done)|(simp;omega)) [hcon,ht,-getElem?_pos]
      refine ⟨_,J2,?_,hJ2,rfl⟩
      have hs:=Zk5 hts
      have hm4:tys.length*5 ^ d≤4*5 ^ d:=Nat.mul_le_mul_right _ (by omega)
      simp only [Ty.size,Ty.sizes_map]
      omega
    by_cases hk4:k=4
    ·unfold v70
     simp (disch:=first|omega|(simp;done)|(simp;omega)) [hc,hi,h3',h4',hd1,hk4,hdata.1,hpos,hc1,hdd,-getElem?_pos]
     exact fin
    ·have hk5:k=5:=by omega
     unfold v70
     simp (disch:=first|omega|(simp;done)|(simp;omega)) [hc,hi,h3',h4',hd1,hk5,hdata.1,hpos,hc1,hdd,-getElem?_pos]
     exact fin
   ·obtain ⟨r1,⟨t1,J1,ht1,hJ1,rfl⟩,hc1⟩:=ih J (by omega) hJ
    obtain ⟨r2,⟨t2,J2,ht2,hJ2,rfl⟩,hc2⟩:=ih J1 (by omega) hJ1
    have har:=ZsO (A:=A) t1 t2
    have hsz:(Ty.mk 4 [45,62] 0 0 [t1,t2]).size≤5 ^ (d+1):=by
     simp only [Ty.size,Ty.sizes]
     omega
    have hb4:¬((k:Int)=4∧0<ds.length):=by
     rintro ⟨h1,h2⟩
     exact hdata ⟨List.length_pos_iff.1 h2,by omega⟩
    have hb5:¬((k:Int)=5∧0<ds.length):=by
     rintro ⟨h1,h2⟩
     exact hdata ⟨List.length_pos_iff.1 h2,by omega⟩
    unfold v70
    by_cases hz:ds=[]
    ·subst hz
     have hz2:Zax []=[]:=rfl
     simp only [ZaS,hz2] at hc1 hc2
     by_cases hk4:(k:Int)=4
     ·simp (disch:=first|omega|(simp;done)|(simp;omega)) [hc,hi,h3',h4',hd1,hk4,hc1,hc2,har,-getElem?_pos]
      exact ⟨_,J2,hsz,hJ2,rfl⟩
     ·by_cases hk5:(k:Int)=5
      ·simp (disch:=first|omega|(simp;done)|(simp;omega)) [hc,hi,h3',h4',hd1,hk4,hk5,hc1,hc2,har,-getElem?_pos]
       exact ⟨_,J2,hsz,hJ2,rfl⟩
      ·simp (disch:=first|omega|(simp;done)|(simp;omega)) [hc,hi,h3',h4',hd1,hk4,hk5,hc1,hc2,har,-getElem?_pos]
       exact ⟨_,J2,hsz,hJ2,rfl⟩
    ·have hk4:¬(k:Int)=4:=fun h=>hdata ⟨hz,by omega⟩
     have hk5:¬(k:Int)=5:=fun h=>hdata ⟨hz,by omega⟩
     simp (disch:=first|omega|(simp;done)|(simp;omega)) [hc,hi,h3',h4',hd1,hk4,hk5,hc1,hc2,har,-getElem?_pos]
     exact ⟨_,J2,hsz,hJ2,rfl⟩
def wB (d:Nat):Nat:=32*8 ^ d
def RawQ (L:List Int)(ds:List DataD)(B:Nat)(r:V × List Obj):Prop:=∃ e J,rawE ds e∧e.weight≤B∧J≤L.length∧r=(expV e,[Zbi L J])
def ArmQ (L:List Int)(ds:List DataD)(dd:DataD)(x:Exp)(B d i:Nat)(s:St):Prop:=∃ arms J,arms.length=i∧J≤L.length∧(∀ a∈arms,armE ds a∧rawE ds a.2∧a.2.weight≤B) ∧
 s=⟨[(0,.sc (.ptr 0 0)),(1,ZaS ds),(2,intV (d+1)),(6,.sc (.ptr 64 0)),(13,.sc (.ptr 10176 0)),(14,.sc (.ptr 10752 0)),(15,intV i)],
  [(0,some (Zbi L J)),(64,some (.box [zi,zi,zs,zi,.nil,.nil,zi,zs,zi,zi,.nil])),(10176,some (.box (wc (ZaJ dd)))),(10624,some (.arr 11 [wc x.row] 0)),
    (10752,some (.box [.c (.int .i64 8),zi,zs,zi,.arr 10624 1,.arr 10822 i,zi,zs,zi,zi,.nil])),(10822,some (.arr 14 (wr (Exp.armRows arms)) 0))]⟩
def VarQ (L:List Int)(ds:List DataD)(dd:DataD)(x:Exp)(arms:List (ArmH × Exp))(con:Str)(d i j:Nat)(s:St):Prop:=∃ vars J,vars.length=j∧(∀ v∈vars,v∈Za8)∧J≤L.length ∧
 s=⟨[(0,.sc (.ptr 0 0)),(1,ZaS ds),(2,intV (d+1)),(6,.sc (.ptr 64 0)),(13,.sc (.ptr 10176 0)),(14,.sc (.ptr 10752 0)),(15,intV i),(16,.sc (.ptr 11712 0)),(17,intV j)],
  [(0,some (Zbi L J)),(64,some (.box [zi,zi,zs,zi,.nil,.nil,zi,zs,zi,zi,.nil])),(10176,some (.box (wc (ZaJ dd)))),(10624,some (.arr 11 [wc x.row] 0)),
    (10752,some (.box [.c (.int .i64 8),zi,zs,zi,.arr 10624 1,.arr 10822 i,zi,zs,zi,zi,.nil])),(10822,some (.arr 14 (wr (Exp.armRows arms)) 0)),
    (11712,some (.box [zi,.c (.str con),.arr 11779 j,zi,zi,zs,zi,.nil,.nil,zi,zs,zi,zi,.nil])),(11779,some (.arr 1 (wr (Zaf vars)) 0))]⟩
def MadeQ (ds7:List DataD)(L:List Int)(r:V × List Obj):Prop:=∃ a b J ds,(∀ d∈ds,d∈ds7)∧ZhC ds∧rawE ds a∧a.weight≤wB 4∧rawE ds b∧b.weight≤wB 3∧J≤L.length∧r=(.tu [expV a,expV b,.sc (.ptr 0 0)],[Zbi L J])
variable {A:Zac}
theorem rawE1.shp1 {ds:List DataD}{e:Exp}(h:rawE1 ds e):shp1 e:=by
 refine ⟨h.wf1,?_,?_⟩
 ·intro hk
  exact ⟨h.2.2.2.2.1 (by omega),h.2.2.2.1 (by omega)⟩
 ·obtain ⟨_,_,_,_,_,h⟩:=h
  unfold Zmo
  rcases h with ⟨k,_,hk,ha⟩|⟨k,_,hk,ha⟩|⟨k,_,hk,ha⟩|⟨k,_,⟨x,hk⟩,ha⟩|⟨k,_,⟨x,y,hk⟩,ha⟩|⟨k,_,⟨x,y,hk⟩,ha⟩|⟨k,_,⟨x,hk⟩,ha⟩|⟨k,_,x,hk⟩
  ·rw [hk,if_neg (by omega),if_neg (by omega)];rfl
  ·rw [hk,if_neg (by omega),if_neg (by omega)];rfl
  ·rw [hk,if_neg (by omega),if_neg (by omega)];rfl
  ·rw [hk,if_neg (by omega),if_pos (by omega)];rfl
  ·rw [hk,if_pos (by omega)];rfl
  ·rw [hk,if_pos (by omega)];rfl
  ·rw [hk,if_neg (by omega),if_pos (by omega)];rfl
  ·rw [hk,if_neg (by omega),if_pos (by omega)];rfl
theorem rawE.shp {ds:List DataD}{e:Exp}:rawE ds e→shp e:=by
 induction e using Exp.ind with
 | h e ih =>
  intro h
  rw [Ze2]
  exact ⟨h.one.shp1,fun x hx=>ih x hx (h.child hx)⟩
theorem headEq.shp1 {e c:Exp}(h:headEq e c)(hk:e.kind≠1)(hs:shp1 e):shp1 c:=by
 obtain ⟨h1,h2,h3,h4,h5⟩:=h
 obtain ⟨⟨w1,w2,w3⟩,_,w5⟩:=hs
 refine ⟨⟨fun h8 => ?_,fun h8 => ?_,fun h8=>absurd (h1.trans h8) hk⟩,fun h8=>absurd (h1.trans h8) hk,?_⟩
 ·rw [←h4];exact w1 (h1.trans h8)
 ·have:=w2 (by rw [h1];exact h8)
  rw [this] at h5
  exact List.length_eq_zero_iff.1 h5.symm
 ·rw [←h4,w5,h1]
theorem ZoZ (taken:List Str)(e:Exp):∀ old names,shp e→shp (ZbD taken e old names):=by
 induction e using Exp.ind with
 | h e ih =>
  intro old names h
  by_cases hk:e.kind=1
  ·rw [Zcj hk]
   split
   ·rw [Ze2]
    exact ⟨h.one,fun x hx=>h.child hx⟩
   ·exact h
  ·obtain ⟨p1,p2,_⟩:=Zch (taken:=taken) (old:=old) (names:=names) hk h.one.1
   rw [Ze2]
   refine ⟨p1.shp1 hk h.one,fun y hy => ?_⟩
   rw [p2] at hy
   obtain ⟨i,hi⟩:=List.mem_iff_getElem?.1 hy
   have hlt:i<e.children.length:=by
    rcases Nat.lt_or_ge i (ZaL taken e old names).length with h2|h2
    ·rwa [canonC_len,←e.children_len] at h2
    ·rw [List.getElem?_eq_none h2] at hi;cases hi
   obtain ⟨x,hx⟩:=Zaa hlt
   rw [Zcd hx] at hi
   cases hi
   exact ih x (List.mem_of_getElem? hx) _ _ (h.child (List.mem_of_getElem? hx))
theorem ZmH (taken:List Str)(e:Exp):∀ old names,e.wf→tyBd e→tyBd (ZbD taken e old names):=by
 induction e using Exp.ind with
 | h e ih =>
  intro old names hw h
  by_cases hk:e.kind=1
  ·rw [Zcj hk]
   split
   ·rw [Zc6]
    exact ⟨h.one,fun x hx=>h.child hx⟩
   ·exact h
  ·obtain ⟨p1,p2,_⟩:=Zch (taken:=taken) (old:=old) (names:=names) hk hw.one
   rw [Zc6]
   refine ⟨by rw [←p1.2.2.1];exact h.one,fun y hy => ?_⟩
   rw [p2] at hy
   obtain ⟨i,hi⟩:=List.mem_iff_getElem?.1 hy
   have hlt:i<e.children.length:=by
    rcases Nat.lt_or_ge i (ZaL taken e old names).length with h2|h2
    ·rwa [canonC_len,←e.children_len] at h2
    ·rw [List.getElem?_eq_none h2] at hi;cases hi
   obtain ⟨x,hx⟩:=Zaa hlt
   rw [Zcd hx] at hi
   cases hi
   exact ih x (List.mem_of_getElem? hx) _ _ (hw.child (List.mem_of_getElem? hx)) (h.child (List.mem_of_getElem? hx))
theorem ZoW (e:Exp):shp e→shp (Zan e):=by
 induction e using Exp.ind with
 | h e ih =>
  intro h
  obtain ⟨h1,h2,h3,h4,h5,h6,h7,h8⟩:=ZaZ e
  obtain ⟨⟨w1,w2,w3⟩,w4,w5⟩:=h.one
  rw [Ze2]
  refine ⟨⟨⟨fun k=>by rw [h5];exact w1 (h1▸k),fun k => ?_,fun k => ?_⟩,fun k=>by rw [h3,h4];exact w4 (h1▸k),by rw [h5,h1];exact w5⟩,fun y hy => ?_⟩
  ·have:=w2 (h1▸k)
   rw [this] at h6
   exact List.length_eq_zero_iff.1 h6
  ·have:=w3 (h1▸k)
   rw [this] at h5
   exact List.length_eq_zero_iff.1 h5
  ·rw [h7] at hy
   obtain ⟨x,hx,rfl⟩:=List.mem_map.1 hy
   exact ih x hx (h.child hx)
theorem ZmD (e:Exp):tyBd e→tyBd (Zan e):=by
 induction e using Exp.ind with
 | h e ih =>
  intro h
  obtain ⟨h1,h2,h3,h4,h5,h6,h7,h8⟩:=ZaZ e
  rw [Zc6]
  refine ⟨by rw [h4];exact h.one,fun y hy => ?_⟩
  rw [h7] at hy
  obtain ⟨x,hx,rfl⟩:=List.mem_map.1 hy
  exact ih x hx (h.child hx)
theorem ZhQ {e:Exp}(taken:List Str)(h:shp e):shp (Zdq e taken):=ZoZ _ _ _ _ (ZoW e h)
theorem Zkw {e:Exp}(taken:List Str)(hw:e.wf)(h:tyBd e):tyBd (Zdq e taken):=ZmH _ _ _ _ (Zeg e hw) (ZmD e h)
theorem Zfu {e:Exp}(taken:List Str)(hw:e.wf):(Zdq e taken).weight=e.weight:=by
 unfold Zdq
 rw [ZiZ _ _ _ _ (Zeg e hw),ZdZ]
theorem IffB.get {P:Prop}{r:V × List Obj}(h:IffB P r)(hp:P):r=(Zah true,[]):=by
 obtain ⟨v,hv,rfl⟩:=h
 rw [hv.2 hp]
variable {A:Zac}
abbrev u64V (n:Nat):V:=.sc (.c (.int .u64 n))
def ZgL (n:Nat):List Cell:=[.int .u64 n]
def Zbl (d:List Nat):List (List Cell):=d.map ZgL
@[simp] theorem u64Row_len (n:Nat):(ZgL n).length=1:=rfl
@[simp] theorem u64Rows_len (d:List Nat):(Zbl d).length=d.length:=by simp [Zbl]
@[simp] theorem u64Rows_get (d:List Nat) (i:Nat):(Zbl d)[i]?=(d[i]?).map ZgL:=by simp [Zbl]
@[simp] theorem okRows_u64 (d:List Nat):Za2 1 (wr (Zbl d))=true:=ZbM d u64Row_len
@[simp] theorem wc_u64 (n:Nat):wc (ZgL n)=[.c (.int .u64 n)]:=rfl
@[simp] theorem u64Rows_snoc (d:List Nat) (x:Nat):wr (Zbl d)++[[W.c (.int .u64 x)]]=wr (Zbl (d++[x])):=by simp [Zbl,wr,ZgL]
@[simp] theorem u64_set (d:List Nat) (i x:Nat):setRow (wr (Zbl d)) i [W.c (.int .u64 x)]=wr (Zbl (d.set i x)):=by
 rw [setRow_set]
 simp [Zbl,wr,List.map_set,ZgL]
abbrev arrU (d:List Nat):Obj:=.arr 1 (wr (Zbl d)) 0
def ZiM (a b:Nat)(d:List Nat):Prop:=∀ (p q x y:Nat),a≤p→p<q→q<b→d[p]?=some x→d[q]?=some y→x≤y
def SortR (a b:Nat)(d e:List Nat):Prop:=e.Perm d∧(∀ k,k<a∨b≤k→e[k]?=d[k]?)∧ZiM a b e
def butAt (a i j:Nat)(d:List Nat):Prop:=∀ (p q x y:Nat),a≤p→p<q→q≤i→q≠j→d[p]?=some x→d[q]?=some y→x≤y
theorem ZbG (a b:Nat):(K A).call 198 [u64V a,u64V b] []=some (Zah (decide (a<b)),[]):=by
 refine Zas (vf:=v198) (by kernel_rfl) rfl (by simp) ?_
 have h:∀ n:Nat,(K A).call 245 [u64V n] []=some (Zah false,[]):=fun n=>by
  refine Zas (vf:=v245) (by kernel_rfl) rfl (by simp) ?_
  unfold v245
  simp
 unfold v198
 simp [h]
def retV:V:=.tu []
def ZbH (d:List Nat):Nat→List Nat
 | 0=>[]
 | m+1=>match d[m]? with
  | none=>ZbH d m
  | some x=>if 0<m∧d[m-1]?=some x then ZbH d m else ZbH d m++[x]
theorem Zem {d:List Nat}{m x:Nat}(h:d[m]?=some x)(hn:¬(0<m∧d[m-1]?=some x)):ZbH d (m+1)=ZbH d m++[x]:=by
 simp only [ZbH,h,if_neg hn]
theorem Zes {d:List Nat}{m x:Nat}(h:d[m]?=some x)(hm:0<m)(hn:d[m-1]?=some x):ZbH d (m+1)=ZbH d m:=by
 simp only [ZbH,h,if_pos (⟨hm,hn⟩:0<m∧d[m-1]?=some x)]
theorem Zjv (d:List Nat):∀ m,(ZbH d m).length≤m
 | 0=>by simp [ZbH]
 | m+1=>by
  have:=Zjv d m
  simp only [ZbH]
  split
  ·omega
  ·split
   ·omega
   ·simp;omega
theorem Zhh {d:List Nat}{x:Nat}:∀ {m:Nat},x∈ZbH d m↔∃ k,k<m∧d[k]?=some x
 | 0=>by simp [ZbH]
 | m+1=>by
  have ih:=@Zhh d x m
  cases h:d[m]? with
  | none =>
   simp only [ZbH,h]
   rw [ih]
   constructor
   ·rintro ⟨k,hk,hx⟩
    exact ⟨k,by omega,hx⟩
   ·rintro ⟨k,hk,hx⟩
    refine ⟨k,?_,hx⟩
    rcases Nat.lt_or_ge k m with h1|h1
    ·exact h1
    ·have:k=m:=by omega
     rw [this,h] at hx
     cases hx
  | some y =>
   by_cases hn:0<m∧d[m-1]?=some y
   ·rw [Zes h hn.1 hn.2,ih]
    constructor
    ·rintro ⟨k,hk,hx⟩
     exact ⟨k,by omega,hx⟩
    ·rintro ⟨k,hk,hx⟩
     rcases Nat.lt_or_ge k m with h1|h1
     ·exact ⟨k,h1,hx⟩
     ·have:k=m:=by omega
      rw [this,h] at hx
      cases hx
      exact ⟨m-1,by omega,hn.2⟩
   ·rw [Zem h hn,List.mem_append,ih]
    simp only [List.mem_singleton]
    constructor
    ·rintro (⟨k,hk,hx⟩|rfl)
     ·exact ⟨k,by omega,hx⟩
     ·exact ⟨m,by omega,h⟩
    ·rintro ⟨k,hk,hx⟩
     rcases Nat.lt_or_ge k m with h1|h1
     ·exact .inl ⟨k,h1,hx⟩
     ·have:k=m:=by omega
      rw [this,h] at hx
      cases hx
      exact .inr rfl
def ZhB (l:List Nat):Prop:=∀ (p q x y:Nat),p<q→l[p]?=some x→l[q]?=some y→x<y
theorem Zkp {l:List Nat}{x:Nat}(h:ZhB l)(hx:∀ y∈l,y<x):ZhB (l++[x]):=by
 intro p q u v hpq hu hv
 have hq:=(List.getElem?_eq_some_iff.1 hv).1
 simp only [List.length_append,List.length_singleton] at hq
 rw [List.getElem?_append_left (by omega)] at hu
 rcases Nat.lt_or_ge q l.length with h1|h1
 ·rw [List.getElem?_append_left h1] at hv
  exact h p q u v hpq hu hv
 ·rw [List.getElem?_append_right h1,show q-l.length=0 by omega] at hv
  cases hv
  exact hx u (List.mem_of_getElem? hu)
theorem Zf4 {d:List Nat}(hs:ZiM 0 d.length d):∀ m,ZhB (ZbH d m)
 | 0=>fun p q x y _ hx=>by simp [ZbH] at hx
 | m+1=>by
  have ih:=Zf4 hs m
  cases h:d[m]? with
  | none=>simpa only [ZbH,h] using ih
  | some y =>
   by_cases hn:0<m∧d[m-1]?=some y
   ·rw [Zes h hn.1 hn.2]
    exact ih
   ·rw [Zem h hn]
    refine Zkp ih fun u hu => ?_
    obtain ⟨k,hk,hx⟩:=Zhh.1 hu
    have hm:=(List.getElem?_eq_some_iff.1 h).1
    have h1:=hs k m u y (Nat.zero_le _) hk hm hx h
    rcases Nat.lt_or_eq_of_le h1 with h2|h2
    ·exact h2
    ·exfalso
     obtain ⟨z,hz⟩:=Zaa (l:=d) (i:=m-1) (by omega)
     have h3:z=y:=by
      have h4:=hs (m-1) m z y (Nat.zero_le _) (by omega) hm hz h
      rcases Nat.lt_or_ge k (m-1) with h5|h5
      ·have h6:=hs k (m-1) u z (Nat.zero_le _) h5 (by omega) hx hz
       omega
      ·have:k=m-1:=by omega
       rw [this,hz] at hx
       cases hx
       omega
     exact hn ⟨by omega,by rw [hz,h3]⟩
def bump (k i:Nat):Nat:=if i≤k then k+1 else k
def Zgg (l:List Nat)(k:Nat):Nat:=(l.filter fun j=>decide (j<k)).length
theorem ZhN:∀ {l:List Nat}{k:Nat},l.Nodup→Zgg l (k+1)=Zgg l k+if k∈l then 1 else 0
 | [],k,_=>by simp [Zgg]
 | a::l,k,h=>by
  have ih:=@ZhN l k (List.nodup_cons.1 h).2
  have hn:=(List.nodup_cons.1 h).1
  unfold Zgg at ih ⊢
  simp only [List.filter_cons]
  by_cases h1:a<k
  ·have h2:a<k+1:=by omega
   have h3:¬k=a:=by omega
   simp only [h1,h2,decide_true,if_true,List.length_cons,List.mem_cons,h3,false_or]
   omega
  ·by_cases h2:a=k
   ·subst h2
    have h3:a<a+1:=by omega
    simp only [h1,h3,decide_true,decide_false,if_true,List.length_cons,List.mem_cons,true_or,Bool.false_eq_true,if_false]
    rw [if_neg hn] at ih
    omega
   ·have h3:¬a<k+1:=by omega
    have h4:¬k=a:=fun h=>h2 h.symm
    simp only [h1,h3,decide_false,Bool.false_eq_true,if_false,List.mem_cons,h4,false_or]
    exact ih
theorem ZjO:∀ {l:List Nat},ZhB l→l.Nodup:=by
 intro l h
 rw [List.nodup_iff_pairwise_ne]
 rw [List.pairwise_iff_getElem]
 intro i j hi hj hij heq
 have:=h i j l[i] l[j] hij (List.getElem?_eq_getElem hi) (List.getElem?_eq_getElem hj)
 omega
theorem Zlp {l:List Nat}(hl:ZhB l)(n:Nat):∀ t,t≤l.length→(((l.take t).foldl bump (n+1))=n+1+Zgg (l.take t) ((l.take t).foldl bump (n+1)))∧(l.take t).foldl bump (n+1)∉l.take t
 | 0,_=>by simp [Zgg]
 | t+1,ht=>by
  obtain ⟨h1,h2⟩:=Zlp hl n t (by omega)
  obtain ⟨c,hc⟩:=Zaa (l:=l) (i:=t) (by omega)
  rw [ZaC hc,List.foldl_append,List.foldl_cons,List.foldl_nil]
  generalize hk:(l.take t).foldl bump (n+1)=k at h1 h2
  have hlt:∀ x∈l.take t,x<c:=by
   intro x hx
   obtain ⟨i,hi⟩:=List.mem_iff_getElem?.1 hx
   rw [List.getElem?_take] at hi
   split at hi
   ·rename_i hit
    exact hl i t x c hit hi hc
   ·cases hi
  unfold bump
  by_cases hck:c≤k
  ·rw [if_pos hck]
   constructor
   ·unfold Zgg at h1 ⊢
    rw [List.filter_append,List.length_append]
    have e1:((l.take t).filter fun j=>decide (j<k+1))=(l.take t).filter fun j=>decide (j<k):=List.filter_congr fun x hx=>by
     have:=hlt x hx
     have h3:x≠k:=fun h=>h2 (h▸hx)
     simp only [decide_eq_decide]
     omega
    rw [e1]
    have e2:([c].filter fun j=>decide (j<k+1)).length=1:=by
     have:c<k+1:=by omega
     simp [this]
    omega
   ·simp only [List.mem_append,List.mem_singleton,not_or]
    refine ⟨fun h => ?_,by omega⟩
    have:=hlt _ h
    omega
  ·rw [if_neg hck]
   constructor
   ·unfold Zgg at h1 ⊢
    rw [List.filter_append,List.length_append]
    have e2:([c].filter fun j=>decide (j<k)).length=0:=by
     have:¬c<k:=by omega
     simp [this]
    omega
   ·simp only [List.mem_append,List.mem_singleton,not_or]
    exact ⟨h2,by omega⟩
def ZfA (taken:List Str)(a b:Nat):Nat:=((List.range b).filter fun j=>decide (a≤j∧ZbY j∉taken)).length
theorem Zci (taken:List Str)(a b:Nat)(h:a≤b):ZfA taken a (b+1)=ZfA taken a b+if ZbY b∉taken then 1 else 0:=by
 unfold ZfA
 rw [List.range_succ,List.filter_append,List.length_append]
 congr 1
 by_cases hb:ZbY b∉taken
 ·simp [hb,h]
 ·simp [hb]
theorem Zeo (taken:List Str)(a:Nat):ZfA taken a a=0:=by
 unfold ZfA
 rw [List.length_eq_zero_iff,List.filter_eq_nil_iff]
 intro x hx
 have:=List.mem_range.1 hx
 simp only [decide_eq_true_eq,not_and]
 omega
theorem ZeF (taken:List Str)(a:Nat):∀ b,a<b→ZfA taken a b=(if ZbY a∉taken then 1 else 0)+ZfA taken (a+1) b
 | 0,h=>by omega
 | b+1,h=>by
  rcases Nat.lt_or_ge a b with h1|h1
  ·rw [Zci _ _ _ (by omega),Zci _ _ _ (by omega),ZeF taken a b h1]
   omega
  ·have:a=b:=by omega
   subst this
   rw [Zci _ _ _ (Nat.le_refl _),Zeo,Zeo]
   omega
theorem Zef (taken:List Str):∀ f k n,n+ZcC taken k<f→ZfA taken k (ZbE taken f k n)=n
 | 0,k,n,h=>by omega
 | f+1,k,n,h=>by
  simp only [ZbE]
  split
  ·rename_i hm
   have h1:=Zef taken f (k+1) n (by have:=ZdR hm;omega)
   have h2:=Zcp taken f (k+1) n
   rw [ZeF _ _ _ (by omega),h1,if_neg (by simpa using hm)]
   omega
  ·rename_i hm
   split
   ·rename_i h0
    rw [Zeo,h0]
   ·have h1:=Zef taken f (k+1) (n-1) (by have:=Zcg taken k;omega)
    have h2:=Zcp taken f (k+1) (n-1)
    rw [ZeF _ _ _ (by omega),h1,if_pos hm]
    omega
theorem Zh1 (taken:List Str)(a:Nat):∀ {b c},a≤b→b≤c→ZfA taken a b≤ZfA taken a c:=by
 intro b c hab hbc
 induction c with
 | zero =>
  have:b=0:=by omega
  rw [this]
  exact Nat.le_refl _
 | succ c ih =>
  rcases Nat.lt_or_ge b (c+1) with h|h
  ·rw [Zci _ _ _ (by omega)]
   have:=ih (by omega)
   omega
  ·have:b=c+1:=by omega
   rw [this]
   exact Nat.le_refl _
theorem Zjw {taken:List Str}{n k:Nat}(h1:1≤k)(hk:ZbY k∉taken)(hc:ZfA taken 1 k=n):ZaU n taken=k:=by
 have hn:=Zdl n taken
 have hm:ZfA taken 1 (ZaU n taken)=n:=Zef taken _ _ _ (by have:=Zd3 taken 1;omega)
 have h2:1≤ZaU n taken:=Zcp taken _ 1 n
 have hr:ZbY (ZaU n taken)∉taken:=hn
 generalize ZaU n taken=r at hr hm h2 ⊢
 rcases Nat.lt_trichotomy r k with h|h|h
 ·have h3:=Zh1 taken 1 (b:=r+1) (c:=k) (by omega) (by omega)
  rw [Zci _ _ _ h2,if_pos hr] at h3
  omega
 ·exact h
 ·have h3:=Zh1 taken 1 (b:=k+1) (c:=r) (by omega) (by omega)
  rw [Zci _ _ _ h1,if_pos hk] at h3
  omega
theorem Zl3 {e:Exp}{s:Str}:∀ n,s∈outP e n→n≤e.children.length→∃ (i:Nat)(x:Exp),e.children[i]?=some x∧s∈Zag x∧s∉e.bound i
 | 0,h,_=>by simp [outP] at h
 | n+1,h,hn=>by
  obtain ⟨x,hx⟩:=Zaa (l:=e.children) (i:=n) (by omega)
  rw [Zg3 hx,ZdB] at h
  rcases h with h|h
  ·exact Zl3 n h (by omega)
  ·exact ⟨n,x,hx,h.1,h.2⟩
theorem Zcn {e:Exp}{s:Str}(hk:e.kind≠1):s∈Zag e↔∃ (i:Nat)(x:Exp),e.children[i]?=some x∧s∈Zag x∧s∉e.bound i:=by
 constructor
 ·intro h
  rw [Zbz,if_neg hk,←ZiH] at h
  exact Zl3 _ h (Nat.le_refl _)
 ·rintro ⟨i,x,hx,hs,hb⟩
  exact (ZhE hk hx hs).resolve_left hb
theorem ZbC {e:Exp}{s:Str}(hk:e.kind=1):s∈Zag e↔s=e.name:=by rw [Zbz,if_pos hk,List.mem_singleton]
theorem Zjm {e:Exp}(h:shp1 e)(hk:e.kind=2):e.children=[]:=by
 have h3:=h.2.2
 rw [hk] at h3
 have h4:=h.1.2.1 (by rw [hk];decide)
 have h5:e.kids=[]:=List.length_eq_zero_iff.1 h3
 simp [Exp.children,h4,h5]
theorem ZcL {e:Exp}(h:e.wf1)(hk:e.kind=1):e.kids=[]∧e.arms=[]∧e.children=[]:=by
 have h1:=h.2.2 hk
 have h2:=h.2.1 (by rw [hk];decide)
 exact ⟨h1,h2,by simp [Exp.children,h1,h2]⟩
def nmN1 (e:Exp):Prop:=e.kind=1∨e.kind=2∨e.kind=4∨e.kind=6∨e.kind=7∨e.name=[]
def nmN (e:Exp):Prop:=e.fold fun e l=>nmN1 e∧∀ p∈l,p
theorem ZoL (e:Exp):nmN e=(nmN1 e∧∀ x∈e.children,nmN x):=by
 have:=Exp.fold_eq (fun e (l:List Prop)=>nmN1 e∧∀ p∈l,p) e
 unfold nmN
 rw [this]
 simp only [List.forall_mem_map]
theorem nmN.one {e:Exp}(h:nmN e):nmN1 e:=by rw [ZoL] at h;exact h.1
theorem nmN.child {e x:Exp}(h:nmN e)(hx:x∈e.children):nmN x:=by rw [ZoL] at h;exact h.2 x hx
theorem rawE.nmN {ds:List DataD}{e:Exp}:rawE ds e→nmN e:=by
 induction e using Exp.ind with
 | h e ih =>
  intro h
  rw [ZoL]
  refine ⟨?_,fun x hx=>ih x hx (h.child hx)⟩
  obtain ⟨_,_,_,_,_,h⟩:=h.one
  unfold nmN1
  rcases h with ⟨k,_⟩|⟨k,_⟩|⟨_,n,_⟩|⟨k,_⟩|⟨_,n,_⟩|⟨k,_⟩|⟨_,n,_⟩|⟨_,n,_⟩
  ·exact .inl k
  ·exact .inr (.inl k)
  ·exact .inr (.inr (.inr (.inr (.inr n))))
  ·exact .inr (.inr (.inl k))
  ·exact .inr (.inr (.inr (.inr (.inr n))))
  ·rcases k with k|k
   ·exact .inr (.inr (.inr (.inl k)))
   ·exact .inr (.inr (.inr (.inr (.inl k))))
  ·exact .inr (.inr (.inr (.inr (.inr n))))
  ·exact .inr (.inr (.inr (.inr (.inr n))))
theorem ZiR {taken:List Str}{e:Exp}{old names:List Str}{i:Nat}{p:ArmH × Exp}(hk:e.kind≠1)(hp:(ZbD taken e old names).arms[i]?=some p) :
 ∃ q,e.arms[i]?=some q∧p.1.con=q.1.con∧p.1.vars=news taken old.length q.1.vars.length:=by
 rw [Zd1 hk,Zdu,List.getElem?_zipWith] at hp
 cases ha:e.arms[i]? with
 | none=>rw [ha] at hp;simp at hp
 | some q =>
  rw [ha] at hp
  cases hc:((ZaL taken e old names).drop e.kids.length)[i]? with
  | none=>rw [hc] at hp;simp at hp
  | some c =>
   rw [hc] at hp
   simp only [Option.some.injEq] at hp
   subst hp
   exact ⟨q,rfl,rfl,rfl⟩
end Go.Vs.Tryz
