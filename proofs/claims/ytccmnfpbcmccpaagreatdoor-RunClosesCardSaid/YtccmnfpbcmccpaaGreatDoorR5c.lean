/- Equal up to the names that are bound, by the reference, walked. (Parts of one proof, put together.) -/
import Derived.Test.YtccmnfpbcmccpaaGreatDoorR4c
import Derived.Test.YtccmnfpbcmccpaaGreatDoorR3c
import Derived.Test.YtccmnfpbcmccpaaGreatDoorR0c
import Derived.Test.YtccmnfpbcmccpaaGreatDoorR2c
set_option linter.unusedSimpArgs false
set_option linter.unusedVariables false
set_option linter.deprecated false
set_option maxHeartbeats 8000000
namespace Go.Vs.Tryz
open Go Go.Vs
variable {A:Zac}
def tyBd (e:Exp):Prop:=e.fold fun e l=>e.ty.size≤1073741824∧∀ p∈l,p
theorem ZcA (e:Exp):tyBd e=(e.ty.size≤1073741824∧∀ x∈e.children,tyBd x):=by
 have:=Exp.fold_eq (fun e (l:List Prop)=>e.ty.size≤1073741824∧∀ p∈l,p) e
 unfold tyBd
 rw [this]
 simp only [List.forall_mem_map]
theorem tyBd.one {e:Exp}(h:tyBd e):e.ty.size≤1073741824:=by rw [ZcA] at h;exact h.1
theorem tyBd.child {e x:Exp}(h:tyBd e)(hx:x∈e.children):tyBd x:=by rw [ZcA] at h;exact h.2 x hx
variable {A:Zac}
@[simp] theorem tz_size:tz.size≤46656:=by decide
def cOk (ds:List DataD)(s:Str):Prop:=s=[71,111,110,101]∨∃ d∈ds,∃ c∈d.cons,s=c.name
def rawS (ds:List DataD)(e:Exp):Prop :=
 (e.kind=1∧e.name∈Zbe∧e.kids=[]∧e.arms=[])∨(e.kind=2∧cOk ds e.name∧e.kids=[]∧e.arms=[])∨((e.kind=3∨e.kind=10)∧e.name=[]∧e.kids=[]∧e.arms=[]) ∨
 (e.kind=4∧e.name∈Zbe∧(∃ x,e.kids=[x])∧e.arms=[])∨(e.kind=5∧e.name=[]∧(∃ x y,e.kids=[x,y])∧e.arms=[])∨((e.kind=6∨e.kind=7)∧e.name∈Zbe∧(∃ x y,e.kids=[x,y])∧e.arms=[]) ∨
 ((e.kind=9∨e.kind=11)∧e.name=[]∧(∃ x,e.kids=[x])∧e.arms=[])∨(e.kind=8∧e.name=[]∧∃ x,e.kids=[x])
def armE (ds:List DataD)(a:ArmH × Exp):Prop:=a.1.pos=0∧cOk ds a.1.con∧a.1.vars.length≤4∧∀ v∈a.1.vars,v∈Zbe
def rawE1 (ds:List DataD)(e:Exp):Prop:=e.pos=0∧(∀ a∈e.arms,armE ds a)∧e.ty.size≤46656∧(e.kind≠9→e.ty=tz)∧(e.kind≠3→e.num=0)∧rawS ds e
def rawE (ds:List DataD)(e:Exp):Prop:=e.fold fun e l=>rawE1 ds e∧∀ p∈l,p
theorem ZiW (ds:List DataD)(e:Exp):rawE ds e=(rawE1 ds e∧∀ x∈e.children,rawE ds x):=by
 have:=Exp.fold_eq (fun e (l:List Prop)=>rawE1 ds e∧∀ p∈l,p) e
 unfold rawE
 rw [this]
 simp only [List.forall_mem_map]
theorem ZcD (ds:List DataD) (k p n m ks l t):rawE ds (Exp.mk k p n m ks l t)=(rawE1 ds (Exp.mk k p n m ks l t)∧(∀ x∈ks,rawE ds x)∧∀ a∈l,rawE ds a.2):=by
 rw [ZiW]
 simp only [Exp.kids,Exp.arms,Exp.children,List.mem_append,List.mem_map]
 apply propext
 constructor
 ·rintro ⟨h1,h2⟩
  exact ⟨h1,fun x hx=>h2 x (.inl hx),fun a ha=>h2 a.2 (.inr ⟨a,ha,rfl⟩)⟩
 ·rintro ⟨h1,h2,h3⟩
  refine ⟨h1,?_⟩
  rintro x (hx|⟨a,ha,rfl⟩)
  ·exact h2 x hx
  ·exact h3 a ha
theorem rawE.one {ds:List DataD}{e:Exp}(h:rawE ds e):rawE1 ds e:=by rw [ZiW] at h;exact h.1
theorem rawE.child {ds:List DataD}{e x:Exp}(h:rawE ds e)(hx:x∈e.children):rawE ds x:=by rw [ZiW] at h;exact h.2 x hx
theorem rawE1.wf1 {ds:List DataD}{e:Exp}(h:rawE1 ds e):e.wf1:=by
 obtain ⟨_,_,_,_,_,h⟩:=h
 unfold Exp.wf1
 rcases h with ⟨k,_,hk,ha⟩|⟨k,_,hk,ha⟩|⟨k,_,hk,ha⟩|⟨k,_,⟨x,hk⟩,ha⟩|⟨k,_,⟨x,y,hk⟩,ha⟩|⟨k,_,⟨x,y,hk⟩,ha⟩|⟨k,_,⟨x,hk⟩,ha⟩|⟨k,_,x,hk⟩
 all_goals
  refine ⟨fun h => ?_,fun h => ?_,fun h => ?_⟩
  all_goals first | exact ha | exact hk | (rw [hk];rfl) | (exfalso;omega)
theorem rawE.wf {ds:List DataD}{e:Exp}:rawE ds e→e.wf:=by
 induction e using Exp.ind with
 | h e ih =>
  intro h
  rw [Exp.wf_eq]
  exact ⟨h.one.wf1,fun x hx=>ih x hx (h.child hx)⟩
theorem rawE.tyBd {ds:List DataD}{e:Exp}:rawE ds e→tyBd e:=by
 induction e using Exp.ind with
 | h e ih =>
  intro h
  rw [ZcA]
  exact ⟨Nat.le_trans h.one.2.2.1 (by decide),fun x hx=>ih x hx (h.child hx)⟩
theorem Zro (L:List Int)(ds:List DataD)(hL:L.length≤1073741824)(hds:Zdz ds):∀ (d I:Nat),d≤100→I≤L.length →
 ∃ r,TypeS L (5 ^ d) r∧(K A).call 45 [.sc (.ptr 0 0),Zal ds,.sc (.c (.sl [])),intV d] [Zan L I]=some r:=by
 intro d
 have intSz:(Ty.mk 4 [73,110,116] 0 0 []).size=1:=Ty.size_leaf
 induction d with
 | zero =>
  intro I _ hI
  obtain ⟨k,J,hk,hJ,hc⟩:=ZaL (A:=A) L I 7 hI hL (by omega) (by omega)
  refine Zap _ (vf:=v45) (by kernel_rfl) rfl (by simp) ?_
  have hi:=Zf2 (A:=A)
  unfold v45
  by_cases h3:k<3
  ·have h3':(k:Int)<3:=by omega
   have h4':(k:Int)<4:=by omega
   simp (disch:=first|omega|(simp;done)|(simp;omega)) [hc,hi,h3',h4',-getElem?_pos]
   exact ⟨_,J,by rw [intSz];omega,hJ,rfl⟩
  ·have h3':¬(k:Int)<3:=by omega
   by_cases h4:k<4
   ·have h4':(k:Int)<4:=by omega
    simp (disch:=first|omega|(simp;done)|(simp;omega)) [hc,hi,h3',h4',-getElem?_pos]
    exact ⟨_,J,by rw [intSz];omega,hJ,rfl⟩
   ·have h4':¬(k:Int)<4:=by omega
    simp (disch:=first|omega|(simp;done)|(simp;omega)) [hc,hi,h3',h4',-getElem?_pos]
    exact ⟨_,J,by rw [intSz];omega,hJ,rfl⟩
 | succ d ih =>
  intro I hd hI
  obtain ⟨k,J,hk,hJ,hc⟩:=ZaL (A:=A) L I 7 hI hL (by omega) (by omega)
  have hi:=Zf2 (A:=A)
  have hn:Ty.rows []=[]:=by rw [Ty.rows]
  have hd1:¬(d:Int)+1<1:=by omega
  have hp:1≤5 ^ d:=Nat.pos_of_ne_zero (by simp)
  have hp1:5 ^ (d+1)=5*5 ^ d:=by rw [Nat.pow_succ];omega
  refine Zap _ (vf:=v45) (by kernel_rfl) rfl (by simp) ?_
  by_cases h4:k<4
  ·have h4':(k:Int)<4:=by omega
   unfold v45
   by_cases h3:k<3
   ·have h3':(k:Int)<3:=by omega
    simp (disch:=first|omega|(simp;done)|(simp;omega)) [hc,hi,h3',h4',-getElem?_pos]
    exact ⟨_,J,by rw [intSz];omega,hJ,rfl⟩
   ·have h3':¬(k:Int)<3:=by omega
    simp (disch:=first|omega|(simp;done)|(simp;omega)) [hc,hi,h3',h4',-getElem?_pos]
    exact ⟨_,J,by rw [intSz];omega,hJ,rfl⟩
  ·have h3':¬(k:Int)<3:=by omega
   have h4':¬(k:Int)<4:=by omega
   by_cases hdata:ds≠[]∧k<6
   ·have hpos:0<ds.length:=List.length_pos_iff.2 hdata.1
    have hds1:=hds.1
    obtain ⟨m,J1,hm,hJ1,hc1⟩:=ZaL (A:=A) L J ds.length hJ hL (by omega) (by omega)
    obtain ⟨dd,hdd⟩:=Zaa (l:=ds) (i:=m) (by omega)
    have hgood:=hds.2 dd (List.mem_of_getElem? hdd)
    have hm':(m:Int)<ds.length:=hm
    have fin:wp (K A) (.loop Zf5) (Zby 1 (Zcv (K A) (.seq (.region [] [o 77 (.fld 1 (tv 10)),o 78 (.load false 1 (tv 77)),o 79 (.mv (tv 11)),oa 80 (.call (kf 90) [(false,(tv 78)),(false,(tv 79))] []) 4992,on (.store 5 (tv 8) (tv 80) [])] [] [8]) .ret)
     (Zby 0 (Zcv (K A) (.seq (.region [] [o 81 (.mv (tv 0)),o 82 (.mv (tv 1)),o 83 (.mv (tv 2)),o 84 (.mv (tv 3)),o 85 (.bin .sub 0 (tv 84) (ki 1)),oa 86 (.call (kf 45) [(true,(tv 81)),(false,(tv 82)),(false,(tv 83)),(false,(tv 85))] []) 5440,oa 13 (.new [zi,zs,zi,zi,.nil] []) 5504,on (.store 5 (tv 13) (tv 86) [])] [] [0,1,2,3,8,13])
       (.seq (.region [] [o 87 (.load true 5 (tv 13)),o 88 (.mv (tv 0)),o 89 (.mv (tv 1)),o 90 (.mv (tv 2)),o 91 (.mv (tv 3)),o 92 (.bin .sub 0 (tv 91) (ki 1)),oa 93 (.call (kf 45) [(true,(tv 88)),(false,(tv 89)),(false,(tv 90)),(false,(tv 92))] []) 6016,oa 94 (.call (kf 85) [(false,(tv 87)),(false,(tv 93))] []) 6080,on (.store 5 (tv 8) (tv 94) [])] [(0,6)] [8]) .ret)) (Zdy false 1 [.cell 8 true 5] (TypeS L (5 ^ (d+1))))))))
     ⟨[(0,.sc (.ptr 0 0)),(1,Zal ds),(2,.sc (.c (.sl []))),(3,intV (d+1)),(8,.sc (.ptr 64 0)),(10,.sc (.ptr 3392 0)),(11,.sc (.arr 3521 0)),(12,intV 0)],
       [(0,some (Zan L J1)),(64,some (.box [zi,zs,zi,zi,.nil])),(3392,some (.box (wc (Zau dd)))),(3521,some (.arr 5 [] 0))]⟩:=by
     refine Zaf (TypeJ L ds [] dd d) dd.params.length ⟨[],J1,rfl,by simp,hJ1,by simp [hn]⟩ ?_ ?_
     ·rintro i s hi' ⟨tys,J2,ht,hts,hJ2,rfl⟩
      obtain ⟨r,⟨ty,J3,hty,hJ3,rfl⟩,hc2⟩:=ih J2 (by omega) hJ2
      have hip:=hgood.1
      unfold Zf5
      simp (disch:=first|omega|(simp;done)|(simp;omega)) [hi',hc2,ht,-getElem?_pos]
      refine ⟨tys++[ty],J3,by simp [ht],?_,hJ3,by simp⟩
      intro x hx
      rcases List.mem_append.1 hx with hx|hx
      ·exact hts x hx
      ·simp only [List.mem_singleton] at hx
       exact hx▸hty
     ·rintro s ⟨tys,J2,ht,hts,hJ2,rfl⟩
      have hip:=hgood.1
      have hcon:=ZiP (A:=A) dd.name tys (by omega)
      unfold Zf5
      simp (disch:=first|omega|(simp;done)|(simp;omega)) [hcon,ht,-getElem?_pos]
      refine ⟨_,J2,?_,hJ2,rfl⟩
      have hs:=ZcZ hts
      have hm4:tys.length*5 ^ d≤4*5 ^ d:=Nat.mul_le_mul_right _ (by omega)
      simp only [Ty.size,Ty.sizes_map]
      omega
    by_cases hk4:k=4
    ·unfold v45
     simp (disch:=first|omega|(simp;done)|(simp;omega)) [hc,hi,h3',h4',hd1,hk4,hdata.1,hpos,hc1,hdd,-getElem?_pos]
     exact fin
    ·have hk5:k=5:=by omega
     unfold v45
     simp (disch:=first|omega|(simp;done)|(simp;omega)) [hc,hi,h3',h4',hd1,hk5,hdata.1,hpos,hc1,hdd,-getElem?_pos]
     exact fin
   ·obtain ⟨r1,⟨t1,J1,ht1,hJ1,rfl⟩,hc1⟩:=ih J (by omega) hJ
    obtain ⟨r2,⟨t2,J2,ht2,hJ2,rfl⟩,hc2⟩:=ih J1 (by omega) hJ1
    have har:=Zep (A:=A) t1 t2
    have hsz:(Ty.mk 4 [45,62] 0 0 [t1,t2]).size≤5 ^ (d+1):=by
     simp only [Ty.size,Ty.sizes]
     omega
    have hb4:¬((k:Int)=4∧0<ds.length):=by
     rintro ⟨h1,h2⟩
     exact hdata ⟨List.length_pos_iff.1 h2,by omega⟩
    have hb5:¬((k:Int)=5∧0<ds.length):=by
     rintro ⟨h1,h2⟩
     exact hdata ⟨List.length_pos_iff.1 h2,by omega⟩
    unfold v45
    by_cases hz:ds=[]
    ·subst hz
     have hz2:Zah []=[]:=rfl
     simp only [Zal,hz2] at hc1 hc2
     by_cases hk4:(k:Int)=4
     ·simp (disch:=first|omega|(simp;done)|(simp;omega)) [hc,hi,h3',h4',hd1,hk4,hc1,hc2,har,-getElem?_pos]
      exact ⟨_,J2,hsz,hJ2,rfl⟩
     ·by_cases hk5:(k:Int)=5
      ·simp (disch:=first|omega|(simp;done)|(simp;omega)) [hc,hi,h3',h4',hd1,hk4,hk5,hc1,hc2,har,-getElem?_pos]
       exact ⟨_,J2,hsz,hJ2,rfl⟩
      ·simp (disch:=first|omega|(simp;done)|(simp;omega)) [hc,hi,h3',h4',hd1,hk4,hk5,hc1,hc2,har,-getElem?_pos]
       exact ⟨_,J2,hsz,hJ2,rfl⟩
    ·have hk4:¬(k:Int)=4:=fun h=>hdata ⟨hz,by omega⟩
     have hk5:¬(k:Int)=5:=fun h=>hdata ⟨hz,by omega⟩
     simp (disch:=first|omega|(simp;done)|(simp;omega)) [hc,hi,h3',h4',hd1,hk4,hk5,hc1,hc2,har,-getElem?_pos]
     exact ⟨_,J2,hsz,hJ2,rfl⟩
def wB (d:Nat):Nat:=32*8 ^ d
def RawQ (L:List Int)(ds:List DataD)(B:Nat)(r:V × List Obj):Prop:=∃ e J,rawE ds e∧e.weight≤B∧J≤L.length∧r=(expV e,[Zan L J])
def ArmQ (L:List Int)(ds:List DataD)(dd:DataD)(x:Exp)(B d i:Nat)(s:St):Prop:=∃ arms J,arms.length=i∧J≤L.length∧(∀ a∈arms,armE ds a∧rawE ds a.2∧a.2.weight≤B) ∧
 s=⟨[(0,.sc (.ptr 0 0)),(1,Zal ds),(2,intV (d+1)),(6,.sc (.ptr 64 0)),(13,.sc (.ptr 10176 0)),(14,.sc (.ptr 10752 0)),(15,intV i)],
  [(0,some (Zan L J)),(64,some (.box [zi,zi,zs,zi,.nil,.nil,zi,zs,zi,zi,.nil])),(10176,some (.box (wc (Zau dd)))),(10624,some (.arr 11 [wc x.row] 0)),
    (10752,some (.box [.c (.int .i64 8),zi,zs,zi,.arr 10624 1,.arr 10822 i,zi,zs,zi,zi,.nil])),(10822,some (.arr 14 (wr (Exp.armRows arms)) 0))]⟩
def VarQ (L:List Int)(ds:List DataD)(dd:DataD)(x:Exp)(arms:List (ArmH × Exp))(con:Str)(d i j:Nat)(s:St):Prop:=∃ vars J,vars.length=j∧(∀ v∈vars,v∈Zbe)∧J≤L.length ∧
 s=⟨[(0,.sc (.ptr 0 0)),(1,Zal ds),(2,intV (d+1)),(6,.sc (.ptr 64 0)),(13,.sc (.ptr 10176 0)),(14,.sc (.ptr 10752 0)),(15,intV i),(16,.sc (.ptr 11712 0)),(17,intV j)],
  [(0,some (Zan L J)),(64,some (.box [zi,zi,zs,zi,.nil,.nil,zi,zs,zi,zi,.nil])),(10176,some (.box (wc (Zau dd)))),(10624,some (.arr 11 [wc x.row] 0)),
    (10752,some (.box [.c (.int .i64 8),zi,zs,zi,.arr 10624 1,.arr 10822 i,zi,zs,zi,zi,.nil])),(10822,some (.arr 14 (wr (Exp.armRows arms)) 0)),
    (11712,some (.box [zi,.c (.str con),.arr 11779 j,zi,zi,zs,zi,.nil,.nil,zi,zs,zi,zi,.nil])),(11779,some (.arr 1 (wr (Zaz vars)) 0))]⟩
def MadeQ (ds7:List DataD)(L:List Int)(r:V × List Obj):Prop:=∃ a b J ds,(∀ d∈ds,d∈ds7)∧Zdz ds∧rawE ds a∧a.weight≤wB 4∧rawE ds b∧b.weight≤wB 3∧J≤L.length∧r=(.tu [expV a,expV b,.sc (.ptr 0 0)],[Zan L J])
variable {A:Zac}
def Zh6 (ds:List DataD):Prop:=∀ d∈ds,d.cons.length≤2∧∀ c∈d.cons,c.fields.length≤2
def wS:Nat→Nat
 | 0=>1
 | d+1=>3*wS d+5
theorem Zlm:∀ d,1≤wS d
 | 0=>Nat.le_refl _
 | d+1=>by have:=Zlm d;simp only [wS];omega
def RawS (L:List Int)(ds:List DataD)(B:Nat)(r:V × List Obj):Prop:=∃ e J,rawE ds e∧e.weight≤B∧J≤L.length∧r=(expV e,[Zan L J])
def ArmS (L:List Int)(ds:List DataD)(dd:DataD)(x:Exp)(B d i:Nat)(s:St):Prop:=∃ arms J,arms.length=i∧J≤L.length∧(∀ a∈arms,armE ds a∧rawE ds a.2∧a.2.weight≤B∧a.1.vars.length≤2) ∧
 s=⟨[(0,.sc (.ptr 0 0)),(1,Zal ds),(2,intV (d+1)),(6,.sc (.ptr 64 0)),(13,.sc (.ptr 10176 0)),(14,.sc (.ptr 10752 0)),(15,intV i)],
  [(0,some (Zan L J)),(64,some (.box [zi,zi,zs,zi,.nil,.nil,zi,zs,zi,zi,.nil])),(10176,some (.box (wc (Zau dd)))),(10624,some (.arr 11 [wc x.row] 0)),
    (10752,some (.box [.c (.int .i64 8),zi,zs,zi,.arr 10624 1,.arr 10822 i,zi,zs,zi,zi,.nil])),(10822,some (.arr 14 (wr (Exp.armRows arms)) 0))]⟩
theorem raw22S (L:List Int)(ds:List DataD)(hL:L.length≤1073741824)(hds:Zdz ds)(h2:Zh6 ds):∀ (d I:Nat),d≤4→I≤L.length →
 ∃ r,RawS L ds (wS d) r∧(K A).call 43 [.sc (.ptr 0 0),Zal ds,intV d] [Zan L I]=some r:=by
 intro d
 induction d using Nat.strongRecOn with
 | ind d ih =>
 intro I hd hI
 obtain ⟨k,J,hk,hJ,hc⟩:=ZaL (A:=A) L I 14 hI hL (by omega) (by omega)
 refine Zap _ (vf:=v43) (by kernel_rfl) rfl (by simp) ?_
 have hp:1≤wS d:=Zlm d
 have hds1:=hds.1
 obtain ⟨c,hc14,hcd,hcs⟩:∃ c:Nat,c<14∧(d=0→c<5)∧((d=0∧(k:Int).tmod 5=c)∨(d≠0∧k=c)):=by
  by_cases h:d=0
  ·refine ⟨k % 5,by omega,fun _=>by omega,.inl ⟨h,rfl⟩⟩
  ·exact ⟨k,by omega,fun h'=>absurd h' h,.inr ⟨h,rfl⟩⟩
 unfold v43
 refine Zdh ⟨[(0,.sc (.ptr 0 0)),(1,Zal ds),(2,intV d),(6,.sc (.ptr 64 0))],[(0,some (Zan L I)),(64,some (.box [zi,zi,zs,zi,.nil,.nil,zi,zs,zi,zi,.nil]))]⟩ (by simp) ?_
 refine Zdh ⟨[(0,.sc (.ptr 0 0)),(1,Zal ds),(2,intV d),(6,.sc (.ptr 64 0)),(7,intV k)],[(0,some (Zan L J)),(64,some (.box [zi,zi,zs,zi,.nil,.nil,zi,zs,zi,zi,.nil]))]⟩ (by simp [hc]) ?_
 refine ZcB (fun s=>s=⟨[(0,.sc (.ptr 0 0)),(1,Zal ds),(2,intV d),(6,.sc (.ptr 64 0)),(7,intV c)],[(0,some (Zan L J)),(64,some (.box [zi,zi,zs,zi,.nil,.nil,zi,zs,zi,zi,.nil]))]⟩ ∨
  s=⟨[(0,.sc (.ptr 0 0)),(1,Zal ds),(2,intV d),(6,.sc (.ptr 64 0)),(7,intV c),(21,ZaG false)],[(0,some (Zan L J)),(64,some (.box [zi,zi,zs,zi,.nil,.nil,zi,zs,zi,zi,.nil]))]⟩) ?_ ?_
 ·rcases hcs with ⟨h0,h1⟩|⟨h0,rfl⟩
  ·subst h0
   simp (disch:=first|omega|(simp;done)|(simp;omega)) [h1]
  ·have h0':¬(d:Int)<1:=by omega
   simp (disch:=first|omega|(simp;done)|(simp;omega)) [h0']
 ·intro s hs
  refine Zna ⟨[(0,.sc (.ptr 0 0)),(1,Zal ds),(2,intV d),(6,.sc (.ptr 64 0)),(24,intV c)],[(0,some (Zan L J)),(64,some (.box [zi,zi,zs,zi,.nil,.nil,zi,zs,zi,zi,.nil]))]⟩ (by rcases hs with rfl | rfl<;>simp) ?_
  clear hs s hcs hc hk
  have leaf:∀ (kind num:Int) (name:Str) (J:Nat),J≤L.length→rawE1 ds (.mk kind 0 name num [] [] tz)→RawS L ds (wS d) (expV (.mk kind 0 name num [] [] tz),[Zan L J]):=by
   intro kind num name J hJ h8
   refine ⟨_,J,?_,?_,hJ,rfl⟩
   ·rw [ZcD]
    exact ⟨h8,by simp,by simp⟩
   ·rw [ZaX]
    simpa using hp
  by_cases h5:c<5
  ·have:c=0∨c=1∨c=2∨c=3∨c=4:=by omega
   rcases this with rfl|rfl|rfl|rfl|rfl
   ·obtain ⟨s,J1,hs,hJ1,hc1⟩:=ZbG (A:=A) L J hJ hL
    simp (disch:=first|omega|(simp;done)|(simp;omega)) [hc1]
    exact leaf 1 0 s J1 hJ1 (by simp [rawE1,rawS,Exp.kind,Exp.pos,Exp.name,Exp.num,Exp.kids,Exp.arms,Exp.ty,hs])
   ·obtain ⟨s,J1,hs,hJ1,hc1⟩:=ZbG (A:=A) L J hJ hL
    simp (disch:=first|omega|(simp;done)|(simp;omega)) [hc1]
    exact leaf 1 0 s J1 hJ1 (by simp [rawE1,rawS,Exp.kind,Exp.pos,Exp.name,Exp.num,Exp.kids,Exp.arms,Exp.ty,hs])
   ·obtain ⟨n,J1,_,hJ1,hc1⟩:=ZaL (A:=A) L J 4 hJ hL (by omega) (by omega)
    simp (disch:=first|omega|(simp;done)|(simp;omega)) [hc1]
    exact leaf 3 n [] J1 hJ1 (by simp [rawE1,rawS,Exp.kind,Exp.pos,Exp.name,Exp.num,Exp.kids,Exp.arms,Exp.ty])
   ·by_cases hz:ds=[]
    ·subst hz
     have hz2:Zah []=[]:=rfl
     simp (disch:=first|omega|(simp;done)|(simp;omega)) [hz2]
     exact leaf 2 0 [71,111,110,101] J hJ (by simp [rawE1,rawS,Exp.kind,Exp.pos,Exp.name,Exp.num,Exp.kids,Exp.arms,Exp.ty,cOk])
    ·have hpos:0<ds.length:=List.length_pos_iff.2 hz
     obtain ⟨m,J1,hm,hJ1,hc1⟩:=ZaL (A:=A) L J ds.length hJ hL (by omega) (by omega)
     obtain ⟨dd,hdd⟩:=Zaa (l:=ds) (i:=m) (by omega)
     have hgood:=hds.2 dd (List.mem_of_getElem? hdd)
     obtain ⟨q,J2,hq,hJ2,hc2⟩:=ZaL (A:=A) L J1 dd.cons.length hJ1 hL (by have:=hgood.2.1;omega) (by have:=hgood.2.2.1;omega)
     obtain ⟨cc,hcc⟩:=Zaa (l:=dd.cons) (i:=q) (by omega)
     simp (disch:=first|omega|(simp;done)|(simp;omega)) [hpos,hc1,hdd,hc2,hcc,-getElem?_pos]
     have hcok:cOk ds cc.name:=.inr ⟨dd,List.mem_of_getElem? hdd,cc,List.mem_of_getElem? hcc,rfl⟩
     exact leaf 2 0 cc.name J2 hJ2 (by simp [rawE1,rawS,Exp.kind,Exp.pos,Exp.name,Exp.num,Exp.kids,Exp.arms,Exp.ty,hcok])
   ·simp (disch:=first|omega|(simp;done)|(simp;omega))
    exact leaf 10 0 [] J hJ (by simp [rawE1,rawS,Exp.kind,Exp.pos,Exp.name,Exp.num,Exp.kids,Exp.arms,Exp.ty])
  ·obtain ⟨d',rfl⟩:∃ d',d=d'+1:=⟨d-1,by omega⟩
   have ih1:∀ I,I≤L.length→∃ r,RawS L ds (wS d') r∧(K A).call 43 [.sc (.ptr 0 0),Zal ds,intV d'] [Zan L I]=some r:=fun I hI=>ih d' (by omega) I (by omega) hI
   have hp':=Zlm d'
   have h32:wS (d'+1)=3*wS d'+5:=rfl
   rw [h32]
   have:c=5∨c=6∨c=7∨c=8∨c=9∨c=10∨c=11∨c=12∨c=13:=by omega
   rcases this with rfl|rfl|rfl|rfl|rfl|rfl|rfl|rfl|rfl
   ·obtain ⟨s,J1,hs,hJ1,hc1⟩:=ZbG (A:=A) L J hJ hL
    obtain ⟨_,⟨x,J2,hx,hxw,hJ2,rfl⟩,hc2⟩:=ih1 J1 hJ1
    simp (disch:=first|omega|(simp;done)|(simp;omega)) [hc1,hc2]
    refine ⟨.mk 4 0 s 0 [x] [] tz,J2,by rw [ZcD];simp [rawE1,rawS,Exp.kind,Exp.pos,Exp.name,Exp.num,Exp.kids,Exp.arms,Exp.ty,hx,hs],by rw [ZaX];simp;omega,hJ2,?_⟩
    simp [expV,Exp.row,tz,Ty.kind,Ty.name,Ty.id,Ty.home,Ty.args]
   ·obtain ⟨s,J1,hs,hJ1,hc1⟩:=ZbG (A:=A) L J hJ hL
    obtain ⟨_,⟨x,J2,hx,hxw,hJ2,rfl⟩,hc2⟩:=ih1 J1 hJ1
    simp (disch:=first|omega|(simp;done)|(simp;omega)) [hc1,hc2]
    refine ⟨.mk 4 0 s 0 [x] [] tz,J2,by rw [ZcD];simp [rawE1,rawS,Exp.kind,Exp.pos,Exp.name,Exp.num,Exp.kids,Exp.arms,Exp.ty,hx,hs],by rw [ZaX];simp;omega,hJ2,?_⟩
    simp [expV,Exp.row,tz,Ty.kind,Ty.name,Ty.id,Ty.home,Ty.args]
   ·obtain ⟨_,⟨x,J1,hx,hxw,hJ1,rfl⟩,hc1⟩:=ih1 J hJ
    obtain ⟨_,⟨y,J2,hy,hyw,hJ2,rfl⟩,hc2⟩:=ih1 J1 hJ1
    simp (disch:=first|omega|(simp;done)|(simp;omega)) [hc1,hc2]
    refine ⟨.mk 5 0 [] 0 [x,y] [] tz,J2,by rw [ZcD];simp [rawE1,rawS,Exp.kind,Exp.pos,Exp.name,Exp.num,Exp.kids,Exp.arms,Exp.ty,hx,hy],by rw [ZaX];simp;omega,hJ2,?_⟩
    simp [expV,Exp.row,tz,Ty.kind,Ty.name,Ty.id,Ty.home,Ty.args]
   ·obtain ⟨_,⟨x,J1,hx,hxw,hJ1,rfl⟩,hc1⟩:=ih1 J hJ
    obtain ⟨_,⟨y,J2,hy,hyw,hJ2,rfl⟩,hc2⟩:=ih1 J1 hJ1
    simp (disch:=first|omega|(simp;done)|(simp;omega)) [hc1,hc2]
    refine ⟨.mk 5 0 [] 0 [x,y] [] tz,J2,by rw [ZcD];simp [rawE1,rawS,Exp.kind,Exp.pos,Exp.name,Exp.num,Exp.kids,Exp.arms,Exp.ty,hx,hy],by rw [ZaX];simp;omega,hJ2,?_⟩
    simp [expV,Exp.row,tz,Ty.kind,Ty.name,Ty.id,Ty.home,Ty.args]
   ·obtain ⟨_,⟨x,J1,hx,hxw,hJ1,rfl⟩,hc1⟩:=ih1 J hJ
    obtain ⟨_,⟨y,J2,hy,hyw,hJ2,rfl⟩,hc2⟩:=ih1 J1 hJ1
    simp (disch:=first|omega|(simp;done)|(simp;omega)) [hc1,hc2]
    refine ⟨.mk 5 0 [] 0 [x,y] [] tz,J2,by rw [ZcD];simp [rawE1,rawS,Exp.kind,Exp.pos,Exp.name,Exp.num,Exp.kids,Exp.arms,Exp.ty,hx,hy],by rw [ZaX];simp;omega,hJ2,?_⟩
    simp [expV,Exp.row,tz,Ty.kind,Ty.name,Ty.id,Ty.home,Ty.args]
   ·obtain ⟨n,J0,hn,hJ0,hc0⟩:=ZaL (A:=A) L J 2 hJ hL (by omega) (by omega)
    obtain ⟨s,J1,hs,hJ1,hc1⟩:=ZbG (A:=A) L J0 hJ0 hL
    obtain ⟨_,⟨x,J2,hx,hxw,hJ2,rfl⟩,hc2⟩:=ih1 J1 hJ1
    obtain ⟨_,⟨y,J3,hy,hyw,hJ3,rfl⟩,hc3⟩:=ih1 J2 hJ2
    simp (disch:=first|omega|(simp;done)|(simp;omega)) [hc0,hc1,hc2,hc3]
    refine ⟨.mk (6+n) 0 s 0 [x,y] [] tz,J3,by rw [ZcD];simp [rawE1,rawS,Exp.kind,Exp.pos,Exp.name,Exp.num,Exp.kids,Exp.arms,Exp.ty,hx,hy,hs];omega,by rw [ZaX];simp;omega,hJ3,?_⟩
    simp [expV,Exp.row,tz,Ty.kind,Ty.name,Ty.id,Ty.home,Ty.args]
   ·obtain ⟨_,⟨x,J1,hx,hxw,hJ1,rfl⟩,hc1⟩:=ih1 J hJ
    obtain ⟨_,⟨ty,J2,hty,hJ2,rfl⟩,hc2⟩:=Zro (A:=A) L ds hL hds 2 J1 (by omega) hJ1
    simp at hc2
    simp (disch:=first|omega|(simp;done)|(simp;omega)) [hc1,hc2]
    have hty':ty.size≤46656:=by omega
    refine ⟨.mk 9 0 [] 0 [x] [] ty,J2,by rw [ZcD];simp [rawE1,rawS,Exp.kind,Exp.pos,Exp.name,Exp.num,Exp.kids,Exp.arms,Exp.ty,hx,hty'],by rw [ZaX];simp;omega,hJ2,?_⟩
    simp [expV,Exp.row,Ty.row_eq]
   ·obtain ⟨_,⟨x,J1,hx,hxw,hJ1,rfl⟩,hc1⟩:=ih1 J hJ
    simp (disch:=first|omega|(simp;done)|(simp;omega)) [hc1]
    refine ⟨.mk 11 0 [] 0 [x] [] tz,J1,by rw [ZcD];simp [rawE1,rawS,Exp.kind,Exp.pos,Exp.name,Exp.num,Exp.kids,Exp.arms,Exp.ty,hx],by rw [ZaX];simp;omega,hJ1,?_⟩
    simp [expV,Exp.row,tz,Ty.kind,Ty.name,Ty.id,Ty.home,Ty.args]
   ·by_cases hz:ds=[]
    ·subst hz
     have hz2:Zah []=[]:=rfl
     obtain ⟨_,⟨x,J1,hx,hxw,hJ1,rfl⟩,hc1⟩:=ih1 J hJ
     simp [Zal,hz2] at hc1
     simp (disch:=first|omega|(simp;done)|(simp;omega)) [Zal,hz2,hc1]
     exact ⟨x,J1,hx,by omega,hJ1,rfl⟩
    ·have hpos:ds.length≠0:=by have:=List.length_pos_iff.2 hz;omega
     obtain ⟨m,J1,hm,hJ1,hc1⟩:=ZaL (A:=A) L J ds.length hJ hL (by omega) (by omega)
     obtain ⟨dd,hdd⟩:=Zaa (l:=ds) (i:=m) (by omega)
     have hgood:=hds.2 dd (List.mem_of_getElem? hdd)
     obtain ⟨hg1,hg2,hg3,hg4⟩:=hgood
     obtain ⟨hs1,hs2⟩:=h2 dd (List.mem_of_getElem? hdd)
     obtain ⟨_,⟨x,J2,hx,hxw,hJ2,rfl⟩,hc2⟩:=ih1 J1 hJ1
     simp (disch:=first|omega|(simp;done)|(simp;omega)) [hz,hc1,hdd,hc2,-getElem?_pos]
     refine Zaf (ArmS L ds dd x (wS d') d') dd.cons.length ⟨[],J2,rfl,hJ2,by simp,by simp⟩ ?_ ?_
     ·rintro i s hi ⟨arms,J3,harms,hJ3,hall,rfl⟩
      obtain ⟨cc,hcc⟩:=Zaa hi
      have hfl:=hg4 cc (List.mem_of_getElem? hcc)
      have hfl2:=hs2 cc (List.mem_of_getElem? hcc)
      unfold Zrs
      simp (disch:=first|omega|(simp;done)|(simp;omega)) [hi,hcc,harms,-getElem?_pos]
      refine Zaf (VarQ L ds dd x arms cc.name d' i) cc.fields.length ⟨[],J3,rfl,by simp,hJ3,by simp [harms]⟩ ?_ ?_
      ·rintro j s hj ⟨vars,J4,hvars,hvn,hJ4,rfl⟩
       obtain ⟨v,J5,hv,hJ5,hc5⟩:=ZbG (A:=A) L J4 hJ4 hL
       unfold ZrS
       simp (disch:=first|omega|(simp;done)|(simp;omega)) [hi,hj,hcc,hc5,hvars,harms,-getElem?_pos]
       refine ⟨vars++[v],J5,by simp [hvars],?_,hJ5,by simp [harms]⟩
       intro u hu
       rcases List.mem_append.1 hu with hu|hu
       ·exact hvn u hu
       ·simp only [List.mem_singleton] at hu
        exact hu▸hv
      ·rintro s ⟨vars,J4,hvars,hvn,hJ4,rfl⟩
       obtain ⟨_,⟨y,J5,hy,hyw,hJ5,rfl⟩,hc5⟩:=ih1 J4 hJ4
       unfold ZrS
       simp (disch:=first|omega|(simp;done)|(simp;omega)) [hi,hcc,hc5,hvars,harms,-getElem?_pos]
       refine ⟨arms++[(⟨0,cc.name,vars⟩,y)],J5,by simp [harms],hJ5,?_,?_⟩
       ·intro a ha
        rcases List.mem_append.1 ha with ha|ha
        ·exact hall a ha
        ·simp only [List.mem_singleton] at ha
         subst ha
         exact ⟨⟨rfl,.inr ⟨dd,List.mem_of_getElem? hdd,cc,List.mem_of_getElem? hcc,rfl⟩,by simp only;omega,hvn⟩,hy,hyw,by simp only;omega⟩
       ·simp [harms,Exp.armRows_map,wr,ZaF]
     ·rintro s ⟨arms,J3,harms,hJ3,hall,rfl⟩
      unfold Zrs
      simp (disch:=first|omega|(simp;done)|(simp;omega)) [harms,-getElem?_pos]
      refine ⟨.mk 8 0 [] 0 [x] arms tz,J3,?_,?_,hJ3,?_⟩
      ·rw [ZcD]
       refine ⟨?_,by simp [hx],fun a ha=>(hall a ha).2.1⟩
       refine ⟨rfl,fun a ha=>(hall a ha).1,tz_size,fun _=>rfl,fun _=>rfl,?_⟩
       simp [rawS,Exp.kind,Exp.name,Exp.kids,Exp.arms]
      ·rw [ZaX]
       have h1:(arms.map fun a=>a.1.vars.length).sum≤(arms.map fun _=>2).sum:=Zio fun a ha=>(hall a ha).2.2.2
       have h2:(arms.map fun a=>a.2.weight).sum≤(arms.map fun _=>wS d').sum:=Zio fun a ha=>(hall a ha).2.2.1
       simp only [List.map_const',List.sum_replicate_nat,harms] at h1 h2
       simp only [List.map_cons,List.map_nil,List.sum_cons,List.sum_nil]
       have h3:dd.cons.length*wS d'≤2*wS d':=Nat.mul_le_mul_right _ hs1
       omega
      ·simp [expV,Exp.row,tz,Ty.kind,Ty.name,Ty.id,Ty.home,Ty.args]
def MadeS (ds7:List DataD)(L:List Int)(r:V × List Obj):Prop:=∃ a b J ds,(∀ d∈ds,d∈ds7)∧Zdz ds∧rawE ds a∧a.weight≤wS 4∧rawE ds b∧b.weight≤wS 3∧J≤L.length∧r=(.tu [expV a,expV b,.sc (.ptr 0 0)],[Zan L J])
variable {A:Zac}
def rigids:List Ty:=[.mk 3 [] 0 0 [],.mk 3 [] 1 3 []]
def vars2:List Ty:=[.mk 1 [] 0 0 [],.mk 1 [] 1 0 []]
def ctxV (l:List EntD):V:=match l with
 | []=>.sc .nil
 | l=>Zbv l
def CtxP (L:List Int)(r:V × List Obj):Prop:=∃ (l:List EntD)(t:Ty)(J:Nat),l.length≤3∧(∀ x∈l,x.name∈Zbe)∧J≤L.length∧r=(.tu [Zbv l,tyV t],[Zan L J])
def CtxI (L:List Int)(ds:List DataD)(n i:Nat)(s:St):Prop:=∃ (l:List EntD)(J p:Nat),l.length=i∧(∀ x∈l,x.name∈Zbe)∧J≤L.length∧(p=0∨p=2) ∧
 s=⟨[(0,.sc (.ptr 0 0)),(1,Zal ds),(5,.sc (.ptr 128 0)),(6,.sc (.arr 320 2)),(7,ctxV l),(8,intV n),(9,intV i)],
  [(0,some (Zan L J)),(128,some (.box [zi,zs,zi,zi,.nil])),(320,some (.arr 5 (wr (Ty.rows rigids)) p))]⟩
variable {A:Zac}
def varExp (s:Str):Exp:=.mk 1 0 s 0 [] [] tz
def spineF (e:Exp)(l:List (Exp × List Exp)):Exp × List Exp :=
 if e.kind=5 then match e.kids,l with
  | [_,x],r::_=>(r.1,r.2++[x])
  | _,_=>(e,[])
 else (e,[])
def ZdP (e:Exp):Exp × List Exp:=e.fold spineF
def sizeM (e:Exp):Nat:=e.fold fun e l=>if e.kind=5 then l.sum else if e.kind=8 then 1+(l.drop 1).sum else 1+l.sum
def Zos (e:Exp):Prop:=e.pos=0∧e.num=0∧e.ty=tz ∧
 ((e.kind=1∧nameOk 97 122 e.name∧e.kids=[]∧e.arms=[])∨(e.kind=2∧nameOk 65 90 e.name∧e.kids=[]∧e.arms=[]) ∨
   (e.kind=4∧nameOk 97 122 e.name∧(∃ x,e.kids=[x])∧e.arms=[]) ∨
   (e.kind=5∧e.name=[]∧(∃ f x,e.kids=[f,x]∧(f.kind=1∨f.kind=2∨f.kind=5))∧e.arms=[]) ∨
   (e.kind=8∧e.name=[]∧(∃ x,e.kids=[x]∧x.kind=1)∧e.arms≠[]∧∀ a∈e.arms,a.1.pos=0∧nameOk 65 90 a.1.con∧a.1.vars.length≤4∧∀ v∈a.1.vars,nameOk 97 122 v))
def good (e:Exp):Prop:=e.fold fun e l=>Zos e∧∀ p∈l,p
theorem ZlP (e:Exp):good e=(Zos e∧∀ x∈e.children,good x):=by
 have:=Exp.fold_eq (fun e (l:List Prop)=>Zos e∧∀ p∈l,p) e
 unfold good
 rw [this]
 simp only [List.forall_mem_map]
theorem good.one {e:Exp}(h:good e):Zos e:=by rw [ZlP] at h;exact h.1
theorem good.child {e x:Exp}(h:good e)(hx:x∈e.children):good x:=by rw [ZlP] at h;exact h.2 x hx
theorem good.cases {e:Exp}(h:good e):(e.kind=1∧nameOk 97 122 e.name∧e.kids=[]∧e.arms=[])∨(e.kind=2∧nameOk 65 90 e.name∧e.kids=[]∧e.arms=[]) ∨
 (e.kind=4∧nameOk 97 122 e.name∧(∃ x,e.kids=[x]∧good x)∧e.arms=[]) ∨
 (e.kind=5∧e.name=[]∧(∃ f x,e.kids=[f,x]∧(f.kind=1∨f.kind=2∨f.kind=5)∧good f∧good x)∧e.arms=[]) ∨
 (e.kind=8∧e.name=[]∧(∃ x,e.kids=[x]∧x.kind=1∧good x)∧e.arms≠[]∧∀ a∈e.arms,a.1.pos=0∧nameOk 65 90 a.1.con∧a.1.vars.length≤4∧(∀ v∈a.1.vars,nameOk 97 122 v)∧good a.2):=by
 obtain ⟨_,_,_,h1⟩:=h.one
 rcases h1 with h1|h1|⟨a,b,⟨x,hx⟩,c⟩|⟨a,b,⟨f,x,hx,hf⟩,c⟩|⟨a,b,⟨x,hx,hk⟩,c,d⟩
 ·exact .inl h1
 ·exact .inr (.inl h1)
 ·exact .inr (.inr (.inl ⟨a,b,⟨x,hx,h.child (by simp [Exp.children,hx])⟩,c⟩))
 ·exact .inr (.inr (.inr (.inl ⟨a,b,⟨f,x,hx,hf,h.child (by simp [Exp.children,hx]),h.child (by simp [Exp.children,hx])⟩,c⟩)))
 ·refine .inr (.inr (.inr (.inr ⟨a,b,⟨x,hx,hk,h.child (by simp [Exp.children,hx])⟩,c,fun y hy => ?_⟩)))
  obtain ⟨p,q,r,s⟩:=d y hy
  exact ⟨p,q,r,s,h.child (by simp only [Exp.children,List.mem_append,List.mem_map];exact .inr ⟨y,hy,rfl⟩)⟩
variable {A:Zac}
abbrev expsV (l:List Exp):V:=.sc (.c (.sl (Exp.rows l)))
def SpineI (e:Exp)(i:Nat)(s:St):Prop:=∃ cur acc,good cur∧(cur.kind=1∨cur.kind=2∨cur.kind=5)∧acc.length=i∧ZdP e=((ZdP cur).1,(ZdP cur).2++acc.reverse) ∧
 s=⟨[(1,.sc (.ptr 64 0)),(2,.sc (.ptr 128 0)),(4,.sc (.arr 257 i))],[(64,some (.box (wc cur.row))),(128,some (.box [zi,zi,zs,zi,.nil,.nil,zi,zs,zi,zi,.nil])),(257,some (.arr 11 (wr (Exp.rows acc)) 0))]⟩
def ZgH (s:Str):Exp:=.mk 2 0 s 0 [] [] tz
def kid0 (e:Exp):Exp:=(e.kids[0]?).getD e
def con0 (e:Exp):Exp:=ZgH (((e.arms[0]?).map fun a=>a.1.con).getD [])
def cmpF (rank:List Str→Exp→Int):Nat→List Str→List Str→Exp→Exp→Int
 | 0,_,_,_,_=>0
 | n+1,l,m,a,b=>orI [cmpI (sizeM a) (sizeM b),cmpI (kindM a) (kindM b),
  if a.kind=4 then cmpF rank n (l++[a.name]) (m++[b.name]) (kid0 a) (kid0 b)
  else if a.kind=8 then orI (cmpI (rank l (kid0 a)) (rank m (kid0 b))::cmpI (rank l (con0 a)) (rank m (con0 b)) ::
   (List.zipWith (fun p q=>cmpF rank n (l++p.1.vars) (m++q.1.vars) p.2 q.2) a.arms b.arms++[cmpI a.arms.length b.arms.length]))
  else orI [cmpI (rank l (ZdP a).1) (rank m (ZdP b).1),cmpI (ZdP a).2.length (ZdP b).2.length,orI (List.zipWith (cmpF rank n l m) (ZdP a).2 (ZdP b).2)]]
variable (rk:List Str→Exp→Int)
def cmpR (n:Nat)(l m:List Str)(a b:Exp):Int :=
 if a.kind=4 then cmpF rk n (l++[a.name]) (m++[b.name]) (kid0 a) (kid0 b)
 else if a.kind=8 then orI (cmpI (rk l (kid0 a)) (rk m (kid0 b))::cmpI (rk l (con0 a)) (rk m (con0 b)) ::
  (List.zipWith (fun p q=>cmpF rk n (l++p.1.vars) (m++q.1.vars) p.2 q.2) a.arms b.arms++[cmpI a.arms.length b.arms.length]))
 else orI [cmpI (rk l (ZdP a).1) (rk m (ZdP b).1),cmpI (ZdP a).2.length (ZdP b).2.length,orI (List.zipWith (cmpF rk n l m) (ZdP a).2 (ZdP b).2)]
def Tri (x y z:Int):Prop:=(x=0→y=0→z=0)∧(x≤0→y≤0→(x<0∨y<0)→z<0)
def ZoX (ds:List DataD)(e:Exp)(N:List Str):Prop:=(e.kind=1→e.name∈N)∧(e.kind=2→∃ d∈ds,e.name∈Zbq d) ∧
 (e.kind=8→∃ d∈ds,(e.arms.map fun a=>a.1.con)=Zbq d∧(e.arms.map fun a=>a.1.vars.length)=d.cons.map fun c=>c.fields.length)
def Zpa (ds:List DataD)(e:Exp)(l:List (List Str→Prop))(N:List Str):Prop:=ZoX ds e N∧∀ (i:Nat) p,l[i]?=some p→p (N++e.bound i)
def ZdL (ds:List DataD)(e:Exp):List Str→Prop:=e.fold (Zpa ds)
def uniq (ds:List DataD):Prop:=∀ d∈ds,∀ d'∈ds,∀ c,c∈Zbq d→c∈Zbq d'→d=d'
theorem Zfx {ds:List DataD}{i j:Nat}(h:i≤j):ZdB ds i≤ZdB ds j:=by
 unfold ZdB
 have:ds.take i=(ds.take j).take i:=by rw [List.take_take,Nat.min_eq_left h]
 rw [this,List.map_take]
 exact Zdq
theorem Zky {ds:List DataD}{i j k k':Nat}{d d':DataD}(hi:ds[i]?=some d)(hj:ds[j]?=some d')(hk:k<d.cons.length)(hk':k'<d'.cons.length)(h:k+ZdB ds i=k'+ZdB ds j):i=j∧k=k':=by
 have h1:=Zfp hi
 have h2:=Zfp hj
 rcases Nat.lt_trichotomy i j with h3|h3|h3
 ·have:=Zfx (ds:=ds) (i:=i+1) (j:=j) h3
  omega
 ·subst h3
  omega
 ·have:=Zfx (ds:=ds) (i:=j+1) (j:=i) h3
  omega
theorem Zg1 {ds:List DataD}{S l:List Str}{e:Exp}(h:e.kind=2)(hd:∃ d∈ds,e.name∈Zbq d):∃ (i k:Nat)(d:DataD),ds[i]?=some d∧(Zbq d)[k]?=some e.name∧Zd8 ds S l e=S.length+l.length+k+ZdB ds i:=by
 obtain ⟨d0,h0,hc⟩:=hd
 have hlt:Zd4 ds e.name<ds.length:=by
  unfold Zd4
  rw [List.findIdx_lt_length]
  exact ⟨d0,h0,by simpa using hc⟩
 obtain ⟨d,hd,hm⟩:=ZmY hlt
 refine ⟨Zd4 ds e.name,Zbx (Zbq d) e.name,d,hd,Ze1 (Zcm.2 hm),?_⟩
 unfold Zd8
 rw [if_neg (by omega),if_pos h]
 have hf:Zrw ds e.name=(((Zd4 ds e.name:Nat):Int),((Zbx (Zbq d) e.name:Nat):Int),true):=by
  unfold Zrw
  rw [hd]
 rw [hf]
 simp
theorem ZgX {ds:List DataD}{S l:List Str}{e:Exp}(h:e.kind=1):Zd8 ds S l e=if e.name∈l then S.length+rlast l e.name else rlast S e.name:=by
 unfold Zd8
 rw [if_pos h]
theorem Zdr {l:List Str}{s:Str}(h:s∈l):0≤rlast l s∧rlast l s<l.length:=by
 refine ⟨Zm2 h,?_⟩
 unfold rlast
 rw [if_pos h]
 have:=Zcm.2 (List.mem_reverse.2 h)
 rw [List.length_reverse] at this
 omega
theorem ZhQ {l:List Str}{s:Str}(h:s∈l):l[(rlast l s).toNat]?=some s:=by
 unfold rlast
 rw [if_pos h]
 have hp:=Zcm.2 (List.mem_reverse.2 h)
 have hx:=Ze1 hp
 rw [List.length_reverse] at hp
 rw [ZfG hp] at hx
 rw [show ((l.length:Int)-1-(Zbx l.reverse s:Int)).toNat=l.length-1-Zbx l.reverse s by omega]
 exact hx
section
variable {ds:List DataD}{S l m:List Str}{a b:Exp}
theorem Zpg (hlm:l.length=m.length)(ha:a.kind=2)(hb:b.kind=2)(da:∃ d∈ds,a.name∈Zbq d)(db:∃ d∈ds,b.name∈Zbq d):Zd8 ds S l a=Zd8 ds S m b↔a.name=b.name:=by
 constructor
 ·intro h
  obtain ⟨i,k,d,h1,h2,h3⟩:=Zg1 (S:=S) (l:=l) ha da
  obtain ⟨i',k',d',h1',h2',h3'⟩:=Zg1 (S:=S) (l:=m) hb db
  rw [h3,h3'] at h
  have hk:=(List.getElem?_eq_some_iff.1 h2).1
  have hk':=(List.getElem?_eq_some_iff.1 h2').1
  rw [cnames_len] at hk hk'
  obtain ⟨rfl,rfl⟩:=Zky h1 h1' hk hk' (by omega)
  rw [h1] at h1'
  cases h1'
  rw [h2] at h2'
  exact Option.some.inj h2'
 ·intro h
  unfold Zd8
  rw [if_neg (by omega),if_pos ha,if_neg (by omega),if_pos hb,h,hlm]
theorem var_rank (hlm:l.length=m.length)(ha:a.kind=1)(hb:b.kind=1)(da:a.name∈S∨a.name∈l)(db:b.name∈S∨b.name∈m):Zd8 ds S l a=Zd8 ds S m b↔ZpU l m a.name b.name:=by
 rw [ZgX ha,ZgX hb]
 unfold ZpU
 by_cases h1:a.name∈l
 ·obtain ⟨p1,p2⟩:=Zdr h1
  rw [if_pos h1]
  by_cases h2:b.name∈m
  ·rw [if_pos h2]
   constructor
   ·exact fun h=>⟨by omega,.inl p1⟩
   ·exact fun h=>by omega
  ·obtain ⟨q1,q2⟩:=Zdr (db.resolve_right h2)
   rw [if_neg h2,ZgP h2]
   constructor
   ·omega
   ·omega
 ·obtain ⟨p1,p2⟩:=Zdr (da.resolve_right h1)
  rw [if_neg h1,ZgP h1]
  by_cases h2:b.name∈m
  ·obtain ⟨q1,q2⟩:=Zdr h2
   rw [if_pos h2]
   constructor
   ·omega
   ·omega
  ·rw [if_neg h2,ZgP h2]
   have g1:=ZhQ (da.resolve_right h1)
   have g2:=ZhQ (db.resolve_right h2)
   constructor
   ·intro h
    rw [h,g2] at g1
    exact ⟨rfl,.inr (Option.some.inj g1).symm⟩
   ·rintro ⟨_,h|h⟩
    ·omega
    ·rw [h]
theorem mixed_rank (hlm:l.length=m.length)(ha:a.kind=1)(hb:b.kind=2)(da:a.name∈S∨a.name∈l)(db:∃ d∈ds,b.name∈Zbq d):Zd8 ds S l a<Zd8 ds S m b:=by
 obtain ⟨i',k',d',h1',h2',h3'⟩:=Zg1 (S:=S) (l:=m) hb db
 rw [ZgX ha,h3']
 by_cases h1:a.name∈l
 ·have:=Zdr h1
  rw [if_pos h1]
  omega
 ·have:=Zdr (da.resolve_right h1)
  rw [if_neg h1]
  omega
end
def Zqr (e:Exp):Prop:=e.kind=1∨e.kind=2∨e.kind=5
end Go.Vs.Tryz
