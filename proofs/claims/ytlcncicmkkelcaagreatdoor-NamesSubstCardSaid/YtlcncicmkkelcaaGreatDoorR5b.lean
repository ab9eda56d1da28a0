/- Alpha equality by the program, walked. (Parts of one proof, put together.) -/
import Derived.Test.YtlcncicmkkelcaaGreatDoorR3b
import Derived.Test.YtlcncicmkkelcaaGreatDoorR4b
import Derived.Test.YtlcncicmkkelcaaGreatDoorR1b
import Derived.Test.YtlcncicmkkelcaaGreatDoorR2b
import Derived.Test.YtlcncicmkkelcaaGreatDoorM6b
set_option linter.unusedSimpArgs false
set_option linter.unusedVariables false
set_option linter.deprecated false
set_option maxHeartbeats 2000000
namespace Go.Vs
open Go
@[simp] theorem ownV_arr {oid k n:Nat} {own:List (Nat × Nat)} {L:Nat→Option Obj} {u:Upd}:ownV oid own L (.sc (.arr k n),u)=some (.sc (.arr k n),u):=by
 cases own with
 | nil=>rfl
 | cons p own=>simp [ownV]
end Go.Vs
namespace Go.Vs.Tryz
open Go Go.Vs
variable {A:Zac}
def Zjy (k:Int):Nat:=if k=5∨k=6∨k=7 then 2 else if k=4∨k=8∨k=9∨k=11 then 1 else 0
def shp1 (e:Exp):Prop:=e.wf1∧(e.kind=1→e.num=0∧e.ty=tz)∧e.kids.length=Zjy e.kind
def shp (e:Exp):Prop:=e.fold fun e l=>shp1 e∧∀ p∈l,p
theorem ZfR (e:Exp):shp e=(shp1 e∧∀ x∈e.children,shp x):=by
 have:=Exp.fold_eq (fun e (l:List Prop)=>shp1 e∧∀ p∈l,p) e
 unfold shp
 rw [this]
 simp only [List.forall_mem_map]
theorem shp.one {e:Exp}(h:shp e):shp1 e:=by rw [ZfR] at h;exact h.1
theorem shp.child {e x:Exp}(h:shp e)(hx:x∈e.children):shp x:=by rw [ZfR] at h;exact h.2 x hx
theorem shp.wf {e:Exp}:shp e→e.wf:=by
 induction e using Exp.ind with
 | h e ih =>
  intro h
  rw [Exp.wf_eq]
  exact ⟨h.one.1,fun x hx=>ih x hx (h.child hx)⟩
def zeroE:Exp:=.mk 0 0 [] 0 [] [] tz
def Zny (e:Exp):List Exp:=List.replicate e.children.length zeroE
@[simp] theorem zerosM_len (e:Exp):(Zny e).length=e.kids.length+e.arms.length:=by rw [Zny,List.length_replicate,e.children_len]
def zrows (e:Exp)(i:Nat):List Exp:=(Zny e).take i++e.children.drop i
variable {A:Zac}
@[simp] theorem tz_size:tz.size≤46656:=by decide
def cOk (ds:List DataD)(s:Str):Prop:=s=[71,111,110,101]∨∃ d∈ds,∃ c∈d.cons,s=c.name
def rawS (ds:List DataD)(e:Exp):Prop :=
 (e.kind=1∧e.name∈Za8∧e.kids=[]∧e.arms=[])∨(e.kind=2∧cOk ds e.name∧e.kids=[]∧e.arms=[])∨((e.kind=3∨e.kind=10)∧e.name=[]∧e.kids=[]∧e.arms=[]) ∨
 (e.kind=4∧e.name∈Za8∧(∃ x,e.kids=[x])∧e.arms=[])∨(e.kind=5∧e.name=[]∧(∃ x y,e.kids=[x,y])∧e.arms=[])∨((e.kind=6∨e.kind=7)∧e.name∈Za8∧(∃ x y,e.kids=[x,y])∧e.arms=[]) ∨
 ((e.kind=9∨e.kind=11)∧e.name=[]∧(∃ x,e.kids=[x])∧e.arms=[])∨(e.kind=8∧e.name=[]∧∃ x,e.kids=[x])
def armE (ds:List DataD)(a:ArmH × Exp):Prop:=a.1.pos=0∧cOk ds a.1.con∧a.1.vars.length≤4∧∀ v∈a.1.vars,v∈Za8
def rawE1 (ds:List DataD)(e:Exp):Prop:=e.pos=0∧(∀ a∈e.arms,armE ds a)∧e.ty.size≤46656∧(e.kind≠9→e.ty=tz)∧(e.kind≠3→e.num=0)∧rawS ds e
def rawE (ds:List DataD)(e:Exp):Prop:=e.fold fun e l=>rawE1 ds e∧∀ p∈l,p
theorem ZkD (ds:List DataD)(e:Exp):rawE ds e=(rawE1 ds e∧∀ x∈e.children,rawE ds x):=by
 have:=Exp.fold_eq (fun e (l:List Prop)=>rawE1 ds e∧∀ p∈l,p) e
 unfold rawE
 rw [this]
 simp only [List.forall_mem_map]
theorem Zc4 (ds:List DataD) (k p n m ks l t):rawE ds (Exp.mk k p n m ks l t)=(rawE1 ds (Exp.mk k p n m ks l t)∧(∀ x∈ks,rawE ds x)∧∀ a∈l,rawE ds a.2):=by
 rw [ZkD]
 simp only [Exp.kids,Exp.arms,Exp.children,List.mem_append,List.mem_map]
 apply propext
 constructor
 ·rintro ⟨h1,h2⟩
  exact ⟨h1,fun x hx=>h2 x (.inl hx),fun a ha=>h2 a.2 (.inr ⟨a,ha,rfl⟩)⟩
 ·rintro ⟨h1,h2,h3⟩
  refine ⟨h1,?_⟩
  rintro x (hx|⟨a,ha,rfl⟩)
  ·exact h2 x hx
  ·exact h3 a ha
theorem rawE.one {ds:List DataD}{e:Exp}(h:rawE ds e):rawE1 ds e:=by rw [ZkD] at h;exact h.1
theorem rawE.child {ds:List DataD}{e x:Exp}(h:rawE ds e)(hx:x∈e.children):rawE ds x:=by rw [ZkD] at h;exact h.2 x hx
theorem rawE1.wf1 {ds:List DataD}{e:Exp}(h:rawE1 ds e):e.wf1:=by
 obtain ⟨_,_,_,_,_,h⟩:=h
 unfold Exp.wf1
 rcases h with ⟨k,_,hk,ha⟩|⟨k,_,hk,ha⟩|⟨k,_,hk,ha⟩|⟨k,_,⟨x,hk⟩,ha⟩|⟨k,_,⟨x,y,hk⟩,ha⟩|⟨k,_,⟨x,y,hk⟩,ha⟩|⟨k,_,⟨x,hk⟩,ha⟩|⟨k,_,x,hk⟩
 all_goals
  refine ⟨fun h => ?_,fun h => ?_,fun h => ?_⟩
  all_goals first | exact ha | exact hk | (rw [hk];rfl) | (exfalso;omega)
theorem rawE.wf {ds:List DataD}{e:Exp}:rawE ds e→e.wf:=by
 induction e using Exp.ind with
 | h e ih =>
  intro h
  rw [Exp.wf_eq]
  exact ⟨h.one.wf1,fun x hx=>ih x hx (h.child hx)⟩
theorem rawE.tyBd {ds:List DataD}{e:Exp}:rawE ds e→tyBd e:=by
 induction e using Exp.ind with
 | h e ih =>
  intro h
  rw [ZdK]
  exact ⟨Nat.le_trans h.one.2.2.1 (by decide),fun x hx=>ih x hx (h.child hx)⟩
theorem Zto (L:List Int)(ds:List DataD)(hL:L.length≤1073741824)(hds:ZhP ds):∀ (d I:Nat),d≤100→I≤L.length →
 ∃ r,TypeS L (5 ^ d) r∧(K A).call 70 [.sc (.ptr 0 0),ZaX ds,.sc (.c (.sl [])),intV d] [Zbo L I]=some r:=by
 intro d
 have intSz:(Ty.mk 4 [73,110,116] 0 0 []).size=1:=Ty.size_leaf
 induction d with
 | zero =>
  intro I _ hI
  obtain ⟨k,J,hk,hJ,hc⟩:=Zen (A:=A) L I 7 hI hL (by omega) (by omega)
  refine ZcI _ (vf:=v70) (by kernel_rfl) rfl (by simp) ?_
  have hi:=int29 (A:=A)
  unfold v70
  by_cases h3:k<3
  ·have h3':(k:Int)<3:=by omega
   have h4':(k:Int)<4:=by omega
   simp (disch:=first|omega|(simp;done)|(simp;omega)) [hc,hi,h3',h4',-getElem?_pos]
   exact ⟨_,J,by rw [intSz];omega,hJ,rfl⟩
  ·have h3':¬(k:Int)<3:=by omega
   by_cases h4:k<4
   ·have h4':(k:Int)<4:=by omega
    simp (disch:=first|omega|(simp;done)|(simp;omega)) [hc,hi,h3',h4',-getElem?_pos]
    exact ⟨_,J,by rw [intSz];omega,hJ,rfl⟩
   ·have h4':¬(k:Int)<4:=by omega
    simp (disch:=first|omega|(simp;done)|(simp;omega)) [hc,hi,h3',h4',-getElem?_pos]
    exact ⟨_,J,by rw [intSz];omega,hJ,rfl⟩
 | succ d ih =>
  intro I hd hI
  obtain ⟨k,J,hk,hJ,hc⟩:=Zen (A:=A) L I 7 hI hL (by omega) (by omega)
  have hi:=int29 (A:=A)
  have hn:Ty.rows []=[]:=by rw [Ty.rows]
  have hd1:¬(d:Int)+1<1:=by omega
  have hp:1≤5 ^ d:=Nat.pos_of_ne_zero (by simp)
  have hp1:5 ^ (d+1)=5*5 ^ d:=by rw [Nat.pow_succ];omega
  refine ZcI _ (vf:=v70) (by kernel_rfl) rfl (by simp) ?_
  by_cases h4:k<4
  ·have h4':(k:Int)<4:=by omega
   unfold v70
   by_cases h3:k<3
   ·have h3':(k:Int)<3:=by omega
    simp (disch:=first|omega|(simp;done)|(simp;omega)) [hc,hi,h3',h4',-getElem?_pos]
    exact ⟨_,J,by rw [intSz];omega,hJ,rfl⟩
   ·have h3':¬(k:Int)<3:=by omega
    simp (disch:=first|omega|(simp;done)|(simp;omega)) [hc,hi,h3',h4',-getElem?_pos]
    exact ⟨_,J,by rw [intSz];omega,hJ,rfl⟩
  ·have h3':¬(k:Int)<3:=by omega
   have h4':¬(k:Int)<4:=by omega
   by_cases hdata:ds≠[]∧k<6
   ·have hpos:0<ds.length:=List.length_pos_iff.2 hdata.1
    have hds1:=hds.1
    obtain ⟨m,J1,hm,hJ1,hc1⟩:=Zen (A:=A) L J ds.length hJ hL (by omega) (by omega)
    obtain ⟨dd,hdd⟩:=Zaa (l:=ds) (i:=m) (by omega)
    have hgood:=hds.2 dd (List.mem_of_getElem? hdd)
    have hm':(m:Int)<ds.length:=hm
    have fin:wp (K A) (.loop ZpN) (Zdd 1 (ZfD (K A) (.seq (.region [] [o 77 (.fld 1 (tv 10)),o 78 (.load false 1 (tv 77)),o 79 (.mv (tv 11)),oa 80 (.call (kf 100) [(false,(tv 78)),(false,(tv 79))] []) 4992,on (.store 5 (tv 8) (tv 80) [])] [] [8]) .ret)
     (Zdd 0 (ZfD (K A) (.seq (.region [] [o 81 (.mv (tv 0)),o 82 (.mv (tv 1)),o 83 (.mv (tv 2)),o 84 (.mv (tv 3)),o 85 (.bin .sub 0 (tv 84) (ki 1)),oa 86 (.call (kf 70) [(true,(tv 81)),(false,(tv 82)),(false,(tv 83)),(false,(tv 85))] []) 5440,oa 13 (.new [zi,zs,zi,zi,.nil] []) 5504,on (.store 5 (tv 13) (tv 86) [])] [] [0,1,2,3,8,13])
       (.seq (.region [] [o 87 (.load true 5 (tv 13)),o 88 (.mv (tv 0)),o 89 (.mv (tv 1)),o 90 (.mv (tv 2)),o 91 (.mv (tv 3)),o 92 (.bin .sub 0 (tv 91) (ki 1)),oa 93 (.call (kf 70) [(true,(tv 88)),(false,(tv 89)),(false,(tv 90)),(false,(tv 92))] []) 6016,oa 94 (.call (kf 128) [(false,(tv 87)),(false,(tv 93))] []) 6080,on (.store 5 (tv 8) (tv 94) [])] [(0,6)] [8]) .ret)) (Zfq false 1 [.cell 8 true 5] (TypeS L (5 ^ (d+1))))))))
     ⟨[(0,.sc (.ptr 0 0)),(1,ZaX ds),(2,.sc (.c (.sl []))),(3,intV (d+1)),(8,.sc (.ptr 64 0)),(10,.sc (.ptr 3392 0)),(11,.sc (.arr 3521 0)),(12,intV 0)],
       [(0,some (Zbo L J1)),(64,some (.box [zi,zs,zi,zi,.nil])),(3392,some (.box (wc (ZaM dd)))),(3521,some (.arr 5 [] 0))]⟩:=by
     refine Zam (TypeJ L ds [] dd d) dd.params.length ⟨[],J1,rfl,by simp,hJ1,by simp [hn]⟩ ?_ ?_
     ·rintro i s hi' ⟨tys,J2,ht,hts,hJ2,rfl⟩
      obtain ⟨r,⟨ty,J3,hty,hJ3,rfl⟩,hc2⟩:=ih J2 (by omega) hJ2
      have hip:=hgood.1
      unfold ZpN
      simp (disch:=first|omega|(simp;done)|(simp;omega)) [hi',hc2,ht,-getElem?_pos]
      refine ⟨tys++[ty],J3,by simp [ht],?_,hJ3,by simp⟩
      intro x hx
      rcases List.mem_append.1 hx with hx|hx
      ·exact hts x hx
      ·simp only [List.mem_singleton] at hx
       exact hx▸hty
     ·rintro s ⟨tys,J2,ht,hts,hJ2,rfl⟩
      have hip:=hgood.1
      have hcon:=Zr0 (A:=A) dd.name tys (by omega)
      unfold ZpN
      simp (disch:=first|omega|(simp;done)|(simp;omega)) [hcon,ht,-getElem?_pos]
      refine ⟨_,J2,?_,hJ2,rfl⟩
      have hs:=ZlE hts
      have hm4:tys.length*5 ^ d≤4*5 ^ d:=Nat.mul_le_mul_right _ (by omega)
      simp only [Ty.size,Ty.sizes_map]
      omega
    by_cases hk4:k=4
    ·unfold v70
     simp (disch:=first|omega|(simp;done)|(simp;omega)) [hc,hi,h3',h4',hd1,hk4,hdata.1,hpos,hc1,hdd,-getElem?_pos]
     exact fin
    ·have hk5:k=5:=by omega
     unfold v70
     simp (disch:=first|omega|(simp;done)|(simp;omega)) [hc,hi,h3',h4',hd1,hk5,hdata.1,hpos,hc1,hdd,-getElem?_pos]
     exact fin
   ·obtain ⟨r1,⟨t1,J1,ht1,hJ1,rfl⟩,hc1⟩:=ih J (by omega) hJ
    obtain ⟨r2,⟨t2,J2,ht2,hJ2,rfl⟩,hc2⟩:=ih J1 (by omega) hJ1
    have har:=Zsm (A:=A) t1 t2
    have hsz:(Ty.mk 4 [45,62] 0 0 [t1,t2]).size≤5 ^ (d+1):=by
     simp only [Ty.size,Ty.sizes]
     omega
    have hb4:¬((k:Int)=4∧0<ds.length):=by
     rintro ⟨h1,h2⟩
     exact hdata ⟨List.length_pos_iff.1 h2,by omega⟩
    have hb5:¬((k:Int)=5∧0<ds.length):=by
     rintro ⟨h1,h2⟩
     exact hdata ⟨List.length_pos_iff.1 h2,by omega⟩
    unfold v70
    by_cases hz:ds=[]
    ·subst hz
     have hz2:Zax []=[]:=rfl
     simp only [ZaX,hz2] at hc1 hc2
     by_cases hk4:(k:Int)=4
     ·simp (disch:=first|omega|(simp;done)|(simp;omega)) [hc,hi,h3',h4',hd1,hk4,hc1,hc2,har,-getElem?_pos]
      exact ⟨_,J2,hsz,hJ2,rfl⟩
     ·by_cases hk5:(k:Int)=5
      ·simp (disch:=first|omega|(simp;done)|(simp;omega)) [hc,hi,h3',h4',hd1,hk4,hk5,hc1,hc2,har,-getElem?_pos]
       exact ⟨_,J2,hsz,hJ2,rfl⟩
      ·simp (disch:=first|omega|(simp;done)|(simp;omega)) [hc,hi,h3',h4',hd1,hk4,hk5,hc1,hc2,har,-getElem?_pos]
       exact ⟨_,J2,hsz,hJ2,rfl⟩
    ·have hk4:¬(k:Int)=4:=fun h=>hdata ⟨hz,by omega⟩
     have hk5:¬(k:Int)=5:=fun h=>hdata ⟨hz,by omega⟩
     simp (disch:=first|omega|(simp;done)|(simp;omega)) [hc,hi,h3',h4',hd1,hk4,hk5,hc1,hc2,har,-getElem?_pos]
     exact ⟨_,J2,hsz,hJ2,rfl⟩
def wB (d:Nat):Nat:=32*8 ^ d
def RawQ (L:List Int)(ds:List DataD)(B:Nat)(r:V × List Obj):Prop:=∃ e J,rawE ds e∧e.weight≤B∧J≤L.length∧r=(expV e,[Zbo L J])
def ArmQ (L:List Int)(ds:List DataD)(dd:DataD)(x:Exp)(B d i:Nat)(s:St):Prop:=∃ arms J,arms.length=i∧J≤L.length∧(∀ a∈arms,armE ds a∧rawE ds a.2∧a.2.weight≤B) ∧
 s=⟨[(0,.sc (.ptr 0 0)),(1,ZaX ds),(2,intV (d+1)),(6,.sc (.ptr 64 0)),(13,.sc (.ptr 10176 0)),(14,.sc (.ptr 10752 0)),(15,intV i)],
  [(0,some (Zbo L J)),(64,some (.box [zi,zi,zs,zi,.nil,.nil,zi,zs,zi,zi,.nil])),(10176,some (.box (wc (ZaM dd)))),(10624,some (.arr 11 [wc x.row] 0)),
    (10752,some (.box [.c (.int .i64 8),zi,zs,zi,.arr 10624 1,.arr 10822 i,zi,zs,zi,zi,.nil])),(10822,some (.arr 14 (wr (Exp.armRows arms)) 0))]⟩
def VarQ (L:List Int)(ds:List DataD)(dd:DataD)(x:Exp)(arms:List (ArmH × Exp))(con:Str)(d i j:Nat)(s:St):Prop:=∃ vars J,vars.length=j∧(∀ v∈vars,v∈Za8)∧J≤L.length ∧
 s=⟨[(0,.sc (.ptr 0 0)),(1,ZaX ds),(2,intV (d+1)),(6,.sc (.ptr 64 0)),(13,.sc (.ptr 10176 0)),(14,.sc (.ptr 10752 0)),(15,intV i),(16,.sc (.ptr 11712 0)),(17,intV j)],
  [(0,some (Zbo L J)),(64,some (.box [zi,zi,zs,zi,.nil,.nil,zi,zs,zi,zi,.nil])),(10176,some (.box (wc (ZaM dd)))),(10624,some (.arr 11 [wc x.row] 0)),
    (10752,some (.box [.c (.int .i64 8),zi,zs,zi,.arr 10624 1,.arr 10822 i,zi,zs,zi,zi,.nil])),(10822,some (.arr 14 (wr (Exp.armRows arms)) 0)),
    (11712,some (.box [zi,.c (.str con),.arr 11779 j,zi,zi,zs,zi,.nil,.nil,zi,zs,zi,zi,.nil])),(11779,some (.arr 1 (wr (Zag vars)) 0))]⟩
def MadeQ (ds7:List DataD)(L:List Int)(r:V × List Obj):Prop:=∃ a b J ds,(∀ d∈ds,d∈ds7)∧ZhP ds∧rawE ds a∧a.weight≤wB 4∧rawE ds b∧b.weight≤wB 3∧J≤L.length∧r=(.tu [expV a,expV b,.sc (.ptr 0 0)],[Zbo L J])
variable {A:Zac}
theorem rawE1.shp1 {ds:List DataD}{e:Exp}(h:rawE1 ds e):shp1 e:=by
 refine ⟨h.wf1,?_,?_⟩
 ·intro hk
  exact ⟨h.2.2.2.2.1 (by omega),h.2.2.2.1 (by omega)⟩
 ·obtain ⟨_,_,_,_,_,h⟩:=h
  unfold Zjy
  rcases h with ⟨k,_,hk,ha⟩|⟨k,_,hk,ha⟩|⟨k,_,hk,ha⟩|⟨k,_,⟨x,hk⟩,ha⟩|⟨k,_,⟨x,y,hk⟩,ha⟩|⟨k,_,⟨x,y,hk⟩,ha⟩|⟨k,_,⟨x,hk⟩,ha⟩|⟨k,_,x,hk⟩
  ·rw [hk,if_neg (by omega),if_neg (by omega)];rfl
  ·rw [hk,if_neg (by omega),if_neg (by omega)];rfl
  ·rw [hk,if_neg (by omega),if_neg (by omega)];rfl
  ·rw [hk,if_neg (by omega),if_pos (by omega)];rfl
  ·rw [hk,if_pos (by omega)];rfl
  ·rw [hk,if_pos (by omega)];rfl
  ·rw [hk,if_neg (by omega),if_pos (by omega)];rfl
  ·rw [hk,if_neg (by omega),if_pos (by omega)];rfl
theorem rawE.shp {ds:List DataD}{e:Exp}:rawE ds e→shp e:=by
 induction e using Exp.ind with
 | h e ih =>
  intro h
  rw [ZfR]
  exact ⟨h.one.shp1,fun x hx=>ih x hx (h.child hx)⟩
theorem headEq.shp1 {e c:Exp}(h:headEq e c)(hk:e.kind≠1)(hs:shp1 e):shp1 c:=by
 obtain ⟨h1,h2,h3,h4,h5⟩:=h
 obtain ⟨⟨w1,w2,w3⟩,_,w5⟩:=hs
 refine ⟨⟨fun h8 => ?_,fun h8 => ?_,fun h8=>absurd (h1.trans h8) hk⟩,fun h8=>absurd (h1.trans h8) hk,?_⟩
 ·rw [←h4];exact w1 (h1.trans h8)
 ·have:=w2 (by rw [h1];exact h8)
  rw [this] at h5
  exact List.length_eq_zero_iff.1 h5.symm
 ·rw [←h4,w5,h1]
theorem IffB.get {P:Prop}{r:V × List Obj}(h:IffB P r)(hp:P):r=(Zah true,[]):=by
 obtain ⟨v,hv,rfl⟩:=h
 rw [hv.2 hp]
variable {A:Zac}
abbrev u64V (n:Nat):V:=.sc (.c (.int .u64 n))
def ZgZ (n:Nat):List Cell:=[.int .u64 n]
def Zbk (d:List Nat):List (List Cell):=d.map ZgZ
@[simp] theorem u64Row_len (n:Nat):(ZgZ n).length=1:=rfl
@[simp] theorem u64Rows_len (d:List Nat):(Zbk d).length=d.length:=by simp [Zbk]
@[simp] theorem u64Rows_get (d:List Nat) (i:Nat):(Zbk d)[i]?=(d[i]?).map ZgZ:=by simp [Zbk]
@[simp] theorem okRows_u64 (d:List Nat):Za0 1 (wr (Zbk d))=true:=ZbG d u64Row_len
@[simp] theorem wc_u64 (n:Nat):wc (ZgZ n)=[.c (.int .u64 n)]:=rfl
@[simp] theorem u64Rows_snoc (d:List Nat) (x:Nat):wr (Zbk d)++[[W.c (.int .u64 x)]]=wr (Zbk (d++[x])):=by simp [Zbk,wr,ZgZ]
@[simp] theorem u64_set (d:List Nat) (i x:Nat):setRow (wr (Zbk d)) i [W.c (.int .u64 x)]=wr (Zbk (d.set i x)):=by
 rw [setRow_set]
 simp [Zbk,wr,List.map_set,ZgZ]
abbrev arrU (d:List Nat):Obj:=.arr 1 (wr (Zbk d)) 0
def Zih (a b:Nat)(d:List Nat):Prop:=∀ (p q x y:Nat),a≤p→p<q→q<b→d[p]?=some x→d[q]?=some y→x≤y
def SortR (a b:Nat)(d e:List Nat):Prop:=e.Perm d∧(∀ k,k<a∨b≤k→e[k]?=d[k]?)∧Zih a b e
def butAt (a i j:Nat)(d:List Nat):Prop:=∀ (p q x y:Nat),a≤p→p<q→q≤i→q≠j→d[p]?=some x→d[q]?=some y→x≤y
theorem ZbB (a b:Nat):(K A).call 198 [u64V a,u64V b] []=some (Zah (decide (a<b)),[]):=by
 refine Zan (vf:=v198) (by kernel_rfl) rfl (by simp) ?_
 have h:∀ n:Nat,(K A).call 245 [u64V n] []=some (Zah false,[]):=fun n=>by
  refine Zan (vf:=v245) (by kernel_rfl) rfl (by simp) ?_
  unfold v245
  simp
 unfold v198
 simp [h]
def retV:V:=.tu []
def ZbF (d:List Nat):Nat→List Nat
 | 0=>[]
 | m+1=>match d[m]? with
  | none=>ZbF d m
  | some x=>if 0<m∧d[m-1]?=some x then ZbF d m else ZbF d m++[x]
theorem Zei {d:List Nat}{m x:Nat}(h:d[m]?=some x)(hn:¬(0<m∧d[m-1]?=some x)):ZbF d (m+1)=ZbF d m++[x]:=by
 simp only [ZbF,h,if_neg hn]
theorem Zed {d:List Nat}{m x:Nat}(h:d[m]?=some x)(hm:0<m)(hn:d[m-1]?=some x):ZbF d (m+1)=ZbF d m:=by
 simp only [ZbF,h,if_pos (⟨hm,hn⟩:0<m∧d[m-1]?=some x)]
theorem ZjK (d:List Nat):∀ m,(ZbF d m).length≤m
 | 0=>by simp [ZbF]
 | m+1=>by
  have:=ZjK d m
  simp only [ZbF]
  split
  ·omega
  ·split
   ·omega
   ·simp;omega
theorem ZgR {d:List Nat}{x:Nat}:∀ {m:Nat},x∈ZbF d m↔∃ k,k<m∧d[k]?=some x
 | 0=>by simp [ZbF]
 | m+1=>by
  have ih:=@ZgR d x m
  cases h:d[m]? with
  | none =>
   simp only [ZbF,h]
   rw [ih]
   constructor
   ·rintro ⟨k,hk,hx⟩
    exact ⟨k,by omega,hx⟩
   ·rintro ⟨k,hk,hx⟩
    refine ⟨k,?_,hx⟩
    rcases Nat.lt_or_ge k m with h1|h1
    ·exact h1
    ·have:k=m:=by omega
     rw [this,h] at hx
     cases hx
  | some y =>
   by_cases hn:0<m∧d[m-1]?=some y
   ·rw [Zed h hn.1 hn.2,ih]
    constructor
    ·rintro ⟨k,hk,hx⟩
     exact ⟨k,by omega,hx⟩
    ·rintro ⟨k,hk,hx⟩
     rcases Nat.lt_or_ge k m with h1|h1
     ·exact ⟨k,h1,hx⟩
     ·have:k=m:=by omega
      rw [this,h] at hx
      cases hx
      exact ⟨m-1,by omega,hn.2⟩
   ·rw [Zei h hn,List.mem_append,ih]
    simp only [List.mem_singleton]
    constructor
    ·rintro (⟨k,hk,hx⟩|rfl)
     ·exact ⟨k,by omega,hx⟩
     ·exact ⟨m,by omega,h⟩
    ·rintro ⟨k,hk,hx⟩
     rcases Nat.lt_or_ge k m with h1|h1
     ·exact .inl ⟨k,h1,hx⟩
     ·have:k=m:=by omega
      rw [this,h] at hx
      cases hx
      exact .inr rfl
def Zhv (l:List Nat):Prop:=∀ (p q x y:Nat),p<q→l[p]?=some x→l[q]?=some y→x<y
theorem Zke {l:List Nat}{x:Nat}(h:Zhv l)(hx:∀ y∈l,y<x):Zhv (l++[x]):=by
 intro p q u v hpq hu hv
 have hq:=(List.getElem?_eq_some_iff.1 hv).1
 simp only [List.length_append,List.length_singleton] at hq
 rw [List.getElem?_append_left (by omega)] at hu
 rcases Nat.lt_or_ge q l.length with h1|h1
 ·rw [List.getElem?_append_left h1] at hv
  exact h p q u v hpq hu hv
 ·rw [List.getElem?_append_right h1,show q-l.length=0 by omega] at hv
  cases hv
  exact hx u (List.mem_of_getElem? hu)
theorem ZfY {d:List Nat}(hs:Zih 0 d.length d):∀ m,Zhv (ZbF d m)
 | 0=>fun p q x y _ hx=>by simp [ZbF] at hx
 | m+1=>by
  have ih:=ZfY hs m
  cases h:d[m]? with
  | none=>simpa only [ZbF,h] using ih
  | some y =>
   by_cases hn:0<m∧d[m-1]?=some y
   ·rw [Zed h hn.1 hn.2]
    exact ih
   ·rw [Zei h hn]
    refine Zke ih fun u hu => ?_
    obtain ⟨k,hk,hx⟩:=ZgR.1 hu
    have hm:=(List.getElem?_eq_some_iff.1 h).1
    have h1:=hs k m u y (Nat.zero_le _) hk hm hx h
    rcases Nat.lt_or_eq_of_le h1 with h2|h2
    ·exact h2
    ·exfalso
     obtain ⟨z,hz⟩:=Zaa (l:=d) (i:=m-1) (by omega)
     have h3:z=y:=by
      have h4:=hs (m-1) m z y (Nat.zero_le _) (by omega) hm hz h
      rcases Nat.lt_or_ge k (m-1) with h5|h5
      ·have h6:=hs k (m-1) u z (Nat.zero_le _) h5 (by omega) hx hz
       omega
      ·have:k=m-1:=by omega
       rw [this,hz] at hx
       cases hx
       omega
     exact hn ⟨by omega,by rw [hz,h3]⟩
def bump (k i:Nat):Nat:=if i≤k then k+1 else k
def Zf4 (l:List Nat)(k:Nat):Nat:=(l.filter fun j=>decide (j<k)).length
theorem Zhy:∀ {l:List Nat}{k:Nat},l.Nodup→Zf4 l (k+1)=Zf4 l k+if k∈l then 1 else 0
 | [],k,_=>by simp [Zf4]
 | a::l,k,h=>by
  have ih:=@Zhy l k (List.nodup_cons.1 h).2
  have hn:=(List.nodup_cons.1 h).1
  unfold Zf4 at ih ⊢
  simp only [List.filter_cons]
  by_cases h1:a<k
  ·have h2:a<k+1:=by omega
   have h3:¬k=a:=by omega
   simp only [h1,h2,decide_true,if_true,List.length_cons,List.mem_cons,h3,false_or]
   omega
  ·by_cases h2:a=k
   ·subst h2
    have h3:a<a+1:=by omega
    simp only [h1,h3,decide_true,decide_false,if_true,List.length_cons,List.mem_cons,true_or,Bool.false_eq_true,if_false]
    rw [if_neg hn] at ih
    omega
   ·have h3:¬a<k+1:=by omega
    have h4:¬k=a:=fun h=>h2 h.symm
    simp only [h1,h3,decide_false,Bool.false_eq_true,if_false,List.mem_cons,h4,false_or]
    exact ih
theorem ZiT:∀ {l:List Nat},Zhv l→l.Nodup:=by
 intro l h
 rw [List.nodup_iff_pairwise_ne]
 rw [List.pairwise_iff_getElem]
 intro i j hi hj hij heq
 have:=h i j l[i] l[j] hij (List.getElem?_eq_getElem hi) (List.getElem?_eq_getElem hj)
 omega
theorem ZlT {l:List Nat}(hl:Zhv l)(n:Nat):∀ t,t≤l.length→(((l.take t).foldl bump (n+1))=n+1+Zf4 (l.take t) ((l.take t).foldl bump (n+1)))∧(l.take t).foldl bump (n+1)∉l.take t
 | 0,_=>by simp [Zf4]
 | t+1,ht=>by
  obtain ⟨h1,h2⟩:=ZlT hl n t (by omega)
  obtain ⟨c,hc⟩:=Zaa (l:=l) (i:=t) (by omega)
  rw [Zat hc,List.foldl_append,List.foldl_cons,List.foldl_nil]
  generalize hk:(l.take t).foldl bump (n+1)=k at h1 h2
  have hlt:∀ x∈l.take t,x<c:=by
   intro x hx
   obtain ⟨i,hi⟩:=List.mem_iff_getElem?.1 hx
   rw [List.getElem?_take] at hi
   split at hi
   ·rename_i hit
    exact hl i t x c hit hi hc
   ·cases hi
  unfold bump
  by_cases hck:c≤k
  ·rw [if_pos hck]
   constructor
   ·unfold Zf4 at h1 ⊢
    rw [List.filter_append,List.length_append]
    have e1:((l.take t).filter fun j=>decide (j<k+1))=(l.take t).filter fun j=>decide (j<k):=List.filter_congr fun x hx=>by
     have:=hlt x hx
     have h3:x≠k:=fun h=>h2 (h▸hx)
     simp only [decide_eq_decide]
     omega
    rw [e1]
    have e2:([c].filter fun j=>decide (j<k+1)).length=1:=by
     have:c<k+1:=by omega
     simp [this]
    omega
   ·simp only [List.mem_append,List.mem_singleton,not_or]
    refine ⟨fun h => ?_,by omega⟩
    have:=hlt _ h
    omega
  ·rw [if_neg hck]
   constructor
   ·unfold Zf4 at h1 ⊢
    rw [List.filter_append,List.length_append]
    have e2:([c].filter fun j=>decide (j<k)).length=0:=by
     have:¬c<k:=by omega
     simp [this]
    omega
   ·simp only [List.mem_append,List.mem_singleton,not_or]
    exact ⟨h2,by omega⟩
def ZdB (taken:List Str)(a b:Nat):Nat:=((List.range b).filter fun j=>decide (a≤j∧Za1 j∉taken)).length
theorem Zb9 (taken:List Str)(a b:Nat)(h:a≤b):ZdB taken a (b+1)=ZdB taken a b+if Za1 b∉taken then 1 else 0:=by
 unfold ZdB
 rw [List.range_succ,List.filter_append,List.length_append]
 congr 1
 by_cases hb:Za1 b∉taken
 ·simp [hb,h]
 ·simp [hb]
theorem Zec (taken:List Str)(a:Nat):ZdB taken a a=0:=by
 unfold ZdB
 rw [List.length_eq_zero_iff,List.filter_eq_nil_iff]
 intro x hx
 have:=List.mem_range.1 hx
 simp only [decide_eq_true_eq,not_and]
 omega
theorem Zer (taken:List Str)(a:Nat):∀ b,a<b→ZdB taken a b=(if Za1 a∉taken then 1 else 0)+ZdB taken (a+1) b
 | 0,h=>by omega
 | b+1,h=>by
  rcases Nat.lt_or_ge a b with h1|h1
  ·rw [Zb9 _ _ _ (by omega),Zb9 _ _ _ (by omega),Zer taken a b h1]
   omega
  ·have:a=b:=by omega
   subst this
   rw [Zb9 _ _ _ (Nat.le_refl _),Zec,Zec]
   omega
theorem ZcO (taken:List Str):∀ f k n,n+ZcP taken k<f→ZdB taken k (Zcu taken f k n)=n
 | 0,k,n,h=>by omega
 | f+1,k,n,h=>by
  simp only [Zcu]
  split
  ·rename_i hm
   have h1:=ZcO taken f (k+1) n (by have:=ZgY hm;omega)
   have h2:=Zcj taken f (k+1) n
   rw [Zer _ _ _ (by omega),h1,if_neg (by simpa using hm)]
   omega
  ·rename_i hm
   split
   ·rename_i h0
    rw [Zec,h0]
   ·have h1:=ZcO taken f (k+1) (n-1) (by have:=Zdw taken k;omega)
    have h2:=Zcj taken f (k+1) (n-1)
    rw [Zer _ _ _ (by omega),h1,if_pos hm]
    omega
theorem Zhx (taken:List Str)(a:Nat):∀ {b c},a≤b→b≤c→ZdB taken a b≤ZdB taken a c:=by
 intro b c hab hbc
 induction c with
 | zero =>
  have:b=0:=by omega
  rw [this]
  exact Nat.le_refl _
 | succ c ih =>
  rcases Nat.lt_or_ge b (c+1) with h|h
  ·rw [Zb9 _ _ _ (by omega)]
   have:=ih (by omega)
   omega
  ·have:b=c+1:=by omega
   rw [this]
   exact Nat.le_refl _
theorem ZfT {taken:List Str}{n k:Nat}(h1:1≤k)(hk:Za1 k∉taken)(hc:ZdB taken 1 k=n):ZaJ n taken=k:=by
 have hn:=Zbc n taken
 have hm:ZdB taken 1 (ZaJ n taken)=n:=ZcO taken _ _ _ (by have:=Ze3 taken 1;omega)
 have h2:1≤ZaJ n taken:=Zcj taken _ 1 n
 have hr:Za1 (ZaJ n taken)∉taken:=hn
 generalize ZaJ n taken=r at hr hm h2 ⊢
 rcases Nat.lt_trichotomy r k with h|h|h
 ·have h3:=Zhx taken 1 (b:=r+1) (c:=k) (by omega) (by omega)
  rw [Zb9 _ _ _ h2,if_pos hr] at h3
  omega
 ·exact h
 ·have h3:=Zhx taken 1 (b:=k+1) (c:=r) (by omega) (by omega)
  rw [Zb9 _ _ _ h1,if_pos hk] at h3
  omega
theorem Zly {e:Exp}{s:Str}:∀ n,s∈outP e n→n≤e.children.length→∃ (i:Nat)(x:Exp),e.children[i]?=some x∧s∈Zaf x∧s∉e.bound i
 | 0,h,_=>by simp [outP] at h
 | n+1,h,hn=>by
  obtain ⟨x,hx⟩:=Zaa (l:=e.children) (i:=n) (by omega)
  rw [ZgM hx,Zds] at h
  rcases h with h|h
  ·exact Zly n h (by omega)
  ·exact ⟨n,x,hx,h.1,h.2⟩
theorem Zbu {e:Exp}{s:Str}(hk:e.kind≠1):s∈Zaf e↔∃ (i:Nat)(x:Exp),e.children[i]?=some x∧s∈Zaf x∧s∉e.bound i:=by
 constructor
 ·intro h
  rw [Zb4,if_neg hk,←ZiQ] at h
  exact Zly _ h (Nat.le_refl _)
 ·rintro ⟨i,x,hx,hs,hb⟩
  exact (Zl7 hk hx hs).resolve_left hb
theorem Za6 {e:Exp}{s:Str}(hk:e.kind=1):s∈Zaf e↔s=e.name:=by rw [Zb4,if_pos hk,List.mem_singleton]
theorem Ze5 {e:Exp}(h:e.wf1)(hk:e.kind=1):e.kids=[]∧e.arms=[]∧e.children=[]:=by
 have h1:=h.2.2 hk
 have h2:=h.2.1 (by rw [hk];decide)
 exact ⟨h1,h2,by simp [Exp.children,h1,h2]⟩
theorem Zee {a b:Exp}(h:sameP a b)(i:Nat):a.bound i=b.bound i:=by
 rw [ZbH] at h
 obtain ⟨h1,h2,_,_,_,h6,h7,_⟩:=h
 rw [ZaD,ZaD,h1,h2]
 cases hp:a.arms[i-1]? with
 | none =>
  have:b.arms[i-1]?=none:=by rw [List.getElem?_eq_none_iff] at hp ⊢;omega
  rw [this]
 | some p =>
  obtain ⟨q,hq⟩:=Zaa (l:=b.arms) (i:=i-1) (by have:=(List.getElem?_eq_some_iff.1 hp).1;omega)
  rw [hq]
  simp only [Option.map_some,Option.getD_some,(h7 _ p q hp hq).2]
theorem ZhM (a:Exp):∀ b,sameP a b→sameP b a:=by
 induction a using Exp.ind with
 | h a ih =>
  intro b h
  rw [ZbH] at h ⊢
  obtain ⟨h1,h2,h3,h4,h5,h6,h7,h8⟩:=h
  exact ⟨h1.symm,h2.symm,h3.symm,h4.symm,h5.symm,h6.symm,fun i p q hp hq=>⟨(h7 i q p hq hp).1.symm,(h7 i q p hq hp).2.symm⟩,fun i x y hx hy=>ih y (List.mem_of_getElem? hy) x (h8 i y x hy hx)⟩
def nmN1 (e:Exp):Prop:=e.kind=1∨e.kind=2∨e.kind=4∨e.kind=6∨e.kind=7∨e.name=[]
def nmN (e:Exp):Prop:=e.fold fun e l=>nmN1 e∧∀ p∈l,p
theorem Znm (e:Exp):nmN e=(nmN1 e∧∀ x∈e.children,nmN x):=by
 have:=Exp.fold_eq (fun e (l:List Prop)=>nmN1 e∧∀ p∈l,p) e
 unfold nmN
 rw [this]
 simp only [List.forall_mem_map]
theorem nmN.one {e:Exp}(h:nmN e):nmN1 e:=by rw [Znm] at h;exact h.1
theorem nmN.child {e x:Exp}(h:nmN e)(hx:x∈e.children):nmN x:=by rw [Znm] at h;exact h.2 x hx
theorem rawE.nmN {ds:List DataD}{e:Exp}:rawE ds e→nmN e:=by
 induction e using Exp.ind with
 | h e ih =>
  intro h
  rw [Znm]
  refine ⟨?_,fun x hx=>ih x hx (h.child hx)⟩
  obtain ⟨_,_,_,_,_,h⟩:=h.one
  unfold nmN1
  rcases h with ⟨k,_⟩|⟨k,_⟩|⟨_,n,_⟩|⟨k,_⟩|⟨_,n,_⟩|⟨k,_⟩|⟨_,n,_⟩|⟨_,n,_⟩
  ·exact .inl k
  ·exact .inr (.inl k)
  ·exact .inr (.inr (.inr (.inr (.inr n))))
  ·exact .inr (.inr (.inl k))
  ·exact .inr (.inr (.inr (.inr (.inr n))))
  ·rcases k with k|k
   ·exact .inr (.inr (.inr (.inl k)))
   ·exact .inr (.inr (.inr (.inr (.inl k))))
  ·exact .inr (.inr (.inr (.inr (.inr n))))
  ·exact .inr (.inr (.inr (.inr (.inr n))))
abbrev Rep:=Str→Exp→Prop
def isVar (s:Str)(c:Exp):Prop:=c.kind=1∧c.name=s∧c.num=0∧c.ty=tz∧c.kids=[]∧c.arms=[]
def Rep.ext (V:Rep)(bs cs:List Str):Rep:=fun s c=>(s∈bs∧∃ t,t∈cs∧rlast bs s=rlast cs t∧isVar t c)∨(s∉bs∧V s c∧∀ u∈Zaf c,u∉cs)
def instF (a:Exp)(l:List (Exp→Rep→Prop))(c:Exp)(V:Rep):Prop :=
 (a.kind=1→V a.name c)∧(a.kind≠1→headEq a c∧(a.kind=2→a.name=c.name)∧Zg6 a c∧∀ (i:Nat) f y,l[i]?=some f→c.children[i]?=some y→f y (V.ext (a.bound i) (c.bound i)))
def instR (a:Exp):Exp→Rep→Prop:=a.fold instF
theorem Zgd (a c:Exp)(V:Rep):instR a c V=((a.kind=1→V a.name c)∧(a.kind≠1→headEq a c∧(a.kind=2→a.name=c.name)∧Zg6 a c ∧
 ∀ (i:Nat) x y,a.children[i]?=some x→c.children[i]?=some y→instR x y (V.ext (a.bound i) (c.bound i)))):=by
 unfold instR
 rw [Exp.fold_eq]
 unfold instF
 simp only [List.getElem?_map,Option.map_eq_some_iff]
 apply propext
 refine and_congr_right fun _=>forall_congr' fun _=>and_congr_right fun _=>and_congr_right fun _=>and_congr_right fun _=>forall_congr' fun i => ?_
 constructor
 ·exact fun h x y hx hy=>h _ y ⟨x,hx,rfl⟩ hy
 ·rintro h f y ⟨x,hx,rfl⟩ hy
  exact h x y hx hy
theorem instR.var {a c:Exp}{V:Rep}(h:instR a c V)(hk:a.kind=1):V a.name c:=by rw [Zgd] at h;exact h.1 hk
theorem instR.node {a c:Exp}{V:Rep}(h:instR a c V)(hk:a.kind≠1):headEq a c∧(a.kind=2→a.name=c.name)∧Zg6 a c ∧
 ∀ (i:Nat) x y,a.children[i]?=some x→c.children[i]?=some y→instR x y (V.ext (a.bound i) (c.bound i)):=by rw [Zgd] at h;exact h.2 hk
theorem instR.mkVar {a c:Exp}{V:Rep}(hk:a.kind=1)(h:V a.name c):instR a c V:=by rw [Zgd];exact ⟨fun _=>h,fun k=>absurd hk k⟩
theorem instR.mk {a c:Exp}{V:Rep}(hk:a.kind≠1)(h:headEq a c∧(a.kind=2→a.name=c.name)∧Zg6 a c ∧
 ∀ (i:Nat) x y,a.children[i]?=some x→c.children[i]?=some y→instR x y (V.ext (a.bound i) (c.bound i))):instR a c V:=by rw [Zgd];exact ⟨fun k=>absurd k hk,fun _=>h⟩
theorem isVar.free {s:Str}{c:Exp}(h:isVar s c):Zaf c=[s]:=by rw [Zb4,if_pos h.1,h.2.1]
theorem isVar.inst {s:Str}{c d:Exp}{V:Rep}(h:isVar s c):instR c d V↔V s d :=
 ⟨fun hi=>h.2.1▸hi.var h.1,fun hv=>.mkVar h.1 (h.2.1.symm▸hv)⟩
theorem instR.mono (a:Exp):∀ (c:Exp)(V W:Rep),instR a c V→(∀ s∈Zaf a,∀ d,V s d→W s d)→instR a c W:=by
 induction a using Exp.ind with
 | h a ih =>
  intro c V W h hm
  by_cases hk:a.kind=1
  ·exact .mkVar hk (hm _ ((Za6 hk).2 rfl) _ (h.var hk))
  ·obtain ⟨h1,h2,h3,h4⟩:=h.node hk
   refine .mk hk ⟨h1,h2,h3,fun i x y hx hy=>ih x (List.mem_of_getElem? hx) y _ _ (h4 i x y hx hy) fun s hs d hd => ?_⟩
   rcases hd with hd|⟨q1,q2,q3⟩
   ·exact .inl hd
   ·exact .inr ⟨q1,hm s ((Zbu hk).2 ⟨i,x,hx,hs,q1⟩) d q2,q3⟩
theorem instR.free_from (a:Exp):∀ (c:Exp)(V:Rep),shp1 a→(∀ x∈a.children,shp x)→instR a c V→∀ u∈Zaf c,∃ s∈Zaf a,∃ d,V s d∧u∈Zaf d:=by
 induction a using Exp.ind with
 | h a ih =>
  intro c V hs1 hs h u hu
  by_cases hk:a.kind=1
  ·exact ⟨a.name,(Za6 hk).2 rfl,c,h.var hk,hu⟩
  ·obtain ⟨h1,h2,h3,h4⟩:=h.node hk
   obtain ⟨i,y,hy,huy,hub⟩:=(Zbu (h1.1▸hk)).1 hu
   obtain ⟨x,hx⟩:=Zaa (l:=a.children) (i:=i) (by rw [h1.children];exact (List.getElem?_eq_some_iff.1 hy).1)
   have hmx:=List.mem_of_getElem? hx
   obtain ⟨s,hs',d,hd,hud⟩:=ih x hmx y _ (hs x hmx).one (fun z hz=>(hs x hmx).child hz) (h4 i x y hx hy) u huy
   rcases hd with ⟨_,t,ht,_,hv⟩|⟨q1,q2,_⟩
   ·rw [hv.free,List.mem_singleton] at hud
    exact absurd (hud▸ht) hub
   ·exact ⟨s,(Zbu hk).2 ⟨i,x,hx,hs',q1⟩,d,q2,hud⟩
theorem instR.free_to (a:Exp):∀ (c:Exp)(V:Rep),instR a c V→∀ s∈Zaf a,∃ d,V s d∧∀ u∈Zaf d,u∈Zaf c:=by
 induction a using Exp.ind with
 | h a ih =>
  intro c V h s hs
  by_cases hk:a.kind=1
  ·rw [Za6 hk] at hs
   subst hs
   exact ⟨c,h.var hk,fun u hu=>hu⟩
  ·obtain ⟨h1,h2,h3,h4⟩:=h.node hk
   obtain ⟨i,x,hx,hsx,hsb⟩:=(Zbu hk).1 hs
   obtain ⟨y,hy⟩:=Zaa (l:=c.children) (i:=i) (by rw [←h1.children];exact (List.getElem?_eq_some_iff.1 hx).1)
   obtain ⟨d,hd,hf⟩:=ih x (List.mem_of_getElem? hx) y _ (h4 i x y hx hy) s hsx
   rcases hd with ⟨q,_⟩|⟨_,q2,q3⟩
   ·exact absurd q hsb
   ·exact ⟨d,q2,fun u hu=>(Zbu (h1.1▸hk)).2 ⟨i,y,hy,hf u hu,q3 u hu⟩⟩
def Rep.comp (V W:Rep):Rep:=fun s d=>∃ c,V s c∧shp c∧instR c d W
theorem ZpM {V W:Rep}{bs cs ds:List Str}{s:Str}{c d:Exp}(h1:V.ext bs cs s c)(hc:shp c)(h2:instR c d (W.ext cs ds)):(V.comp W).ext bs ds s d:=by
 rcases h1 with ⟨hs,t,ht,hr,hv⟩|⟨hs,hv,hf⟩
 ·rw [hv.inst] at h2
  rcases h2 with ⟨_,u,hu,hru,hvu⟩|⟨q,_⟩
  ·exact .inl ⟨hs,u,hu,hr.trans hru,hvu⟩
  ·exact absurd ht q
 ·have hm:instR c d W:=h2.mono _ _ _ _ fun u hu e he=>by
   rcases he with ⟨q,_⟩|⟨_,q,_⟩
   ·exact absurd q (hf u hu)
   ·exact q
  refine .inr ⟨hs,⟨c,hv,hc,hm⟩,fun u hu hud => ?_⟩
  obtain ⟨t,ht,e,he,hue⟩:=instR.free_from c d _ hc.one (fun x hx=>hc.child hx) h2 u hu
  rcases he with ⟨q,_⟩|⟨_,_,q⟩
  ·exact hf t ht q
  ·exact q u hue hud
def Rep.ok (V:Rep):Prop:=∀ s c,V s c→shp c
theorem isVar.shp {s:Str}{c:Exp}(h:isVar s c):shp c:=by
 obtain ⟨k,_,n,t,ks,am⟩:=h
 rw [ZfR]
 refine ⟨⟨⟨fun h8=>by omega,fun _=>am,fun _=>ks⟩,fun _=>⟨n,t⟩,?_⟩,fun x hx => ?_⟩
 ·rw [ks,k]
  rfl
 ·simp [Exp.children,ks,am] at hx
theorem Rep.ok.ext {V:Rep}(h:V.ok)(bs cs:List Str):(V.ext bs cs).ok:=by
 rintro s c (⟨_,t,_,_,hv⟩|⟨_,hv,_⟩)
 ·exact hv.shp
 ·exact h s c hv
theorem instR.comp (a:Exp):∀ (c d:Exp)(V W:Rep),V.ok→instR a c V→instR c d W→instR a d (V.comp W):=by
 induction a using Exp.ind with
 | h a ih =>
  intro c d V W ho h h'
  by_cases hk:a.kind=1
  ·exact .mkVar hk ⟨c,h.var hk,ho _ _ (h.var hk),h'⟩
  ·obtain ⟨h1,h2,h3,h4⟩:=h.node hk
   have hkc:c.kind≠1:=h1.1▸hk
   obtain ⟨g1,g2,g3,g4⟩:=h'.node hkc
   refine .mk hk ⟨⟨h1.1.trans g1.1,h1.2.1.trans g1.2.1,h1.2.2.1.trans g1.2.2.1,h1.2.2.2.1.trans g1.2.2.2.1,h1.2.2.2.2.trans g1.2.2.2.2⟩,fun k=>(h2 k).trans (g2 (h1.1▸k)),fun i p q hp hq => ?_,fun i x z hx hz => ?_⟩
   ·obtain ⟨u,hu⟩:=Zaa (l:=c.arms) (i:=i) (by have:=h1.2.2.2.2;have:=(List.getElem?_eq_some_iff.1 hp).1;omega)
    exact ⟨(h3 i p u hp hu).1.trans (g3 i u q hu hq).1,(h3 i p u hp hu).2.trans (g3 i u q hu hq).2⟩
   ·obtain ⟨y,hy⟩:=Zaa (l:=c.children) (i:=i) (by rw [←h1.children];exact (List.getElem?_eq_some_iff.1 hx).1)
    refine (ih x (List.mem_of_getElem? hx) y z _ _ (ho.ext _ _) (h4 i x y hx hy) (g4 i y z hy hz)).mono _ _ _ _ fun s _ e he => ?_
    obtain ⟨b,hb,hsb,hbe⟩:=he
    exact ZpM hb hsb hbe
def ofR (R:Str→Str→Prop):Rep:=fun s c=>∃ t,R s t∧isVar t c
def idV:Rep:=ofR fun s t=>s=t
theorem instR.refl (a:Exp):∀ V:Rep,shp a→(∀ s∈Zaf a,∀ c,isVar s c→V s c)→instR a a V:=by
 induction a using Exp.ind with
 | h a ih =>
  intro V hs h
  by_cases hk:a.kind=1
  ·obtain ⟨a1,a2,a3⟩:=Ze5 hs.one.1 hk
   obtain ⟨n,t⟩:=hs.one.2.1 hk
   exact .mkVar hk (h a.name ((Za6 hk).2 rfl) a ⟨hk,rfl,n,t,a1,a2⟩)
  ·refine .mk hk ⟨⟨rfl,rfl,rfl,rfl,rfl⟩,fun _=>rfl,fun i p q hp hq => ?_,fun i x y hx hy => ?_⟩
   ·rw [hp] at hq
    cases hq
    exact ⟨rfl,rfl⟩
   ·rw [hx] at hy
    cases hy
    refine ih x (List.mem_of_getElem? hx) _ (hs.child (List.mem_of_getElem? hx)) fun s hsx c hc => ?_
    by_cases hb:s∈a.bound i
    ·exact .inl ⟨hb,s,hb,rfl,hc⟩
    ·refine .inr ⟨hb,h s ((Zbu hk).2 ⟨i,x,hx,hsx,hb⟩) c hc,fun u hu => ?_⟩
     rw [hc.free,List.mem_singleton] at hu
     subst hu
     exact hb
variable {A:Zac}
end Go.Vs.Tryz
