/- Types made on tapes, walked: their sizes, and that no variable stands in them. (Parts of one proof, put together.) -/
import Derived.Test.YtccmnfpbcmccpaaGreatDoorR9c
set_option linter.unusedSimpArgs false
set_option linter.unusedVariables false
set_option linter.deprecated false
set_option maxHeartbeats 32000000
namespace Go.Vs.Tryz
open Go Go.Vs
variable {A:Zac}
def tyG (t:Ty):Prop:=tyS 0 t∧rigB t
theorem Zo6 {s:Str}{l:List Ty}(h:∀ x∈l,rigB x):rigB (.mk 4 s 0 0 l):=Ty.all_iff.2 ⟨fun hk=>absurd (show (4:Int)=3 from hk.1) (by decide),h⟩
theorem ZfA {s:Str}{l:List Ty}(hs:ZeS s l.length)(h:∀ x∈l,tyG x):tyG (.mk 4 s 0 0 l):=⟨ZgQ hs fun x hx=>(h x hx).1,Zo6 fun x hx=>(h x hx).2⟩
theorem Zjd:tyG (.mk 4 [73,110,116] 0 0 []):=ZfA (.inr (.inl ⟨rfl,rfl⟩)) fun x hx=>by cases hx
def Zg9 (L:List Int)(m:Nat)(r:V × List Obj):Prop:=∃ t J,tyG t∧t.size≤m∧J≤L.length∧r=(tyV t,[Zan L J])
def TypeK (L:List Int)(ds:List DataD)(ls:List Ty)(dd:DataD)(d i:Nat)(s:St):Prop:=∃ tys J,tys.length=i∧(∀ x∈tys,tyG x∧x.size≤5 ^ d)∧J≤L.length ∧
 s=⟨[(0,.sc (.ptr 0 0)),(1,Zal ds),(2,tysV ls),(3,intV (d+1)),(8,.sc (.ptr 64 0)),(10,.sc (.ptr 3392 0)),(11,.sc (.arr 3521 i)),(12,intV i)],
  [(0,some (Zan L J)),(64,some (.box [zi,zs,zi,zi,.nil])),(3392,some (.box (wc (Zau dd)))),(3521,some (.arr 5 (wr (Ty.rows tys)) 0))]⟩
theorem Znc (L:List Int)(ds:List DataD)(ls:List Ty)(hL:L.length≤1073741824)(hds:fitDs ds)(hls:0<ls.length)(hls2:ls.length≤100)(hls3:∀ x∈ls,tyG x∧x.size=1):∀ (d I:Nat),d≤100→I≤L.length →
 ∃ r,Zg9 L (5 ^ d) r∧(K A).call 45 [.sc (.ptr 0 0),Zal ds,tysV ls,intV d] [Zan L I]=some r:=by
 intro d
 have leafCase:∀ (d I k J:Nat),k<3→J≤L.length→(K A).call 62 [.sc (.ptr 0 0),intV 7] [Zan L I]=some (intV k,[Zan L J]) →
  ∃ r,Zg9 L (5 ^ d) r∧(K A).call 45 [.sc (.ptr 0 0),Zal ds,tysV ls,intV d] [Zan L I]=some r:=by
  intro d I k J h3 hJ hc
  obtain ⟨m,J1,hm,hJ1,hc1⟩:=ZaL (A:=A) L J ls.length hJ hL (by omega) (by omega)
  obtain ⟨x,hx⟩:=Zaa (l:=ls) (i:=m) (by omega)
  have hm':(m:Int)<ls.length:=hm
  have h3':(k:Int)<3:=by omega
  refine Zap _ (vf:=v45) (by kernel_rfl) rfl (by simp) ?_
  unfold v45
  simp (disch:=first|omega|(simp;done)|(simp;omega)) [hc,h3',hls,hc1,hx,-getElem?_pos]
  exact ⟨x,J1,(hls3 x (List.mem_of_getElem? hx)).1,by rw [(hls3 x (List.mem_of_getElem? hx)).2];exact Nat.pos_of_ne_zero (by simp),hJ1,rfl⟩
 have intSz:(Ty.mk 4 [73,110,116] 0 0 []).size=1:=Ty.size_leaf
 induction d with
 | zero =>
  intro I _ hI
  obtain ⟨k,J,hk,hJ,hc⟩:=ZaL (A:=A) L I 7 hI hL (by omega) (by omega)
  by_cases h3:k<3
  ·exact leafCase 0 I k J h3 hJ hc
  ·refine Zap _ (vf:=v45) (by kernel_rfl) rfl (by simp) ?_
   have hi:=Zf2 (A:=A)
   unfold v45
   have h3':¬(k:Int)<3:=by omega
   by_cases h4:k<4
   ·have h4':(k:Int)<4:=by omega
    simp (disch:=first|omega|(simp;done)|(simp;omega)) [hc,hi,h3',h4',-getElem?_pos]
    exact ⟨_,J,Zjd,by rw [intSz];exact Nat.le_refl _,hJ,rfl⟩
   ·have h4':¬(k:Int)<4:=by omega
    simp (disch:=first|omega|(simp;done)|(simp;omega)) [hc,hi,h3',h4',-getElem?_pos]
    exact ⟨_,J,Zjd,by rw [intSz];exact Nat.le_refl _,hJ,rfl⟩
 | succ d ih =>
  intro I hd hI
  obtain ⟨k,J,hk,hJ,hc⟩:=ZaL (A:=A) L I 7 hI hL (by omega) (by omega)
  by_cases h3:k<3
  ·exact leafCase (d+1) I k J h3 hJ hc
  have hi:=Zf2 (A:=A)
  have hd1:¬(d:Int)+1<1:=by omega
  have hp:1≤5 ^ d:=Nat.pos_of_ne_zero (by simp)
  have hp1:5 ^ (d+1)=5*5 ^ d:=by rw [Nat.pow_succ];omega
  have h3':¬(k:Int)<3:=by omega
  refine Zap _ (vf:=v45) (by kernel_rfl) rfl (by simp) ?_
  by_cases h4:k<4
  ·have h4':(k:Int)<4:=by omega
   unfold v45
   simp (disch:=first|omega|(simp;done)|(simp;omega)) [hc,hi,h3',h4',-getElem?_pos]
   exact ⟨_,J,Zjd,by rw [intSz];omega,hJ,rfl⟩
  ·have h4':¬(k:Int)<4:=by omega
   by_cases hdata:ds≠[]∧k<6
   ·have hpos:0<ds.length:=List.length_pos_iff.2 hdata.1
    have hds1:=hds.1
    obtain ⟨m,J1,hm,hJ1,hc1⟩:=ZaL (A:=A) L J ds.length hJ hL (by omega) (by omega)
    obtain ⟨dd,hdd⟩:=Zaa (l:=ds) (i:=m) (by omega)
    have hfit:=hds.2 dd (List.mem_of_getElem? hdd)
    have hgood:=hfit.1
    have hm':(m:Int)<ds.length:=hm
    have fin:wp (K A) (.loop Zf5) (Zby 1 (Zcv (K A) (.seq (.region [] [o 77 (.fld 1 (tv 10)),o 78 (.load false 1 (tv 77)),o 79 (.mv (tv 11)),oa 80 (.call (kf 90) [(false,(tv 78)),(false,(tv 79))] []) 4992,on (.store 5 (tv 8) (tv 80) [])] [] [8]) .ret)
     (Zby 0 (Zcv (K A) (.seq (.region [] [o 81 (.mv (tv 0)),o 82 (.mv (tv 1)),o 83 (.mv (tv 2)),o 84 (.mv (tv 3)),o 85 (.bin .sub 0 (tv 84) (ki 1)),oa 86 (.call (kf 45) [(true,(tv 81)),(false,(tv 82)),(false,(tv 83)),(false,(tv 85))] []) 5440,oa 13 (.new [zi,zs,zi,zi,.nil] []) 5504,on (.store 5 (tv 13) (tv 86) [])] [] [0,1,2,3,8,13])
       (.seq (.region [] [o 87 (.load true 5 (tv 13)),o 88 (.mv (tv 0)),o 89 (.mv (tv 1)),o 90 (.mv (tv 2)),o 91 (.mv (tv 3)),o 92 (.bin .sub 0 (tv 91) (ki 1)),oa 93 (.call (kf 45) [(true,(tv 88)),(false,(tv 89)),(false,(tv 90)),(false,(tv 92))] []) 6016,oa 94 (.call (kf 85) [(false,(tv 87)),(false,(tv 93))] []) 6080,on (.store 5 (tv 8) (tv 94) [])] [(0,6)] [8]) .ret)) (Zdy false 1 [.cell 8 true 5] (Zg9 L (5 ^ (d+1))))))))
     ⟨[(0,.sc (.ptr 0 0)),(1,Zal ds),(2,tysV ls),(3,intV (d+1)),(8,.sc (.ptr 64 0)),(10,.sc (.ptr 3392 0)),(11,.sc (.arr 3521 0)),(12,intV 0)],
       [(0,some (Zan L J1)),(64,some (.box [zi,zs,zi,zi,.nil])),(3392,some (.box (wc (Zau dd)))),(3521,some (.arr 5 [] 0))]⟩:=by
     refine Zaf (TypeK L ds ls dd d) dd.params.length ⟨[],J1,rfl,by simp,hJ1,by simp⟩ ?_ ?_
     ·rintro i s hi' ⟨tys,J2,ht,hts,hJ2,rfl⟩
      obtain ⟨r,⟨ty,J3,hGt,hty,hJ3,rfl⟩,hc2⟩:=ih J2 (by omega) hJ2
      have hip:=hgood.1
      unfold Zf5
      simp (disch:=first|omega|(simp;done)|(simp;omega)) [hi',hc2,ht,-getElem?_pos]
      refine ⟨tys++[ty],J3,by simp [ht],?_,hJ3,by simp⟩
      intro x hx
      rcases List.mem_append.1 hx with hx|hx
      ·exact hts x hx
      ·simp only [List.mem_singleton] at hx
       exact hx▸⟨hGt,hty⟩
     ·rintro s ⟨tys,J2,ht,hts,hJ2,rfl⟩
      have hip:=hgood.1
      have hcon:=ZiP (A:=A) dd.name tys (by omega)
      unfold Zf5
      simp (disch:=first|omega|(simp;done)|(simp;omega)) [hcon,ht,-getElem?_pos]
      refine ⟨_,J2,ZfA (by rw [ht];exact hfit.2.2.1) fun x hx=>(hts x hx).1,?_,hJ2,rfl⟩
      have hs:=ZcZ fun x hx=>(hts x hx).2
      have hm4:tys.length*5 ^ d≤4*5 ^ d:=Nat.mul_le_mul_right _ (by omega)
      simp only [Ty.size,Ty.sizes_map]
      omega
    by_cases hk4:k=4
    ·unfold v45
     simp (disch:=first|omega|(simp;done)|(simp;omega)) [hc,hi,h3',h4',hd1,hk4,hdata.1,hpos,hc1,hdd,-getElem?_pos]
     exact fin
    ·have hk5:k=5:=by omega
     unfold v45
     simp (disch:=first|omega|(simp;done)|(simp;omega)) [hc,hi,h3',h4',hd1,hk5,hdata.1,hpos,hc1,hdd,-getElem?_pos]
     exact fin
   ·obtain ⟨r1,⟨t1,J1,hG1,ht1,hJ1,rfl⟩,hc1⟩:=ih J (by omega) hJ
    obtain ⟨r2,⟨t2,J2,hG2,ht2,hJ2,rfl⟩,hc2⟩:=ih J1 (by omega) hJ1
    have har:=Zep (A:=A) t1 t2
    have hGa:tyG (.mk 4 [45,62] 0 0 [t1,t2]):=ZfA Zcq fun x hx=>by
     simp only [List.mem_cons,List.not_mem_nil,or_false] at hx
     rcases hx with rfl|rfl
     ·exact hG1
     ·exact hG2
    have hsz:(Ty.mk 4 [45,62] 0 0 [t1,t2]).size≤5 ^ (d+1):=by
     simp only [Ty.size,Ty.sizes]
     omega
    have hb4:¬((k:Int)=4∧0<ds.length):=by
     rintro ⟨h1,h2⟩
     exact hdata ⟨List.length_pos_iff.1 h2,by omega⟩
    have hb5:¬((k:Int)=5∧0<ds.length):=by
     rintro ⟨h1,h2⟩
     exact hdata ⟨List.length_pos_iff.1 h2,by omega⟩
    unfold v45
    by_cases hz:ds=[]
    ·subst hz
     simp only [Zal,dataRows0] at hc1 hc2
     by_cases hk4:(k:Int)=4
     ·simp (disch:=first|omega|(simp;done)|(simp;omega)) [hc,hi,h3',h4',hd1,hk4,hc1,hc2,har,-getElem?_pos]
      exact ⟨_,J2,hGa,hsz,hJ2,rfl⟩
     ·by_cases hk5:(k:Int)=5
      ·simp (disch:=first|omega|(simp;done)|(simp;omega)) [hc,hi,h3',h4',hd1,hk4,hk5,hc1,hc2,har,-getElem?_pos]
       exact ⟨_,J2,hGa,hsz,hJ2,rfl⟩
      ·simp (disch:=first|omega|(simp;done)|(simp;omega)) [hc,hi,h3',h4',hd1,hk4,hk5,hc1,hc2,har,-getElem?_pos]
       exact ⟨_,J2,hGa,hsz,hJ2,rfl⟩
    ·have hk4:¬(k:Int)=4:=fun h=>hdata ⟨hz,by omega⟩
     have hk5:¬(k:Int)=5:=fun h=>hdata ⟨hz,by omega⟩
     simp (disch:=first|omega|(simp;done)|(simp;omega)) [hc,hi,h3',h4',hd1,hk4,hk5,hc1,hc2,har,-getElem?_pos]
     exact ⟨_,J2,hGa,hsz,hJ2,rfl⟩
def tyW (t:Ty):Prop:=tyG t∧Ty.all (fun u=>u.kind≠3) t
theorem Zjc {s:Str}{l:List Ty}(hs:ZeS s l.length)(h:∀ x∈l,tyW x):tyW (.mk 4 s 0 0 l):=⟨ZfA hs fun x hx=>(h x hx).1,Ty.all_iff.2 ⟨by show (4:Int)≠3;decide,fun x hx=>(h x hx).2⟩⟩
theorem Zfd:tyW (.mk 4 [73,110,116] 0 0 []):=Zjc (.inr (.inl ⟨rfl,rfl⟩)) fun x hx=>by cases hx
def TypeW (L:List Int)(m:Nat)(r:V × List Obj):Prop:=∃ t J,tyW t∧t.size≤m∧J≤L.length∧r=(tyV t,[Zan L J])
def TypeKW (L:List Int)(ds:List DataD)(dd:DataD)(d i:Nat)(s:St):Prop:=∃ tys J,tys.length=i∧(∀ x∈tys,tyW x∧x.size≤5 ^ d)∧J≤L.length ∧
 s=⟨[(0,.sc (.ptr 0 0)),(1,Zal ds),(2,.sc (.c (.sl []))),(3,intV (d+1)),(8,.sc (.ptr 64 0)),(10,.sc (.ptr 3392 0)),(11,.sc (.arr 3521 i)),(12,intV i)],
  [(0,some (Zan L J)),(64,some (.box [zi,zs,zi,zi,.nil])),(3392,some (.box (wc (Zau dd)))),(3521,some (.arr 5 (wr (Ty.rows tys)) 0))]⟩
theorem Zqx (L:List Int)(ds:List DataD)(hL:L.length≤1073741824)(hds:fitDs ds):∀ (d I:Nat),d≤100→I≤L.length →
 ∃ r,TypeW L (5 ^ d) r∧(K A).call 45 [.sc (.ptr 0 0),Zal ds,.sc (.c (.sl [])),intV d] [Zan L I]=some r:=by
 intro d
 have intSz:(Ty.mk 4 [73,110,116] 0 0 []).size=1:=Ty.size_leaf
 induction d with
 | zero =>
  intro I _ hI
  obtain ⟨k,J,hk,hJ,hc⟩:=ZaL (A:=A) L I 7 hI hL (by omega) (by omega)
  refine Zap _ (vf:=v45) (by kernel_rfl) rfl (by simp) ?_
  have hi:=Zf2 (A:=A)
  unfold v45
  by_cases h3:k<3
  ·have h3':(k:Int)<3:=by omega
   have h4':(k:Int)<4:=by omega
   simp (disch:=first|omega|(simp;done)|(simp;omega)) [hc,hi,h3',h4',-getElem?_pos]
   exact ⟨_,J,Zfd,by rw [intSz];omega,hJ,rfl⟩
  ·have h3':¬(k:Int)<3:=by omega
   by_cases h4:k<4
   ·have h4':(k:Int)<4:=by omega
    simp (disch:=first|omega|(simp;done)|(simp;omega)) [hc,hi,h3',h4',-getElem?_pos]
    exact ⟨_,J,Zfd,by rw [intSz];omega,hJ,rfl⟩
   ·have h4':¬(k:Int)<4:=by omega
    simp (disch:=first|omega|(simp;done)|(simp;omega)) [hc,hi,h3',h4',-getElem?_pos]
    exact ⟨_,J,Zfd,by rw [intSz];omega,hJ,rfl⟩
 | succ d ih =>
  intro I hd hI
  obtain ⟨k,J,hk,hJ,hc⟩:=ZaL (A:=A) L I 7 hI hL (by omega) (by omega)
  have hi:=Zf2 (A:=A)
  have hn:Ty.rows []=[]:=by rw [Ty.rows]
  have hd1:¬(d:Int)+1<1:=by omega
  have hp:1≤5 ^ d:=Nat.pos_of_ne_zero (by simp)
  have hp1:5 ^ (d+1)=5*5 ^ d:=by rw [Nat.pow_succ];omega
  refine Zap _ (vf:=v45) (by kernel_rfl) rfl (by simp) ?_
  by_cases h4:k<4
  ·have h4':(k:Int)<4:=by omega
   unfold v45
   by_cases h3:k<3
   ·have h3':(k:Int)<3:=by omega
    simp (disch:=first|omega|(simp;done)|(simp;omega)) [hc,hi,h3',h4',-getElem?_pos]
    exact ⟨_,J,Zfd,by rw [intSz];omega,hJ,rfl⟩
   ·have h3':¬(k:Int)<3:=by omega
    simp (disch:=first|omega|(simp;done)|(simp;omega)) [hc,hi,h3',h4',-getElem?_pos]
    exact ⟨_,J,Zfd,by rw [intSz];omega,hJ,rfl⟩
  ·have h3':¬(k:Int)<3:=by omega
   have h4':¬(k:Int)<4:=by omega
   by_cases hdata:ds≠[]∧k<6
   ·have hpos:0<ds.length:=List.length_pos_iff.2 hdata.1
    have hds1:=hds.1
    obtain ⟨m,J1,hm,hJ1,hc1⟩:=ZaL (A:=A) L J ds.length hJ hL (by omega) (by omega)
    obtain ⟨dd,hdd⟩:=Zaa (l:=ds) (i:=m) (by omega)
    have hfit:=hds.2 dd (List.mem_of_getElem? hdd)
    have hgood:=hfit.1
    have hm':(m:Int)<ds.length:=hm
    have fin:wp (K A) (.loop Zf5) (Zby 1 (Zcv (K A) (.seq (.region [] [o 77 (.fld 1 (tv 10)),o 78 (.load false 1 (tv 77)),o 79 (.mv (tv 11)),oa 80 (.call (kf 90) [(false,(tv 78)),(false,(tv 79))] []) 4992,on (.store 5 (tv 8) (tv 80) [])] [] [8]) .ret)
     (Zby 0 (Zcv (K A) (.seq (.region [] [o 81 (.mv (tv 0)),o 82 (.mv (tv 1)),o 83 (.mv (tv 2)),o 84 (.mv (tv 3)),o 85 (.bin .sub 0 (tv 84) (ki 1)),oa 86 (.call (kf 45) [(true,(tv 81)),(false,(tv 82)),(false,(tv 83)),(false,(tv 85))] []) 5440,oa 13 (.new [zi,zs,zi,zi,.nil] []) 5504,on (.store 5 (tv 13) (tv 86) [])] [] [0,1,2,3,8,13])
       (.seq (.region [] [o 87 (.load true 5 (tv 13)),o 88 (.mv (tv 0)),o 89 (.mv (tv 1)),o 90 (.mv (tv 2)),o 91 (.mv (tv 3)),o 92 (.bin .sub 0 (tv 91) (ki 1)),oa 93 (.call (kf 45) [(true,(tv 88)),(false,(tv 89)),(false,(tv 90)),(false,(tv 92))] []) 6016,oa 94 (.call (kf 85) [(false,(tv 87)),(false,(tv 93))] []) 6080,on (.store 5 (tv 8) (tv 94) [])] [(0,6)] [8]) .ret)) (Zdy false 1 [.cell 8 true 5] (TypeW L (5 ^ (d+1))))))))
     ⟨[(0,.sc (.ptr 0 0)),(1,Zal ds),(2,.sc (.c (.sl []))),(3,intV (d+1)),(8,.sc (.ptr 64 0)),(10,.sc (.ptr 3392 0)),(11,.sc (.arr 3521 0)),(12,intV 0)],
       [(0,some (Zan L J1)),(64,some (.box [zi,zs,zi,zi,.nil])),(3392,some (.box (wc (Zau dd)))),(3521,some (.arr 5 [] 0))]⟩:=by
     refine Zaf (TypeKW L ds dd d) dd.params.length ⟨[],J1,rfl,by simp,hJ1,by simp [hn]⟩ ?_ ?_
     ·rintro i s hi' ⟨tys,J2,ht,hts,hJ2,rfl⟩
      obtain ⟨r,⟨ty,J3,hGt,hty,hJ3,rfl⟩,hc2⟩:=ih J2 (by omega) hJ2
      have hip:=hgood.1
      unfold Zf5
      simp (disch:=first|omega|(simp;done)|(simp;omega)) [hi',hc2,ht,-getElem?_pos]
      refine ⟨tys++[ty],J3,by simp [ht],?_,hJ3,by simp⟩
      intro x hx
      rcases List.mem_append.1 hx with hx|hx
      ·exact hts x hx
      ·simp only [List.mem_singleton] at hx
       exact hx▸⟨hGt,hty⟩
     ·rintro s ⟨tys,J2,ht,hts,hJ2,rfl⟩
      have hip:=hgood.1
      have hcon:=ZiP (A:=A) dd.name tys (by omega)
      unfold Zf5
      simp (disch:=first|omega|(simp;done)|(simp;omega)) [hcon,ht,-getElem?_pos]
      refine ⟨_,J2,Zjc (by rw [ht];exact hfit.2.2.1) fun x hx=>(hts x hx).1,?_,hJ2,rfl⟩
      have hs:=ZcZ fun x hx=>(hts x hx).2
      have hm4:tys.length*5 ^ d≤4*5 ^ d:=Nat.mul_le_mul_right _ (by omega)
      simp only [Ty.size,Ty.sizes_map]
      omega
    by_cases hk4:k=4
    ·unfold v45
     simp (disch:=first|omega|(simp;done)|(simp;omega)) [hc,hi,h3',h4',hd1,hk4,hdata.1,hpos,hc1,hdd,-getElem?_pos]
     exact fin
    ·have hk5:k=5:=by omega
     unfold v45
     simp (disch:=first|omega|(simp;done)|(simp;omega)) [hc,hi,h3',h4',hd1,hk5,hdata.1,hpos,hc1,hdd,-getElem?_pos]
     exact fin
   ·obtain ⟨r1,⟨t1,J1,hG1,ht1,hJ1,rfl⟩,hc1⟩:=ih J (by omega) hJ
    obtain ⟨r2,⟨t2,J2,hG2,ht2,hJ2,rfl⟩,hc2⟩:=ih J1 (by omega) hJ1
    have har:=Zep (A:=A) t1 t2
    have hGa:tyW (.mk 4 [45,62] 0 0 [t1,t2]):=Zjc Zcq fun x hx=>by
     simp only [List.mem_cons,List.not_mem_nil,or_false] at hx
     rcases hx with rfl|rfl
     ·exact hG1
     ·exact hG2
    have hsz:(Ty.mk 4 [45,62] 0 0 [t1,t2]).size≤5 ^ (d+1):=by
     simp only [Ty.size,Ty.sizes]
     omega
    have hb4:¬((k:Int)=4∧0<ds.length):=by
     rintro ⟨h1,h2⟩
     exact hdata ⟨List.length_pos_iff.1 h2,by omega⟩
    have hb5:¬((k:Int)=5∧0<ds.length):=by
     rintro ⟨h1,h2⟩
     exact hdata ⟨List.length_pos_iff.1 h2,by omega⟩
    unfold v45
    by_cases hz:ds=[]
    ·subst hz
     have hz2:Zah []=[]:=rfl
     simp only [Zal,hz2] at hc1 hc2
     by_cases hk4:(k:Int)=4
     ·simp (disch:=first|omega|(simp;done)|(simp;omega)) [hc,hi,h3',h4',hd1,hk4,hc1,hc2,har,-getElem?_pos]
      exact ⟨_,J2,hGa,hsz,hJ2,rfl⟩
     ·by_cases hk5:(k:Int)=5
      ·simp (disch:=first|omega|(simp;done)|(simp;omega)) [hc,hi,h3',h4',hd1,hk4,hk5,hc1,hc2,har,-getElem?_pos]
       exact ⟨_,J2,hGa,hsz,hJ2,rfl⟩
      ·simp (disch:=first|omega|(simp;done)|(simp;omega)) [hc,hi,h3',h4',hd1,hk4,hk5,hc1,hc2,har,-getElem?_pos]
       exact ⟨_,J2,hGa,hsz,hJ2,rfl⟩
    ·have hk4:¬(k:Int)=4:=fun h=>hdata ⟨hz,by omega⟩
     have hk5:¬(k:Int)=5:=fun h=>hdata ⟨hz,by omega⟩
     simp (disch:=first|omega|(simp;done)|(simp;omega)) [hc,hi,h3',h4',hd1,hk4,hk5,hc1,hc2,har,-getElem?_pos]
     exact ⟨_,J2,hGa,hsz,hJ2,rfl⟩
theorem Zg7 (L:List Int)(ds:List DataD)(hL:L.length≤1073741824)(hds:fitDs ds)(d I:Nat)(hd:d≤100)(hI:I≤L.length) :
 ∃ r,Zg9 L (5 ^ d) r∧(K A).call 45 [.sc (.ptr 0 0),Zal ds,.sc (.c (.sl [])),intV d] [Zan L I]=some r:=by
 obtain ⟨_,⟨t,J,h1,h2,h3,rfl⟩,hc⟩:=Zqx (A:=A) L ds hL hds d I hd hI
 exact ⟨_,⟨t,J,h1.1,h2,h3,rfl⟩,hc⟩
theorem tyW.wr {t:Ty}(h:tyW t):wrT t:=⟨h.1.1,h.2⟩
variable {A:Zac}
theorem Znm {M:Nat}(x:Ty)(hx:tyS M x)(hl:x.size≤1000000):∃ r,TyR 0 x.size r∧(K A).call 140 [tyV x] []=some r:=by
 obtain ⟨_,⟨v,⟨g1,g2,g3⟩,rfl⟩,hv⟩:=Zhl (A:=A) (n:=M) (c:=0) [x] (by simp;omega) (fun u hu=>by rw [List.mem_singleton.1 hu];exact hx)
 have hn:Ty.rows [x]=[x.row]:=by simp [Ty.rows]
 have hv:(K A).call 195 [.sc (.c (.sl [x.row]))] []=some (Zci v,[]):=by rw [←hn];exact hv
 have g1':v.length≤x.size:=by simpa using g1
 have hi:=Zf2 (A:=A)
 refine Zap _ (vf:=v140) (by kernel_rfl) rfl (by simp) ?_
 unfold v140
 simp (disch:=first|omega|(simp;done)|(simp;omega)) [hv]
 refine Zaf (fun i st=>∃ s:List AssD,s.length=i∧(∀ (j:Nat) y,j<i→v[j]?=some y→∃ a∈s,a.id=y)∧(∀ a∈s,tyS 0 a.ty∧a.ty.size≤1) ∧
  st=⟨[(1,.sc (.ptr 64 0)),(2,.sc (.ptr 128 0)),(3,Zci v),(4,.sc (.arr 449 i)),(5,intV i)],[(64,some (.box (wc x.row))),(128,some (.box [zi,zs,zi,zi,.nil])),(449,some (.arr 6 (wr (ZbK s)) 0))]⟩) v.length ⟨[],rfl,by omega,by simp,by simp⟩ ?_ ?_
 ·rintro i st hi2 ⟨s,hs,q1,q2,rfl⟩
  obtain ⟨y,hy⟩:=Zaa hi2
  have he:(W.c (.int .i64 y)::wc (Ty.mk 4 [73,110,116] 0 0 []).row)=wc (Zbn ⟨y,.mk 4 [73,110,116] 0 0 []⟩):=rfl
  unfold ZlY
  simp (disch:=first|omega|(simp;done)|(simp;omega)) [hi2,hy,hi,he,hs,-getElem?_pos]
  refine ⟨s++[⟨y,.mk 4 [73,110,116] 0 0 []⟩],by simp [hs],?_,?_,by simp⟩
  ·intro j z hj hz
   by_cases hji:j<i
   ·obtain ⟨a,ha,hai⟩:=q1 j z hji hz
    exact ⟨a,by simp [ha],hai⟩
   ·obtain rfl:j=i:=by omega
    rw [hy] at hz
    cases hz
    exact ⟨_,List.mem_append.2 (.inr (List.mem_singleton.2 rfl)),rfl⟩
  ·intro a ha
   rcases List.mem_append.1 ha with ha|ha
   ·exact q2 a ha
   ·simp only [List.mem_singleton] at ha
    subst ha
    exact ⟨Ziz,by simp [Ty.size_leaf]⟩
 ·rintro st ⟨s,hs,q1,q2,rfl⟩
  have hc:=ZcI (A:=A) s (by omega) x (by omega)
  have hS:tyS 0 (ZbW s x):=ZiY (c:=0) (l:=v) (fun i hi=>by
   obtain ⟨j,hj,he⟩:=List.getElem_of_mem hi
   exact q1 j i hj (by rw [List.getElem?_eq_getElem hj,he])) (fun a ha=>(q2 a ha).1) hx (g2 x (by simp))
  have hz:=Zex (Nat.le_refl 1) (fun a ha=>(q2 a ha).2) x
  unfold ZlY
  simp (disch:=first|omega|(simp;done)|(simp;omega)) [hc,hs,-getElem?_pos]
  exact ⟨ZbW s x,hS,by omega,rfl⟩
def wD:Nat→Nat
 | 0=>1
 | d+1=>7*wD d+25
theorem Ziu:∀ d,1≤wD d
 | 0=>Nat.le_refl _
 | d+1=>by have:=Ziu d;simp only [wD];omega
theorem wD_le {d:Nat}(hd:d≤6):wD d≤1000000:=by
 have:d=0∨d=1∨d=2∨d=3∨d=4∨d=5∨d=6:=by omega
 rcases this with rfl|rfl|rfl|rfl|rfl|rfl|rfl<;>decide
def ZjY (A:Zac)(L:List Int)(ds:List DataD)(d:Nat):Prop:=∀ (ctx:List EntD) (goal:Ty) (I:Nat),ctxOk (1000-4*d) 50000 ctx→tyS 0 goal→goal.size+10*d≤50000→I≤L.length →
 ∃ r,MkR L ds (wD d) r∧(K A).call 44 [.sc (.ptr 0 0),Zal ds,Zbv ctx,tyV goal,intV d] [Zan L I]=some r
theorem ctxOk.up {n n2 m:Nat}{l:List EntD}(h:ctxOk n m l)(hn:n≤n2):ctxOk n2 m l:=⟨Nat.le_trans h.1 hn,h.2⟩
theorem ctxOk.push {n n2 m:Nat}{l:List EntD}(h:ctxOk n m l)(hn:n+1≤n2){s:Str}{c:Nat}{t:Ty}(hs:s∈Zbf)(hc:c≤900)(ht:tyB 0 c t)(hz:t.size≤m):ctxOk n2 m (l++[⟨s,c,t⟩]):=by
 refine ⟨by have:=h.1;simp;omega,fun x hx => ?_⟩
 rcases List.mem_append.1 hx with hx|hx
 ·exact h.2 x hx
 ·simp only [List.mem_singleton] at hx
  subst hx
  exact ⟨hs,⟨c,rfl,hc⟩,ht,hz⟩
variable {A:Zac}
theorem ZlA {ds:List DataD}{e x:Exp}(he:mkE ds e)(hx:mkE ds x):mkE ds (.mk 5 0 [] 0 [e,x] [] tz):=by
 rw [Zgr]
 refine ⟨by simp [mkE1,mkS,annT,numB,Exp.kind,Exp.pos,Exp.name,Exp.num,Exp.kids,Exp.arms,Exp.ty,tz,Ty.size_leaf],?_,by simp⟩
 intro y hy
 simp only [List.mem_cons,List.not_mem_nil,or_false] at hy
 rcases hy with rfl|rfl
 ·exact he
 ·exact hx
theorem Zix (e x:Exp):(Exp.mk 5 0 [] 0 [e,x] [] tz).row=[.int .i64 5,.int .i64 0,.str [],.int .i64 0,.sl [e.row,x.row],.sl [],.int .i64 0,.str [],.int .i64 0,.int .i64 0,.sl []]:=by
 simp [Exp.row,tz,Ty.kind,Ty.name,Ty.id,Ty.home,Ty.args]
theorem ZeE (e x:Exp):(Exp.mk 5 0 [] 0 [e,x] [] tz).weight=1+(e.weight+x.weight):=by
 rw [ZaX]
 simp
abbrev Zfz (k:Int)(s:Str):List W:=[.c (.int .i64 k),zi,.c (.str s),zi,.nil,.nil,zi,zs,zi,zi,.nil]
theorem Zo7 (L:List Int)(ds:List DataD)(hL:L.length≤1073741824)(hds:fitDs ds)(d:Nat)(hd:d≤6)(ih:ZjY A L ds d)(ctx:List EntD)(goal:Ty)(I:Nat)(hctx:ctxOk (1000-4*(d+1)) 50000 ctx)(hg:tyS 0 goal)(hgl:goal.size≤50000)(hI:I≤L.length) :
 ∃ r,MkR L ds (wD (d+1)) r∧(K A).call 89 [.sc (.ptr 0 0),Zal ds,Zbv ctx,tyV goal,intV (d+1)] [Zan L I]=some r:=by
 have hp:=Ziu d
 have h32:wD (d+1)=(7*wD d+25):=rfl
 rw [h32]
 obtain ⟨_,⟨hl,hl1,hl2,rfl⟩,hlist⟩:=Zp8 (A:=A) (n:=1000) (m:=50000) (by omega) (by omega) ds hds ctx (hctx.up (by omega)) goal hg (by omega)
 refine Zap _ (vf:=v89) (by kernel_rfl) rfl (by simp) ?_
 unfold v89
 cases hl with
 | nil =>
  obtain ⟨_,⟨e,J,g1,g2,g3,rfl⟩,hleaf⟩:=Zj1 (A:=A) L ds hL (n:=1000) (by omega) ctx (hctx.up (by omega)) goal (by omega) I hI
  simp only [hdRows0] at hlist
  simp (disch:=first|omega|(simp;done)|(simp;omega)) [hlist,hleaf,-getElem?_pos]
  exact ⟨e,J,g1,by omega,g3,rfl⟩
 | cons h0 hr =>
  obtain ⟨q,J,hq,hJ,hc⟩:=ZaL (A:=A) L I ((h0::hr).length:Nat) hI hL (by simp) (by simp only [List.length_cons] at hl1 ⊢;omega)
  obtain ⟨h,hh⟩:=Zaa (l:=h0::hr) (i:=q) (by omega)
  obtain ⟨e1,e2,e3,e4⟩:=hl2 h (List.mem_of_getElem? hh)
  have hql:(q:Int)<((h0::hr).length:Nat):=hq
  have hne:¬((h0::hr).length:Nat)=0:=by simp
  generalize h0::hr=hl at *
  have hne':¬(hl.length:Int)=0:=by omega
  have hne2:hl≠[]:=fun h=>hne (by rw [h];rfl)
  have main:∀ k:Int,mkE ds (.mk k 0 h.name 0 [] [] tz)→wp (K A) (.loop Zoz) (Zby 0 (Zcv (K A) (.seq (.region [] [o 64 (.load true 11 (tv 13)),on (.store 11 (tv 10) (tv 64) [])] [] [10]) .ret) (Zdy false 1 [.cell 10 true 11] (MkR L ds ((7*wD d+25))))))
   ⟨[(0,.sc (.ptr 0 0)),(1,Zal ds),(2,Zbv ctx),(4,intV (d+1)),(10,.sc (.ptr 128 0)),(12,.sc (.ptr 1536 0)),(13,.sc (.ptr 1856 0)),(14,intV 0)],
     [(0,some (Zan L J)),(64,some (.box (wc goal.row))),(128,some (.box [zi,zi,zs,zi,.nil,.nil,zi,zs,zi,zi,.nil])),(1536,some (.box (wc (Zc3 h)))),(1856,some (.box (Zfz k h.name)))]⟩:=by
   intro k hk
   refine Zaf (fun i st=>∃ (e:Exp) (J:Nat) (cs:List W),mkE ds e∧e.weight≤1+i*(1+wD d)∧J≤L.length∧(cs=wc e.row∨(cs=Zfz k h.name∧e=.mk k 0 h.name 0 [] [] tz)) ∧
    st=⟨[(0,.sc (.ptr 0 0)),(1,Zal ds),(2,Zbv ctx),(4,intV (d+1)),(10,.sc (.ptr 128 0)),(12,.sc (.ptr 1536 0)),(13,.sc (.ptr 1856 0)),(14,intV i)],
     [(0,some (Zan L J)),(64,some (.box (wc goal.row))),(128,some (.box [zi,zi,zs,zi,.nil,.nil,zi,zs,zi,zi,.nil])),(1536,some (.box (wc (Zc3 h)))),(1856,some (.box cs))]⟩) h.args.length
    ⟨_,J,Zfz k h.name,hk,by have:=ZbC k 0 h.name;omega,hJ,.inr ⟨rfl,rfl⟩,by simp⟩ ?_ ?_
   ·rintro i st hi ⟨e,J2,cs,p1,p2,p3,p4,rfl⟩
    obtain ⟨x,hx⟩:=Zaa hi
    obtain ⟨M,x1,x2⟩:=e4 x (List.mem_of_getElem? hx)
    obtain ⟨_,⟨u,u1,u2,rfl⟩,hgr⟩:=Znm (A:=A) x x1 (by omega)
    obtain ⟨_,⟨y,J3,y1,y2,y3,rfl⟩,hty⟩:=ih ctx u J2 (hctx.up (by omega)) u1 (by omega) p3
    have hw:1+(e.weight+y.weight)≤1+(i+1)*(1+wD d):=by rw [Nat.succ_mul];omega
    unfold Zoz
    rcases p4 with rfl|⟨rfl,rfl⟩
    ·simp (disch:=first|omega|(simp;done)|(simp;omega)) [hi,hx,hgr,hty,-getElem?_pos]
     exact ⟨.mk 5 0 [] 0 [e,y] [] tz,ZlA p1 y1,by rw [ZeE];exact hw,J3,y3,rfl,by rw [Zix];rfl⟩
    ·simp (disch:=first|omega|(simp;done)|(simp;omega)) [hi,hx,hgr,hty,-getElem?_pos]
     exact ⟨.mk 5 0 [] 0 [_,y] [] tz,ZlA p1 y1,by rw [ZeE];exact hw,J3,y3,rfl,by rw [Zix,Zbu];rfl⟩
   ·rintro st ⟨e,J2,cs,p1,p2,p3,p4,rfl⟩
    have hw:e.weight≤(7*wD d+25):=by
     have:h.args.length*(1+wD d)≤3*(1+wD d):=Nat.mul_le_mul_right _ e3
     omega
    unfold Zoz
    rcases p4 with rfl|⟨rfl,rfl⟩
    ·simp (disch:=first|omega|(simp;done)|(simp;omega)) [-getElem?_pos]
     exact ⟨e,J2,p1,hw,p3,rfl⟩
    ·simp (disch:=first|omega|(simp;done)|(simp;omega)) [-getElem?_pos]
     exact ⟨_,J2,p1,hw,p3,by simp [expV,Zbu]⟩
  cases hb:h.con with
  | true =>
   have hk:mkE ds (.mk 2 0 h.name 0 [] [] tz):=ZeB (by simp [mkE1,mkS,annT,numB,Exp.kind,Exp.pos,Exp.name,Exp.num,Exp.kids,Exp.arms,Exp.ty,tz,Ty.size_leaf,e2 hb])
   simp (disch:=first|omega|(simp;done)|(simp;omega)) [hlist,hne,hne',hne2,hc,hql,hh,hb,-getElem?_pos]
   exact main 2 hk
  | false =>
   have hk:mkE ds (.mk 1 0 h.name 0 [] [] tz):=ZeB (by simp [mkE1,mkS,annT,numB,Exp.kind,Exp.pos,Exp.name,Exp.num,Exp.kids,Exp.arms,Exp.ty,tz,Ty.size_leaf,e1 hb])
   simp (disch:=first|omega|(simp;done)|(simp;omega)) [hlist,hne,hne',hne2,hc,hql,hh,hb,-getElem?_pos]
   exact main 1 hk
variable {A:Zac}
theorem ZnX (k:Int)(e:Exp):e.weight≤1073741824→∃ r,ZoV r∧(K A).call 68 [expV e,intV k] []=some r:=by
 induction e using Exp.ind with
 | h e ih =>
 intro hl
 have hle:=e.children_le
 rw [e.children_len] at hle
 have hc:=Zch (A:=A) e (by omega)
 refine Zap _ (vf:=v68) (by kernel_rfl) rfl (by simp) ?_
 unfold v68
 by_cases hk:e.kind=k
 ·simp (disch:=first|omega|(simp;done)|(simp;omega)) [hk,-getElem?_pos]
  exact ⟨true,rfl⟩
 ·simp (disch:=first|omega|(simp;done)|(simp;omega)) [hk,hc,-getElem?_pos]
  refine Zaf (fun i s=>s=⟨[(1,intV k),(5,.sc (.arr 608 e.children.length)),(6,intV i)],[(608,some (.arr 11 (wr (Exp.rows e.children)) 0))]⟩) e.children.length (by simp) ?_ ?_
  ·rintro i s hi rfl
   obtain ⟨x,hx⟩:=Zaa hi
   have hmem:=List.mem_of_getElem? hx
   obtain ⟨_,⟨b,rfl⟩,h68⟩:=ih x hmem (by have:=Exp.child_lt hmem;omega)
   rw [e.children_len] at hi
   have hi':(i:Int)<(e.kids.length:Int)+e.arms.length:=by omega
   unfold Zrm
   cases b with
   | true =>
    simp (disch:=first|omega|(simp;done)|(simp;omega)) [hi',hx,h68,-getElem?_pos]
    exact ⟨true,rfl⟩
   | false=>simp (disch:=first|omega|(simp;done)|(simp;omega)) [hi',hx,h68,-getElem?_pos]
  ·rintro s rfl
   unfold Zrm
   simp (disch:=first|omega|(simp;done)|(simp;omega)) [-getElem?_pos]
   exact ⟨false,rfl⟩
theorem mk_let {ds:List DataD}{k:Int}{s:Str}(hk:k=6∨k=7)(hs:s∈Zbf){e x:Exp}(he:mkE ds e)(hx:mkE ds x):mkE ds (.mk k 0 s 0 [e,x] [] tz):=by
 rw [Zgr]
 refine ⟨?_,?_,by simp⟩
 ·refine ⟨rfl,by simp [Exp.arms],by simp [Exp.ty,tz,Ty.size_leaf],⟨fun _=>rfl,fun h=>absurd (show k=9 from h) (by omega)⟩,⟨fun _=>rfl,by show (0:Int)≤0;decide,by show (0:Int)≤999;decide⟩,?_⟩
  exact .inr (.inr (.inr (.inr (.inr (.inl ⟨hk,hs,⟨e,x,rfl⟩,rfl⟩)))))
 ·intro y hy
  simp only [List.mem_cons,List.not_mem_nil,or_false] at hy
  rcases hy with rfl|rfl
  ·exact he
  ·exact hx
theorem Zbk (k:Int)(s:Str)(e x:Exp):(Exp.mk k 0 s 0 [e,x] [] tz).row=[.int .i64 k,.int .i64 0,.str s,.int .i64 0,.sl [e.row,x.row],.sl [],.int .i64 0,.str [],.int .i64 0,.int .i64 0,.sl []]:=by
 simp [Exp.row,tz,Ty.kind,Ty.name,Ty.id,Ty.home,Ty.args]
theorem ZkO (k:Int)(s:Str)(e x:Exp):(Exp.mk k 0 s 0 [e,x] [] tz).weight=1+(e.weight+x.weight):=by
 rw [ZaX]
 simp
def Zia:List Ty:=[.mk 3 [] 0 99 [],.mk 3 [] 1 99 []]
theorem Zok:∀ x∈Zia,tyG x∧x.size=1:=by
 intro x hx
 simp only [Zia,List.mem_cons,List.not_mem_nil,or_false] at hx
 rcases hx with rfl|rfl
 ·exact ⟨⟨Zfy,Ty.all_iff.2 ⟨fun _=>by decide,fun x hx=>by cases hx⟩⟩,Ty.size_leaf⟩
 ·exact ⟨⟨Zfy,Ty.all_iff.2 ⟨fun _=>by decide,fun x hx=>by cases hx⟩⟩,Ty.size_leaf⟩
theorem Zgu:Ty.rows Zia=[(Ty.mk 3 [] 0 99 []).row,(Ty.mk 3 [] 1 99 []).row]:=by simp [Zia,Ty.rows]
theorem let86 (L:List Int)(ds:List DataD)(hL:L.length≤1073741824)(hds:fitDs ds)(d:Nat)(hd:d≤6)(ih:ZjY A L ds d)(ctx:List EntD)(goal:Ty)(I:Nat)(hctx:ctxOk (1000-4*(d+1)) 50000 ctx)(hg:tyS 0 goal)(hgl:goal.size+10*(d+1)≤50000)(hI:I≤L.length) :
 ∃ r,MkR L ds (wD (d+1)) r∧(K A).call 86 [.sc (.ptr 0 0),Zal ds,Zbv ctx,tyV goal,intV (d+1)] [Zan L I]=some r:=by
 have hp:=Ziu d
 have h32:wD (d+1)=(7*wD d+25):=rfl
 rw [h32]
 obtain ⟨k2,J1,hk2,hJ1,hc1⟩:=ZaL (A:=A) L I 2 hI hL (by omega) (by omega)
 obtain ⟨s,J2,hs,hJ2,hc2⟩:=ZbG (A:=A) L J1 hJ1 hL
 obtain ⟨b,J3,hb,hJ3,hc3⟩:=ZaL (A:=A) L J2 2 hJ2 hL (by omega) (by omega)
 have hsA:=Zdg hs
 have hr0:=Zi7 (A:=A) 99 0
 have hr1:=Zi7 (A:=A) 99 1
 have hint:=Zf2 (A:=A)
 obtain ⟨_,⟨x,J4,hxG,hxz,hJ4,rfl⟩,hx0⟩:∃ r,Zg9 L 25 r∧(K A).call 45 [.sc (.ptr 0 0),Zal ds,.sc (.c (.sl (if b=0 then Ty.rows Zia else []))),intV 2] [Zan L J3]=some r:=by
  by_cases hb0:b=0
  ·obtain ⟨r,h1,h2⟩:=Znc (A:=A) L ds Zia hL hds (by simp [Zia]) (by simp [Zia]) Zok 2 J3 (by omega) hJ3
   exact ⟨r,h1,by rw [if_pos hb0];exact h2⟩
  ·obtain ⟨r,h1,h2⟩:=Zg7 (A:=A) L ds hL hds 2 J3 (by omega) hJ3
   exact ⟨r,h1,by rw [if_neg hb0];exact h2⟩
 have hmx:=ZgI (A:=A) x
 have hpx:=Zfo (A:=A) ctx s 0 x (by have:=hctx.1;omega)
 have hin:ctxOk (1000-4*d) 50000 (if k2=1 then ctx++[⟨s,0,x⟩] else ctx):=by
  split
  ·exact hctx.push (c:=0) (by omega) hsA (by omega) hxG.1 (by omega)
  ·exact hctx.up (by omega)
 obtain ⟨_,⟨e1,J5,g1,g2,g3,rfl⟩,ht1⟩:=ih _ x J4 hin hxG.1 (by omega) hJ4
 obtain ⟨_,⟨c,u,u1,u2,u3,rfl⟩,hcl⟩:=ZnH (A:=A) x (by omega) hxG.1 hxG.2
 have hw1:e1.weight≤1073741824:=Nat.le_trans g2 (Nat.le_trans (wD_le hd) (by decide))
 obtain ⟨_,⟨p,rfl⟩,hh1⟩:=ZnX (A:=A) 10 e1 hw1
 obtain ⟨_,⟨q,rfl⟩,hh2⟩:=ZnX (A:=A) 11 e1 hw1
 have hmi:=ZgI (A:=A) (.mk 4 [73,110,116] 0 0 [])
 have hp1:=Zfo (A:=A) ctx s c u (by have:=hctx.1;omega)
 have hp2:=Zfo (A:=A) ctx s 0 (.mk 4 [73,110,116] 0 0 []) (by have:=hctx.1;omega)
 obtain ⟨_,⟨e2,J6,y1,y2,y3,rfl⟩,ht2⟩:=ih (ctx++[⟨s,c,u⟩]) goal J5 (hctx.push (by omega) hsA (by omega) u2 (by omega)) hg (by omega) g3
 obtain ⟨_,⟨e3,J7,z1,z2,z3,rfl⟩,ht3⟩:=ih (ctx++[⟨s,0,.mk 4 [73,110,116] 0 0 []⟩]) goal J5 (hctx.push (c:=0) (by omega) hsA (by omega) Ziz (by rw [Ty.size_leaf];omega)) hg (by omega) g3
 have res:∀ (k:Int) (f:Exp) (J:Nat),k=6∨k=7→mkE ds f→f.weight≤wD d→J≤L.length→MkR L ds ((7*wD d+25)) (expV (.mk k 0 s 0 [e1,f] [] tz),[Zan L J]) :=
  fun k f J hk hf hw hJ=>⟨_,J,mk_let hk hsA g1 hf,by rw [ZkO];omega,hJ,rfl⟩
 refine Zap _ (vf:=v86) (by kernel_rfl) rfl (by simp) ?_
 unfold v86
 obtain rfl|rfl:k2=0∨k2=1:=by omega
 ·rw [if_neg (by decide)] at ht1
  obtain rfl|rfl:b=0∨b=1:=by omega
  ·rw [if_pos (by decide),Zgu] at hx0
   cases p with
   | true =>
    simp (maxSteps:=4000000) (disch:=first|omega|(simp;done)|(simp;omega)) [hc1,hc2,hc3,hr0,hr1,hint,hx0,hmx,hpx,ht1,hcl,hh1,hh2,hmi,hp1,hp2,ht2,ht3,-getElem?_pos]
    have:=res 6 e3 J7 (by omega) z1 z2 z3
    simpa [expV,Zbk] using this
   | false =>
    cases q with
    | true =>
     simp (maxSteps:=4000000) (disch:=first|omega|(simp;done)|(simp;omega)) [hc1,hc2,hc3,hr0,hr1,hint,hx0,hmx,hpx,ht1,hcl,hh1,hh2,hmi,hp1,hp2,ht2,ht3,-getElem?_pos]
     have:=res 6 e3 J7 (by omega) z1 z2 z3
     simpa [expV,Zbk] using this
    | false =>
     simp (maxSteps:=4000000) (disch:=first|omega|(simp;done)|(simp;omega)) [hc1,hc2,hc3,hr0,hr1,hint,hx0,hmx,hpx,ht1,hcl,hh1,hh2,hmi,hp1,hp2,ht2,ht3,-getElem?_pos]
     have:=res 6 e2 J6 (by omega) y1 y2 y3
     simpa [expV,Zbk] using this
  ·rw [if_neg (by decide)] at hx0
   cases p with
   | true =>
    simp (maxSteps:=4000000) (disch:=first|omega|(simp;done)|(simp;omega)) [hc1,hc2,hc3,hr0,hr1,hint,hx0,hmx,hpx,ht1,hcl,hh1,hh2,hmi,hp1,hp2,ht2,ht3,-getElem?_pos]
    have:=res 6 e3 J7 (by omega) z1 z2 z3
    simpa [expV,Zbk] using this
   | false =>
    cases q with
    | true =>
     simp (maxSteps:=4000000) (disch:=first|omega|(simp;done)|(simp;omega)) [hc1,hc2,hc3,hr0,hr1,hint,hx0,hmx,hpx,ht1,hcl,hh1,hh2,hmi,hp1,hp2,ht2,ht3,-getElem?_pos]
     have:=res 6 e3 J7 (by omega) z1 z2 z3
     simpa [expV,Zbk] using this
    | false =>
     simp (maxSteps:=4000000) (disch:=first|omega|(simp;done)|(simp;omega)) [hc1,hc2,hc3,hr0,hr1,hint,hx0,hmx,hpx,ht1,hcl,hh1,hh2,hmi,hp1,hp2,ht2,ht3,-getElem?_pos]
     have:=res 6 e2 J6 (by omega) y1 y2 y3
     simpa [expV,Zbk] using this
 ·rw [if_pos (by decide)] at ht1
  obtain rfl|rfl:b=0∨b=1:=by omega
  ·rw [if_pos (by decide),Zgu] at hx0
   cases p with
   | true =>
    simp (maxSteps:=4000000) (disch:=first|omega|(simp;done)|(simp;omega)) [hc1,hc2,hc3,hr0,hr1,hint,hx0,hmx,hpx,ht1,hcl,hh1,hh2,hmi,hp1,hp2,ht2,ht3,-getElem?_pos]
    have:=res 7 e3 J7 (by omega) z1 z2 z3
    simpa [expV,Zbk] using this
   | false =>
    cases q with
    | true =>
     simp (maxSteps:=4000000) (disch:=first|omega|(simp;done)|(simp;omega)) [hc1,hc2,hc3,hr0,hr1,hint,hx0,hmx,hpx,ht1,hcl,hh1,hh2,hmi,hp1,hp2,ht2,ht3,-getElem?_pos]
     have:=res 7 e3 J7 (by omega) z1 z2 z3
     simpa [expV,Zbk] using this
    | false =>
     simp (maxSteps:=4000000) (disch:=first|omega|(simp;done)|(simp;omega)) [hc1,hc2,hc3,hr0,hr1,hint,hx0,hmx,hpx,ht1,hcl,hh1,hh2,hmi,hp1,hp2,ht2,ht3,-getElem?_pos]
     have:=res 7 e2 J6 (by omega) y1 y2 y3
     simpa [expV,Zbk] using this
  ·rw [if_neg (by decide)] at hx0
   cases p with
   | true =>
    simp (maxSteps:=4000000) (disch:=first|omega|(simp;done)|(simp;omega)) [hc1,hc2,hc3,hr0,hr1,hint,hx0,hmx,hpx,ht1,hcl,hh1,hh2,hmi,hp1,hp2,ht2,ht3,-getElem?_pos]
    have:=res 7 e3 J7 (by omega) z1 z2 z3
    simpa [expV,Zbk] using this
   | false =>
    cases q with
    | true =>
     simp (maxSteps:=4000000) (disch:=first|omega|(simp;done)|(simp;omega)) [hc1,hc2,hc3,hr0,hr1,hint,hx0,hmx,hpx,ht1,hcl,hh1,hh2,hmi,hp1,hp2,ht2,ht3,-getElem?_pos]
     have:=res 7 e3 J7 (by omega) z1 z2 z3
     simpa [expV,Zbk] using this
    | false =>
     simp (maxSteps:=4000000) (disch:=first|omega|(simp;done)|(simp;omega)) [hc1,hc2,hc3,hr0,hr1,hint,hx0,hmx,hpx,ht1,hcl,hh1,hh2,hmi,hp1,hp2,ht2,ht3,-getElem?_pos]
     have:=res 7 e2 J6 (by omega) y1 y2 y3
     simpa [expV,Zbk] using this
end Go.Vs.Tryz
