/- Replace, Close, types with leaves, contexts, walked: what they answer is of the right shape. (Parts of one proof, put together.) -/
import Derived.Test.YtlcncicmkkelcaaGreatDoorR5s
set_option linter.unusedSimpArgs false
set_option linter.unusedVariables false
set_option linter.deprecated false
set_option maxHeartbeats 4000000
namespace Go.Vs.Tryz
open Go Go.Vs
variable {A:Oracle}
def TyP (r:V × List Obj):Prop:=∃ t:Ty,r=(tyV t,[])
theorem replace120:∀ (n:Nat)(t:Ty)(s:List AssD),t.size≤n→t.size≤1073741824→s.length≤1073741824→∃ r,TyP r∧(K A).call 154 [tyV t,asssV s] []=some r:=by
 intro n
 induction n with
 | zero =>
  intro t s ht
  have:=t.size_pos
  omega
 | succ n ih =>
  intro t s ht htl hs
  have hal:=t.args_lt
  refine fn_ofE _ (vf:=v154) (by kernel_rfl) rfl (by simp) ?_
  unfold v154
  by_cases h1:t.kind=1
  ·simp (disch:=first|omega|(simp;done)|(simp;omega)) [h1]
   refine wp_loopI (fun i st=>st=⟨[(1,asssV s),(2,.sc (.ptr 64 0)),(4,.sc (.ptr 128 0)),(5,intV i)],[(64,some (.box (wc t.row))),(128,some (.box [zi,zs,zi,zi,.nil]))]⟩) s.length (by simp) ?_ ?_
   ·rintro i st hi rfl
    obtain ⟨x,hx⟩:=get_of_lt hi
    unfold l154_0
    by_cases hxt:x.id=t.id
    ·simp (disch:=first|omega|(simp;done)|(simp;omega)) [hi,hx,hxt,-getElem?_pos]
     exact ⟨x.ty,rfl⟩
    ·simp (disch:=first|omega|(simp;done)|(simp;omega)) [hi,hx,hxt,-getElem?_pos]
   ·rintro st rfl
    unfold l154_0
    simp (disch:=first|omega|(simp;done)|(simp;omega)) [-getElem?_pos]
    exact ⟨t,rfl⟩
  ·simp (disch:=first|omega|(simp;done)|(simp;omega)) [h1]
   simp (disch:=first|omega|(simp;done)|(simp;omega)) [Ty.row_eq]
   refine wp_loopI (fun i st=>∃ tys:List Ty,tys.length=i∧st=⟨[(1,asssV s),(2,.sc (.ptr 64 0)),(4,.sc (.ptr 128 0)),(6,.sc (.ptr 1984 0)),(7,intV i)],
    [(64,some (.box [.c (.int .i64 t.kind),.c (.str t.name),.c (.int .i64 t.id),.c (.int .i64 t.home),.c (.sl (Ty.rows t.args))])),(128,some (.box [zi,zs,zi,zi,.nil])),
      (1984,some (.box [.c (.int .i64 t.kind),.c (.str t.name),.c (.int .i64 t.id),.c (.int .i64 t.home),.arr 2177 i])),(2177,some (.arr 5 (wr (Ty.rows tys)) 0))]⟩) t.args.length ⟨[],rfl,by simp⟩ ?_ ?_
   ·rintro i st hi ⟨tys,hty,rfl⟩
    obtain ⟨x,hx⟩:=get_of_lt hi
    have hxs:=Ty.arg_lt (List.mem_of_getElem? hx)
    obtain ⟨_,⟨x2,rfl⟩,hc⟩:=ih x s (by omega) (by omega) hs
    unfold l154_1
    simp (disch:=first|omega|(simp;done)|(simp;omega)) [hi,hx,hc,hty,-getElem?_pos]
    exact ⟨tys++[x2],by simp [hty],by simp⟩
   ·rintro st ⟨tys,hty,rfl⟩
    unfold l154_1
    simp (disch:=first|omega|(simp;done)|(simp;omega)) [hty,-getElem?_pos]
    exact ⟨.mk t.kind t.name t.id t.home tys,by simp [Ty.row]⟩
def CloseP (r:V × List Obj):Prop:=∃ (c:Int)(t:Ty),r=(schV c t,[])
theorem close76 (t:Ty)(ids:List Int)(h:t.size≤1073741824)(hi:ids.length≤1073741824):∃ r,CloseP r∧(K A).call 102 [tyV t,intsV ids] []=some r:=by
 refine fn_ofE _ (vf:=v102) (by kernel_rfl) rfl (by simp) ?_
 obtain ⟨_,⟨v,hv,rfl⟩,hc⟩:=vars117 (A:=A) t h
 have hn:Ty.rows [t]=[t.row]:=by simp [Ty.rows]
 have hc:(K A).call 151 [.sc (.c (.sl [t.row]))] []=some (intsV v,[]):=by rw [←hn];exact hc
 unfold v102
 simp (disch:=first|omega|(simp;done)|(simp;omega)) [hc]
 refine wp_loopI (fun i st=>∃ s:List AssD,s.length≤i∧st=⟨[(1,intsV ids),(2,.sc (.ptr 64 0)),(4,.sc (.ptr 128 0)),(5,intsV v),(6,.sc (.arr 449 s.length)),(7,intV i)],[(64,some (.box (wc t.row))),(128,some (.box [zi,zi,zs,zi,zi,.nil])),(449,some (.arr 6 (wr (assRows s)) 0))]⟩) v.length ⟨[],by simp,by simp⟩ ?_ ?_
 ·rintro i st hi2 ⟨s,hs,rfl⟩
  obtain ⟨x,hx⟩:=get_of_lt hi2
  obtain ⟨_,⟨b,rfl⟩,hc2⟩:=has118 (A:=A) ids x hi
  have hb:=bound119 (A:=A) s.length
  have he:(W.c (.int .i64 x)::wc (Ty.mk 2 [] s.length 0 []).row)=wc (assRow ⟨x,.mk 2 [] s.length 0 []⟩):=rfl
  unfold l102_0
  cases b with
  | true =>
   simp (disch:=first|omega|(simp;done)|(simp;omega)) [hi2,hx,hc2,hb,he,-getElem?_pos]
   exact ⟨s++[⟨x,.mk 2 [] s.length 0 []⟩],by simp;omega,by simp⟩
  | false =>
   simp (disch:=first|omega|(simp;done)|(simp;omega)) [hi2,hx,hc2,-getElem?_pos]
   exact ⟨s,by omega,by simp⟩
 ·rintro st ⟨s,hs,rfl⟩
  obtain ⟨_,⟨t2,rfl⟩,hc3⟩:=replace120 (A:=A) t.size t s (Nat.le_refl _) h (by omega)
  unfold l102_0
  simp (disch:=first|omega|(simp;done)|(simp;omega)) [hc3,-getElem?_pos]
  exact ⟨s.length,t2,by simp [schRow,Ty.row_eq]⟩
theorem sizes_le {m:Nat}:∀ {l:List Ty},(∀ x∈l,x.size≤m)→(l.map Ty.size).sum≤l.length*m
 | [],_=>by simp
 | a::r,h=>by
  have h1:=h a (by simp)
  have h2:=sizes_le (l:=r) fun x hx=>h x (by simp [hx])
  simp only [List.map_cons,List.sum_cons,List.length_cons,Nat.succ_mul]
  omega
def TypeS (L:List Int)(m:Nat)(r:V × List Obj):Prop:=∃ t J,t.size≤m∧J≤L.length∧r=(tyV t,[tapeO L J])
def TypeJ (L:List Int)(ds:List DataD)(ls:List Ty)(dd:DataD)(d i:Nat)(s:St):Prop:=∃ tys J,tys.length=i∧(∀ x∈tys,x.size≤5 ^ d)∧J≤L.length ∧
 s=⟨[(0,.sc (.ptr 0 0)),(1,datasV ds),(2,tysV ls),(3,intV (d+1)),(8,.sc (.ptr 64 0)),(10,.sc (.ptr 3392 0)),(11,.sc (.arr 3521 i)),(12,intV i)],
  [(0,some (tapeO L J)),(64,some (.box [zi,zs,zi,zi,.nil])),(3392,some (.box (wc (dataRow dd)))),(3521,some (.arr 5 (wr (Ty.rows tys)) 0))]⟩
theorem type39L (L:List Int)(ds:List DataD)(ls:List Ty)(hL:L.length≤1073741824)(hds:goodDs ds)(hls:0<ls.length)(hls2:ls.length≤100)(hls3:∀ x∈ls,x.size=1):∀ (d I:Nat),d≤100→I≤L.length →
 ∃ r,TypeS L (5 ^ d) r∧(K A).call 70 [.sc (.ptr 0 0),datasV ds,tysV ls,intV d] [tapeO L I]=some r:=by
 intro d
 have leafCase:∀ (d I k J:Nat),k<3→J≤L.length→(K A).call 53 [.sc (.ptr 0 0),intV 7] [tapeO L I]=some (intV k,[tapeO L J]) →
  ∃ r,TypeS L (5 ^ d) r∧(K A).call 70 [.sc (.ptr 0 0),datasV ds,tysV ls,intV d] [tapeO L I]=some r:=by
  intro d I k J h3 hJ hc
  obtain ⟨m,J1,hm,hJ1,hc1⟩:=next37 (A:=A) L J ls.length hJ hL (by omega) (by omega)
  obtain ⟨x,hx⟩:=get_of_lt (l:=ls) (i:=m) (by omega)
  have hm':(m:Int)<ls.length:=hm
  have h3':(k:Int)<3:=by omega
  refine fn_ofE _ (vf:=v70) (by kernel_rfl) rfl (by simp) ?_
  unfold v70
  simp (disch:=first|omega|(simp;done)|(simp;omega)) [hc,h3',hls,hc1,hx,-getElem?_pos]
  exact ⟨x,J1,by rw [hls3 x (List.mem_of_getElem? hx)];exact Nat.pos_of_ne_zero (by simp),hJ1,rfl⟩
 have intSz:(Ty.mk 4 [73,110,116] 0 0 []).size=1:=Ty.size_leaf
 induction d with
 | zero =>
  intro I _ hI
  obtain ⟨k,J,hk,hJ,hc⟩:=next37 (A:=A) L I 7 hI hL (by omega) (by omega)
  by_cases h3:k<3
  ·exact leafCase 0 I k J h3 hJ hc
  ·refine fn_ofE _ (vf:=v70) (by kernel_rfl) rfl (by simp) ?_
   have hi:=int29 (A:=A)
   unfold v70
   have h3':¬(k:Int)<3:=by omega
   by_cases h4:k<4
   ·have h4':(k:Int)<4:=by omega
    simp (disch:=first|omega|(simp;done)|(simp;omega)) [hc,hi,h3',h4',-getElem?_pos]
    exact ⟨_,J,by rw [intSz];exact Nat.le_refl _,hJ,rfl⟩
   ·have h4':¬(k:Int)<4:=by omega
    simp (disch:=first|omega|(simp;done)|(simp;omega)) [hc,hi,h3',h4',-getElem?_pos]
    exact ⟨_,J,by rw [intSz];exact Nat.le_refl _,hJ,rfl⟩
 | succ d ih =>
  intro I hd hI
  obtain ⟨k,J,hk,hJ,hc⟩:=next37 (A:=A) L I 7 hI hL (by omega) (by omega)
  by_cases h3:k<3
  ·exact leafCase (d+1) I k J h3 hJ hc
  have hi:=int29 (A:=A)
  have hd1:¬(d:Int)+1<1:=by omega
  have hp:1≤5 ^ d:=Nat.pos_of_ne_zero (by simp)
  have hp1:5 ^ (d+1)=5*5 ^ d:=by rw [Nat.pow_succ];omega
  have h3':¬(k:Int)<3:=by omega
  refine fn_ofE _ (vf:=v70) (by kernel_rfl) rfl (by simp) ?_
  by_cases h4:k<4
  ·have h4':(k:Int)<4:=by omega
   unfold v70
   simp (disch:=first|omega|(simp;done)|(simp;omega)) [hc,hi,h3',h4',-getElem?_pos]
   exact ⟨_,J,by rw [intSz];omega,hJ,rfl⟩
  ·have h4':¬(k:Int)<4:=by omega
   by_cases hdata:ds≠[]∧k<6
   ·have hpos:0<ds.length:=List.length_pos_iff.2 hdata.1
    have hds1:=hds.1
    obtain ⟨m,J1,hm,hJ1,hc1⟩:=next37 (A:=A) L J ds.length hJ hL (by omega) (by omega)
    obtain ⟨dd,hdd⟩:=get_of_lt (l:=ds) (i:=m) (by omega)
    have hgood:=hds.2 dd (List.mem_of_getElem? hdd)
    have hm':(m:Int)<ds.length:=hm
    have fin:wp (K A) (.loop l70_0) (blockQ 1 (thenQ (K A) (.seq (.region [] [o 77 (.fld 1 (tv 10)),o 78 (.load false 1 (tv 77)),o 79 (.mv (tv 11)),oa 80 (.call (kf 100) [(false,(tv 78)),(false,(tv 79))] []) 4992,on (.store 5 (tv 8) (tv 80) [])] [] [8]) .ret)
     (blockQ 0 (thenQ (K A) (.seq (.region [] [o 81 (.mv (tv 0)),o 82 (.mv (tv 1)),o 83 (.mv (tv 2)),o 84 (.mv (tv 3)),o 85 (.bin .sub 0 (tv 84) (ki 1)),oa 86 (.call (kf 70) [(true,(tv 81)),(false,(tv 82)),(false,(tv 83)),(false,(tv 85))] []) 5440,oa 13 (.new [zi,zs,zi,zi,.nil] []) 5504,on (.store 5 (tv 13) (tv 86) [])] [] [0,1,2,3,8,13])
       (.seq (.region [] [o 87 (.load true 5 (tv 13)),o 88 (.mv (tv 0)),o 89 (.mv (tv 1)),o 90 (.mv (tv 2)),o 91 (.mv (tv 3)),o 92 (.bin .sub 0 (tv 91) (ki 1)),oa 93 (.call (kf 70) [(true,(tv 88)),(false,(tv 89)),(false,(tv 90)),(false,(tv 92))] []) 6016,oa 94 (.call (kf 128) [(false,(tv 87)),(false,(tv 93))] []) 6080,on (.store 5 (tv 8) (tv 94) [])] [(0,6)] [8]) .ret)) (endsQ false 1 [.cell 8 true 5] (TypeS L (5 ^ (d+1))))))))
     ⟨[(0,.sc (.ptr 0 0)),(1,datasV ds),(2,tysV ls),(3,intV (d+1)),(8,.sc (.ptr 64 0)),(10,.sc (.ptr 3392 0)),(11,.sc (.arr 3521 0)),(12,intV 0)],
       [(0,some (tapeO L J1)),(64,some (.box [zi,zs,zi,zi,.nil])),(3392,some (.box (wc (dataRow dd)))),(3521,some (.arr 5 [] 0))]⟩:=by
     refine wp_loopI (TypeJ L ds ls dd d) dd.params.length ⟨[],J1,rfl,by simp,hJ1,by simp⟩ ?_ ?_
     ·rintro i s hi' ⟨tys,J2,ht,hts,hJ2,rfl⟩
      obtain ⟨r,⟨ty,J3,hty,hJ3,rfl⟩,hc2⟩:=ih J2 (by omega) hJ2
      have hip:=hgood.1
      unfold l70_0
      simp (disch:=first|omega|(simp;done)|(simp;omega)) [hi',hc2,ht,-getElem?_pos]
      refine ⟨tys++[ty],J3,by simp [ht],?_,hJ3,by simp⟩
      intro x hx
      rcases List.mem_append.1 hx with hx|hx
      ·exact hts x hx
      ·simp only [List.mem_singleton] at hx
       exact hx▸hty
     ·rintro s ⟨tys,J2,ht,hts,hJ2,rfl⟩
      have hip:=hgood.1
      have hcon:=con65 (A:=A) dd.name tys (by omega)
      unfold l70_0
      simp (disch:=first|omega|(simp;done)|(simp;omega)) [hcon,ht,-getElem?_pos]
      refine ⟨_,J2,?_,hJ2,rfl⟩
      have hs:=sizes_le hts
      have hm4:tys.length*5 ^ d≤4*5 ^ d:=Nat.mul_le_mul_right _ (by omega)
      simp only [Ty.size,Ty.sizes_map]
      omega
    by_cases hk4:k=4
    ·unfold v70
     simp (disch:=first|omega|(simp;done)|(simp;omega)) [hc,hi,h3',h4',hd1,hk4,hdata.1,hpos,hc1,hdd,-getElem?_pos]
     exact fin
    ·have hk5:k=5:=by omega
     unfold v70
     simp (disch:=first|omega|(simp;done)|(simp;omega)) [hc,hi,h3',h4',hd1,hk5,hdata.1,hpos,hc1,hdd,-getElem?_pos]
     exact fin
   ·obtain ⟨r1,⟨t1,J1,ht1,hJ1,rfl⟩,hc1⟩:=ih J (by omega) hJ
    obtain ⟨r2,⟨t2,J2,ht2,hJ2,rfl⟩,hc2⟩:=ih J1 (by omega) hJ1
    have har:=arrow79 (A:=A) t1 t2
    have hsz:(Ty.mk 4 [45,62] 0 0 [t1,t2]).size≤5 ^ (d+1):=by
     simp only [Ty.size,Ty.sizes]
     omega
    have hb4:¬((k:Int)=4∧0<ds.length):=by
     rintro ⟨h1,h2⟩
     exact hdata ⟨List.length_pos_iff.1 h2,by omega⟩
    have hb5:¬((k:Int)=5∧0<ds.length):=by
     rintro ⟨h1,h2⟩
     exact hdata ⟨List.length_pos_iff.1 h2,by omega⟩
    unfold v70
    by_cases hz:ds=[]
    ·subst hz
     simp only [datasV,dataRows0] at hc1 hc2
     by_cases hk4:(k:Int)=4
     ·simp (disch:=first|omega|(simp;done)|(simp;omega)) [hc,hi,h3',h4',hd1,hk4,hc1,hc2,har,-getElem?_pos]
      exact ⟨_,J2,hsz,hJ2,rfl⟩
     ·by_cases hk5:(k:Int)=5
      ·simp (disch:=first|omega|(simp;done)|(simp;omega)) [hc,hi,h3',h4',hd1,hk4,hk5,hc1,hc2,har,-getElem?_pos]
       exact ⟨_,J2,hsz,hJ2,rfl⟩
      ·simp (disch:=first|omega|(simp;done)|(simp;omega)) [hc,hi,h3',h4',hd1,hk4,hk5,hc1,hc2,har,-getElem?_pos]
       exact ⟨_,J2,hsz,hJ2,rfl⟩
    ·have hk4:¬(k:Int)=4:=fun h=>hdata ⟨hz,by omega⟩
     have hk5:¬(k:Int)=5:=fun h=>hdata ⟨hz,by omega⟩
     simp (disch:=first|omega|(simp;done)|(simp;omega)) [hc,hi,h3',h4',hd1,hk4,hk5,hc1,hc2,har,-getElem?_pos]
     exact ⟨_,J2,hsz,hJ2,rfl⟩
variable {A:Oracle}
def rigids:List Ty:=[.mk 3 [] 0 0 [],.mk 3 [] 1 3 []]
def vars2:List Ty:=[.mk 1 [] 0 0 [],.mk 1 [] 1 0 []]
theorem rigids_leaf:∀ x∈rigids,x.size=1:=by
 intro x hx
 simp only [rigids,List.mem_cons,List.not_mem_nil,or_false] at hx
 rcases hx with rfl|rfl<;>exact Ty.size_leaf
theorem vars2_leaf:∀ x∈vars2,x.size=1:=by
 intro x hx
 simp only [vars2,List.mem_cons,List.not_mem_nil,or_false] at hx
 rcases hx with rfl|rfl<;>exact Ty.size_leaf
theorem rigids_rows:Ty.rows rigids=[(Ty.mk 3 [] 0 0 []).row,(Ty.mk 3 [] 1 3 []).row]:=by simp [rigids,Ty.rows]
def ctxV (l:List EntD):V:=match l with
 | []=>.sc .nil
 | l=>entsV l
theorem snocN {a:EntD}{l:List EntD}{nm:Str}{c:Int}{u:Ty}(h:∀ x∈a::l,x.name∈varNames)(hn:nm∈varNames):∀ x∈a::(l++[⟨nm,c,u⟩]),x.name∈varNames:=by
 intro x hx
 simp only [List.mem_cons,List.mem_append,List.not_mem_nil,or_false] at hx
 rcases hx with hx|hx|hx
 ·exact h x (by simp [hx])
 ·exact h x (by simp [hx])
 ·exact hx▸hn
def CtxP (L:List Int)(r:V × List Obj):Prop:=∃ (l:List EntD)(t:Ty)(J:Nat),l.length≤3∧(∀ x∈l,x.name∈varNames)∧J≤L.length∧r=(.tu [entsV l,tyV t],[tapeO L J])
def CtxI (L:List Int)(ds:List DataD)(n i:Nat)(s:St):Prop:=∃ (l:List EntD)(J p:Nat),l.length=i∧(∀ x∈l,x.name∈varNames)∧J≤L.length∧(p=0∨p=2) ∧
 s=⟨[(0,.sc (.ptr 0 0)),(1,datasV ds),(5,.sc (.ptr 128 0)),(6,.sc (.arr 320 2)),(7,ctxV l),(8,intV n),(9,intV i)],
  [(0,some (tapeO L J)),(128,some (.box [zi,zs,zi,zi,.nil])),(320,some (.arr 5 (wr (Ty.rows rigids)) p))]⟩
theorem context34 (L:List Int)(ds:List DataD)(hL:L.length≤1073741824)(hds:goodDs ds)(I:Nat)(hI:I≤L.length) :
 ∃ r,CtxP L r∧(K A).call 50 [.sc (.ptr 0 0),datasV ds] [tapeO L I]=some r:=by
 refine fn_ofE _ (vf:=v50) (by kernel_rfl) rfl (by simp) ?_
 have r1:=rigid75 (A:=A) 0 0
 have r2:=rigid75 (A:=A) 3 1
 obtain ⟨n,J,hn,hJ,hc⟩:=next37 (A:=A) L I 4 hI hL (by omega) (by omega)
 have hrl:rigids.length=2:=rfl
 unfold v50
 simp (disch:=first|omega|(simp;done)|(simp;omega)) [r1,r2,hc]
 refine wp_loopI (CtxI L ds n) n ⟨[],J,0,rfl,by simp,hJ,.inl rfl,by simp [ctxV,rigids_rows]⟩ ?_ ?_
 ·rintro i s hi ⟨l,J,p,hl,hln,hJ,hpp,rfl⟩
  obtain ⟨nm,J1,hnm,hJ1,hc1⟩:=variable38 (A:=A) L J hJ hL
  obtain ⟨k,J2,hk,hJ2,hc2⟩:=next37 (A:=A) L J1 4 hJ1 hL (by omega) (by omega)
  have hv:(K A).call 103 [intV 2] []=some (tysV vars2,[]):=vars77
  obtain ⟨_,⟨t,J3,ht,hJ3,rfl⟩,hc3⟩:=type39L (A:=A) L ds rigids hL hds (by simp [rigids]) (by simp [rigids]) rigids_leaf 2 J2 (by omega) hJ2
  obtain ⟨_,⟨t',J3',ht',hJ3',rfl⟩,hc3'⟩:=type39L (A:=A) L ds vars2 hL hds (by simp [vars2]) (by simp [vars2]) vars2_leaf 2 J2 (by omega) hJ2
  rw [show ((2:Nat):Int)=2 from rfl] at hc3 hc3'
  have hm:=mono28 (A:=A) t
  obtain ⟨_,⟨c,u,rfl⟩,hcl⟩:=close76 (A:=A) t' [0,1] (by omega) (by simp)
  have hir:intRows [0,1]=[[.int .i64 0],[.int .i64 1]]:=rfl
  rw [intsV,hir] at hcl
  have hp:=push78 (A:=A) l nm 0 t (by omega)
  have hp':=push78 (A:=A) l nm c u (by omega)
  unfold l50_0
  by_cases hk0:k=0
  ·skip
   cases l with
   | nil =>
    have hp0:(K A).call 104 [.sc (.c (.sl [])),strV nm,schV c u] []=some (entsV [⟨nm,c,u⟩],[]):=hp'
    simp (disch:=first|omega|(simp;done)|(simp;omega)) [hi,hc1,hc2,hk0,hv,hc3',hcl,hp0,ctxV,hrl,-getElem?_pos]
    exact ⟨[⟨nm,c,u⟩],J3',p,by simp at hl ⊢;omega,by simp [hnm],hJ3',hpp,by simp [ctxV]⟩
   | cons a l =>
    simp (disch:=first|omega|(simp;done)|(simp;omega)) [hi,hc1,hc2,hk0,hv,hc3',hcl,hp',ctxV,hrl,-getElem?_pos]
    exact ⟨a::(l++[⟨nm,c,u⟩]),J3',p,by simp at hl ⊢;omega,snocN hln hnm,hJ3',hpp,by simp [ctxV]⟩
  ·have hk0':¬(k:Int)=0:=by omega
   cases l with
   | nil =>
    have hp0:(K A).call 104 [.sc (.c (.sl [])),strV nm,schV 0 t] []=some (entsV [⟨nm,0,t⟩],[]):=hp
    simp (disch:=first|omega|(simp;done)|(simp;omega)) [hi,hc1,hc2,hk0,hk0',hc3,hm,hp0,ctxV,hrl,-getElem?_pos]
    exact ⟨[⟨nm,0,t⟩],J3,2,by simp at hl ⊢;omega,by simp [hnm],hJ3,.inr rfl,by simp [ctxV]⟩
   | cons a l =>
    simp (disch:=first|omega|(simp;done)|(simp;omega)) [hi,hc1,hc2,hk0,hk0',hc3,hm,hp,ctxV,hrl,-getElem?_pos]
    exact ⟨a::(l++[⟨nm,0,t⟩]),J3,2,by simp at hl ⊢;omega,snocN hln hnm,hJ3,.inr rfl,by simp [ctxV]⟩
 ·rintro s ⟨l,J,p,hl,hln,hJ,hpp,rfl⟩
  obtain ⟨_,⟨t,J3,ht,hJ3,rfl⟩,hc3⟩:=type39L (A:=A) L ds rigids hL hds (by simp [rigids]) (by simp [rigids]) rigids_leaf 2 J (by omega) hJ
  rw [show ((2:Nat):Int)=2 from rfl] at hc3
  unfold l50_0
  cases l with
  | nil =>
   simp (disch:=first|omega|(simp;done)|(simp;omega)) [hc3,ctxV,hrl,-getElem?_pos]
   exact ⟨[],t,J3,by simp,by simp,hJ3,rfl⟩
  | cons a l =>
   simp (disch:=first|omega|(simp;done)|(simp;omega)) [hc3,ctxV,hrl,-getElem?_pos]
   exact ⟨a::l,t,J3,by omega,hln,hJ3,rfl⟩
variable {A:Oracle}
def varExp (s:Str):Exp:=.mk 1 0 s 0 [] [] tz
theorem variable14 (s:Str):(K A).call 48 [strV s] []=some (expV (varExp s),[]):=by
 refine fn_of (vf:=v48) (by kernel_rfl) rfl (by simp) ?_
 unfold v48
 simp (disch:=first|omega|(simp;done)|(simp;omega)) [varExp,Exp.row,tz,Exp.rows,Exp.armRows,Ty.kind,Ty.name,Ty.id,Ty.home,Ty.args]
variable {A:Oracle}
@[simp] theorem range_5:List.range 5=[0,1,2,3,4]:=rfl
def boxC (ds:List DataD)(ctx:List EntD):List Obj:=[.box [.c (.sl (dataRows ds))],.box [.c (.sl (entRows ctx))],.box [.clo 58 [true,true,true] [[.ptr 2 0],[.ptr 3 0],[.ptr 4 0]]],.box [.clo 54 [true,true] [[.ptr 0 0],[.ptr 1 0]]],.box [.clo 57 [true] [[.ptr 2 0]]]]
def boxA (ds:List DataD)(ctx:List EntD):List Obj:=[.box [.clo 54 [true,true] [[.ptr 2 0],[.ptr 3 0]]],.box [.clo 57 [true] [[.ptr 4 0]]],.box [.c (.sl (dataRows ds))],.box [.c (.sl (entRows ctx))],.box [.clo 58 [true,true,true] [[.ptr 4 0],[.ptr 0 0],[.ptr 1 0]]]]
abbrev rkM (ds:List DataD)(ctx:List EntD):=rankM ds (seenN ctx)
def CmpC (A:Oracle)(ds:List DataD)(ctx:List EntD)(n:Nat):Prop:=∀ (a b:Exp)(l m:List Str),a.weight≤n→good a→good b→l.length+a.weight≤1073741824→m.length+b.weight≤1073741824 →
 (K A).call 58 [strsV l,strsV m,expV a,expV b,.sc (.ptr 2 0),.sc (.ptr 3 0),.sc (.ptr 4 0)] (boxC ds ctx)=some (intV (cmpF (rkM ds ctx) n l m a b),boxC ds ctx)
end Go.Vs.Tryz
