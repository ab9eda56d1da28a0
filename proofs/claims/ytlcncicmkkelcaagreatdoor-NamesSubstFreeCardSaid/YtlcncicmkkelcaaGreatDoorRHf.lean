/- Raw expressions, walked: their weights more exactly, for declarations of at most two constructors with at most two fields. (Parts of one proof, put together.) -/
import Derived.Test.YtlcncicmkkelcaaGreatDoorR5f
import Derived.Test.YtlcncicmkkelcaaGreatDoorR4f
import Derived.Test.YtlcncicmkkelcaaGreatDoorR2f
import Derived.Test.YtlcncicmkkelcaaGreatDoorRDf
import Derived.Test.YtlcncicmkkelcaaGreatDoorRGf
import Derived.Test.YtlcncicmkkelcaaGreatDoorX0f
set_option linter.unusedSimpArgs false
set_option linter.unusedVariables false
set_option linter.deprecated false
set_option maxHeartbeats 32000000
namespace Go.Vs.Tryz
open Go Go.Vs
variable {A:Oracle}
def small2 (ds:List DataD):Prop:=∀ d∈ds,d.cons.length≤2∧∀ c∈d.cons,c.fields.length≤2
def wS:Nat→Nat
 | 0=>1
 | d+1=>3*wS d+5
theorem wS_pos:∀ d,1≤wS d
 | 0=>Nat.le_refl _
 | d+1=>by have:=wS_pos d;simp only [wS];omega
def RawS (L:List Int)(ds:List DataD)(B:Nat)(r:V × List Obj):Prop:=∃ e J,rawE ds e∧e.weight≤B∧J≤L.length∧r=(expV e,[tapeO L J])
def ArmS (L:List Int)(ds:List DataD)(dd:DataD)(x:Exp)(B d i:Nat)(s:St):Prop:=∃ arms J,arms.length=i∧J≤L.length∧(∀ a∈arms,armE ds a∧rawE ds a.2∧a.2.weight≤B∧a.1.vars.length≤2) ∧
 s=⟨[(0,.sc (.ptr 0 0)),(1,datasV ds),(2,intV (d+1)),(6,.sc (.ptr 64 0)),(13,.sc (.ptr 10176 0)),(14,.sc (.ptr 10752 0)),(15,intV i)],
  [(0,some (tapeO L J)),(64,some (.box [zi,zi,zs,zi,.nil,.nil,zi,zs,zi,zi,.nil])),(10176,some (.box (wc (dataRow dd)))),(10624,some (.arr 11 [wc x.row] 0)),
    (10752,some (.box [.c (.int .i64 8),zi,zs,zi,.arr 10624 1,.arr 10822 i,zi,zs,zi,zi,.nil])),(10822,some (.arr 14 (wr (Exp.armRows arms)) 0))]⟩
theorem raw22S (L:List Int)(ds:List DataD)(hL:L.length≤1073741824)(hds:goodDs ds)(h2:small2 ds):∀ (d I:Nat),d≤4→I≤L.length →
 ∃ r,RawS L ds (wS d) r∧(K A).call 22 [.sc (.ptr 0 0),datasV ds,intV d] [tapeO L I]=some r:=by
 intro d
 induction d using Nat.strongRecOn with
 | ind d ih =>
 intro I hd hI
 obtain ⟨k,J,hk,hJ,hc⟩:=next37 (A:=A) L I 14 hI hL (by omega) (by omega)
 refine fn_ofE _ (vf:=v22) (by kernel_rfl) rfl (by simp) ?_
 have hp:1≤wS d:=wS_pos d
 have hds1:=hds.1
 obtain ⟨c,hc14,hcd,hcs⟩:∃ c:Nat,c<14∧(d=0→c<5)∧((d=0∧(k:Int).tmod 5=c)∨(d≠0∧k=c)):=by
  by_cases h:d=0
  ·refine ⟨k % 5,by omega,fun _=>by omega,.inl ⟨h,rfl⟩⟩
  ·exact ⟨k,by omega,fun h'=>absurd h' h,.inr ⟨h,rfl⟩⟩
 unfold v22
 refine wp_seqE ⟨[(0,.sc (.ptr 0 0)),(1,datasV ds),(2,intV d),(6,.sc (.ptr 64 0))],[(0,some (tapeO L I)),(64,some (.box [zi,zi,zs,zi,.nil,.nil,zi,zs,zi,zi,.nil]))]⟩ (by simp) ?_
 refine wp_seqE ⟨[(0,.sc (.ptr 0 0)),(1,datasV ds),(2,intV d),(6,.sc (.ptr 64 0)),(7,intV k)],[(0,some (tapeO L J)),(64,some (.box [zi,zi,zs,zi,.nil,.nil,zi,zs,zi,zi,.nil]))]⟩ (by simp [hc]) ?_
 refine wp_seqI (fun s=>s=⟨[(0,.sc (.ptr 0 0)),(1,datasV ds),(2,intV d),(6,.sc (.ptr 64 0)),(7,intV c)],[(0,some (tapeO L J)),(64,some (.box [zi,zi,zs,zi,.nil,.nil,zi,zs,zi,zi,.nil]))]⟩ ∨
  s=⟨[(0,.sc (.ptr 0 0)),(1,datasV ds),(2,intV d),(6,.sc (.ptr 64 0)),(7,intV c),(21,boolV false)],[(0,some (tapeO L J)),(64,some (.box [zi,zi,zs,zi,.nil,.nil,zi,zs,zi,zi,.nil]))]⟩) ?_ ?_
 ·rcases hcs with ⟨h0,h1⟩|⟨h0,rfl⟩
  ·subst h0
   simp (disch:=first|omega|(simp;done)|(simp;omega)) [h1]
  ·have h0':¬(d:Int)<1:=by omega
   simp (disch:=first|omega|(simp;done)|(simp;omega)) [h0']
 ·intro s hs
  refine wp_assocE ⟨[(0,.sc (.ptr 0 0)),(1,datasV ds),(2,intV d),(6,.sc (.ptr 64 0)),(24,intV c)],[(0,some (tapeO L J)),(64,some (.box [zi,zi,zs,zi,.nil,.nil,zi,zs,zi,zi,.nil]))]⟩ (by rcases hs with rfl | rfl<;>simp) ?_
  clear hs s hcs hc hk
  have leaf:∀ (kind num:Int) (name:Str) (J:Nat),J≤L.length→rawE1 ds (.mk kind 0 name num [] [] tz)→RawS L ds (wS d) (expV (.mk kind 0 name num [] [] tz),[tapeO L J]):=by
   intro kind num name J hJ h8
   refine ⟨_,J,?_,?_,hJ,rfl⟩
   ·rw [rawE_mk]
    exact ⟨h8,by simp,by simp⟩
   ·rw [weight_mk]
    simpa using hp
  by_cases h5:c<5
  ·have:c=0∨c=1∨c=2∨c=3∨c=4:=by omega
   rcases this with rfl|rfl|rfl|rfl|rfl
   ·obtain ⟨s,J1,hs,hJ1,hc1⟩:=variable38 (A:=A) L J hJ hL
    simp (disch:=first|omega|(simp;done)|(simp;omega)) [hc1]
    exact leaf 1 0 s J1 hJ1 (by simp [rawE1,rawS,Exp.kind,Exp.pos,Exp.name,Exp.num,Exp.kids,Exp.arms,Exp.ty,hs])
   ·obtain ⟨s,J1,hs,hJ1,hc1⟩:=variable38 (A:=A) L J hJ hL
    simp (disch:=first|omega|(simp;done)|(simp;omega)) [hc1]
    exact leaf 1 0 s J1 hJ1 (by simp [rawE1,rawS,Exp.kind,Exp.pos,Exp.name,Exp.num,Exp.kids,Exp.arms,Exp.ty,hs])
   ·obtain ⟨n,J1,_,hJ1,hc1⟩:=next37 (A:=A) L J 4 hJ hL (by omega) (by omega)
    simp (disch:=first|omega|(simp;done)|(simp;omega)) [hc1]
    exact leaf 3 n [] J1 hJ1 (by simp [rawE1,rawS,Exp.kind,Exp.pos,Exp.name,Exp.num,Exp.kids,Exp.arms,Exp.ty])
   ·by_cases hz:ds=[]
    ·subst hz
     have hz2:dataRows []=[]:=rfl
     simp (disch:=first|omega|(simp;done)|(simp;omega)) [hz2]
     exact leaf 2 0 [71,111,110,101] J hJ (by simp [rawE1,rawS,Exp.kind,Exp.pos,Exp.name,Exp.num,Exp.kids,Exp.arms,Exp.ty,cOk])
    ·have hpos:0<ds.length:=List.length_pos_iff.2 hz
     obtain ⟨m,J1,hm,hJ1,hc1⟩:=next37 (A:=A) L J ds.length hJ hL (by omega) (by omega)
     obtain ⟨dd,hdd⟩:=get_of_lt (l:=ds) (i:=m) (by omega)
     have hgood:=hds.2 dd (List.mem_of_getElem? hdd)
     obtain ⟨q,J2,hq,hJ2,hc2⟩:=next37 (A:=A) L J1 dd.cons.length hJ1 hL (by have:=hgood.2.1;omega) (by have:=hgood.2.2.1;omega)
     obtain ⟨cc,hcc⟩:=get_of_lt (l:=dd.cons) (i:=q) (by omega)
     simp (disch:=first|omega|(simp;done)|(simp;omega)) [hpos,hc1,hdd,hc2,hcc,-getElem?_pos]
     have hcok:cOk ds cc.name:=.inr ⟨dd,List.mem_of_getElem? hdd,cc,List.mem_of_getElem? hcc,rfl⟩
     exact leaf 2 0 cc.name J2 hJ2 (by simp [rawE1,rawS,Exp.kind,Exp.pos,Exp.name,Exp.num,Exp.kids,Exp.arms,Exp.ty,hcok])
   ·simp (disch:=first|omega|(simp;done)|(simp;omega))
    exact leaf 10 0 [] J hJ (by simp [rawE1,rawS,Exp.kind,Exp.pos,Exp.name,Exp.num,Exp.kids,Exp.arms,Exp.ty])
  ·obtain ⟨d',rfl⟩:∃ d',d=d'+1:=⟨d-1,by omega⟩
   have ih1:∀ I,I≤L.length→∃ r,RawS L ds (wS d') r∧(K A).call 22 [.sc (.ptr 0 0),datasV ds,intV d'] [tapeO L I]=some r:=fun I hI=>ih d' (by omega) I (by omega) hI
   have hp':=wS_pos d'
   have h32:wS (d'+1)=3*wS d'+5:=rfl
   rw [h32]
   have:c=5∨c=6∨c=7∨c=8∨c=9∨c=10∨c=11∨c=12∨c=13:=by omega
   rcases this with rfl|rfl|rfl|rfl|rfl|rfl|rfl|rfl|rfl
   ·obtain ⟨s,J1,hs,hJ1,hc1⟩:=variable38 (A:=A) L J hJ hL
    obtain ⟨_,⟨x,J2,hx,hxw,hJ2,rfl⟩,hc2⟩:=ih1 J1 hJ1
    simp (disch:=first|omega|(simp;done)|(simp;omega)) [hc1,hc2]
    refine ⟨.mk 4 0 s 0 [x] [] tz,J2,by rw [rawE_mk];simp [rawE1,rawS,Exp.kind,Exp.pos,Exp.name,Exp.num,Exp.kids,Exp.arms,Exp.ty,hx,hs],by rw [weight_mk];simp;omega,hJ2,?_⟩
    simp [expV,Exp.row,tz,Ty.kind,Ty.name,Ty.id,Ty.home,Ty.args]
   ·obtain ⟨s,J1,hs,hJ1,hc1⟩:=variable38 (A:=A) L J hJ hL
    obtain ⟨_,⟨x,J2,hx,hxw,hJ2,rfl⟩,hc2⟩:=ih1 J1 hJ1
    simp (disch:=first|omega|(simp;done)|(simp;omega)) [hc1,hc2]
    refine ⟨.mk 4 0 s 0 [x] [] tz,J2,by rw [rawE_mk];simp [rawE1,rawS,Exp.kind,Exp.pos,Exp.name,Exp.num,Exp.kids,Exp.arms,Exp.ty,hx,hs],by rw [weight_mk];simp;omega,hJ2,?_⟩
    simp [expV,Exp.row,tz,Ty.kind,Ty.name,Ty.id,Ty.home,Ty.args]
   ·obtain ⟨_,⟨x,J1,hx,hxw,hJ1,rfl⟩,hc1⟩:=ih1 J hJ
    obtain ⟨_,⟨y,J2,hy,hyw,hJ2,rfl⟩,hc2⟩:=ih1 J1 hJ1
    simp (disch:=first|omega|(simp;done)|(simp;omega)) [hc1,hc2]
    refine ⟨.mk 5 0 [] 0 [x,y] [] tz,J2,by rw [rawE_mk];simp [rawE1,rawS,Exp.kind,Exp.pos,Exp.name,Exp.num,Exp.kids,Exp.arms,Exp.ty,hx,hy],by rw [weight_mk];simp;omega,hJ2,?_⟩
    simp [expV,Exp.row,tz,Ty.kind,Ty.name,Ty.id,Ty.home,Ty.args]
   ·obtain ⟨_,⟨x,J1,hx,hxw,hJ1,rfl⟩,hc1⟩:=ih1 J hJ
    obtain ⟨_,⟨y,J2,hy,hyw,hJ2,rfl⟩,hc2⟩:=ih1 J1 hJ1
    simp (disch:=first|omega|(simp;done)|(simp;omega)) [hc1,hc2]
    refine ⟨.mk 5 0 [] 0 [x,y] [] tz,J2,by rw [rawE_mk];simp [rawE1,rawS,Exp.kind,Exp.pos,Exp.name,Exp.num,Exp.kids,Exp.arms,Exp.ty,hx,hy],by rw [weight_mk];simp;omega,hJ2,?_⟩
    simp [expV,Exp.row,tz,Ty.kind,Ty.name,Ty.id,Ty.home,Ty.args]
   ·obtain ⟨_,⟨x,J1,hx,hxw,hJ1,rfl⟩,hc1⟩:=ih1 J hJ
    obtain ⟨_,⟨y,J2,hy,hyw,hJ2,rfl⟩,hc2⟩:=ih1 J1 hJ1
    simp (disch:=first|omega|(simp;done)|(simp;omega)) [hc1,hc2]
    refine ⟨.mk 5 0 [] 0 [x,y] [] tz,J2,by rw [rawE_mk];simp [rawE1,rawS,Exp.kind,Exp.pos,Exp.name,Exp.num,Exp.kids,Exp.arms,Exp.ty,hx,hy],by rw [weight_mk];simp;omega,hJ2,?_⟩
    simp [expV,Exp.row,tz,Ty.kind,Ty.name,Ty.id,Ty.home,Ty.args]
   ·obtain ⟨n,J0,hn,hJ0,hc0⟩:=next37 (A:=A) L J 2 hJ hL (by omega) (by omega)
    obtain ⟨s,J1,hs,hJ1,hc1⟩:=variable38 (A:=A) L J0 hJ0 hL
    obtain ⟨_,⟨x,J2,hx,hxw,hJ2,rfl⟩,hc2⟩:=ih1 J1 hJ1
    obtain ⟨_,⟨y,J3,hy,hyw,hJ3,rfl⟩,hc3⟩:=ih1 J2 hJ2
    simp (disch:=first|omega|(simp;done)|(simp;omega)) [hc0,hc1,hc2,hc3]
    refine ⟨.mk (6+n) 0 s 0 [x,y] [] tz,J3,by rw [rawE_mk];simp [rawE1,rawS,Exp.kind,Exp.pos,Exp.name,Exp.num,Exp.kids,Exp.arms,Exp.ty,hx,hy,hs];omega,by rw [weight_mk];simp;omega,hJ3,?_⟩
    simp [expV,Exp.row,tz,Ty.kind,Ty.name,Ty.id,Ty.home,Ty.args]
   ·obtain ⟨_,⟨x,J1,hx,hxw,hJ1,rfl⟩,hc1⟩:=ih1 J hJ
    obtain ⟨_,⟨ty,J2,hty,hJ2,rfl⟩,hc2⟩:=type70S (A:=A) L ds hL hds 2 J1 (by omega) hJ1
    simp at hc2
    simp (disch:=first|omega|(simp;done)|(simp;omega)) [hc1,hc2]
    have hty':ty.size≤46656:=by omega
    refine ⟨.mk 9 0 [] 0 [x] [] ty,J2,by rw [rawE_mk];simp [rawE1,rawS,Exp.kind,Exp.pos,Exp.name,Exp.num,Exp.kids,Exp.arms,Exp.ty,hx,hty'],by rw [weight_mk];simp;omega,hJ2,?_⟩
    simp [expV,Exp.row,Ty.row_eq]
   ·obtain ⟨_,⟨x,J1,hx,hxw,hJ1,rfl⟩,hc1⟩:=ih1 J hJ
    simp (disch:=first|omega|(simp;done)|(simp;omega)) [hc1]
    refine ⟨.mk 11 0 [] 0 [x] [] tz,J1,by rw [rawE_mk];simp [rawE1,rawS,Exp.kind,Exp.pos,Exp.name,Exp.num,Exp.kids,Exp.arms,Exp.ty,hx],by rw [weight_mk];simp;omega,hJ1,?_⟩
    simp [expV,Exp.row,tz,Ty.kind,Ty.name,Ty.id,Ty.home,Ty.args]
   ·by_cases hz:ds=[]
    ·subst hz
     have hz2:dataRows []=[]:=rfl
     obtain ⟨_,⟨x,J1,hx,hxw,hJ1,rfl⟩,hc1⟩:=ih1 J hJ
     simp [datasV,hz2] at hc1
     simp (disch:=first|omega|(simp;done)|(simp;omega)) [datasV,hz2,hc1]
     exact ⟨x,J1,hx,by omega,hJ1,rfl⟩
    ·have hpos:ds.length≠0:=by have:=List.length_pos_iff.2 hz;omega
     obtain ⟨m,J1,hm,hJ1,hc1⟩:=next37 (A:=A) L J ds.length hJ hL (by omega) (by omega)
     obtain ⟨dd,hdd⟩:=get_of_lt (l:=ds) (i:=m) (by omega)
     have hgood:=hds.2 dd (List.mem_of_getElem? hdd)
     obtain ⟨hg1,hg2,hg3,hg4⟩:=hgood
     obtain ⟨hs1,hs2⟩:=h2 dd (List.mem_of_getElem? hdd)
     obtain ⟨_,⟨x,J2,hx,hxw,hJ2,rfl⟩,hc2⟩:=ih1 J1 hJ1
     simp (disch:=first|omega|(simp;done)|(simp;omega)) [hz,hc1,hdd,hc2,-getElem?_pos]
     refine wp_loopI (ArmS L ds dd x (wS d') d') dd.cons.length ⟨[],J2,rfl,hJ2,by simp,by simp⟩ ?_ ?_
     ·rintro i s hi ⟨arms,J3,harms,hJ3,hall,rfl⟩
      obtain ⟨cc,hcc⟩:=get_of_lt hi
      have hfl:=hg4 cc (List.mem_of_getElem? hcc)
      have hfl2:=hs2 cc (List.mem_of_getElem? hcc)
      unfold l22_1
      simp (disch:=first|omega|(simp;done)|(simp;omega)) [hi,hcc,harms,-getElem?_pos]
      refine wp_loopI (VarQ L ds dd x arms cc.name d' i) cc.fields.length ⟨[],J3,rfl,by simp,hJ3,by simp [harms]⟩ ?_ ?_
      ·rintro j s hj ⟨vars,J4,hvars,hvn,hJ4,rfl⟩
       obtain ⟨v,J5,hv,hJ5,hc5⟩:=variable38 (A:=A) L J4 hJ4 hL
       unfold l22_0
       simp (disch:=first|omega|(simp;done)|(simp;omega)) [hi,hj,hcc,hc5,hvars,harms,-getElem?_pos]
       refine ⟨vars++[v],J5,by simp [hvars],?_,hJ5,by simp [harms]⟩
       intro u hu
       rcases List.mem_append.1 hu with hu|hu
       ·exact hvn u hu
       ·simp only [List.mem_singleton] at hu
        exact hu▸hv
      ·rintro s ⟨vars,J4,hvars,hvn,hJ4,rfl⟩
       obtain ⟨_,⟨y,J5,hy,hyw,hJ5,rfl⟩,hc5⟩:=ih1 J4 hJ4
       unfold l22_0
       simp (disch:=first|omega|(simp;done)|(simp;omega)) [hi,hcc,hc5,hvars,harms,-getElem?_pos]
       refine ⟨arms++[(⟨0,cc.name,vars⟩,y)],J5,by simp [harms],hJ5,?_,?_⟩
       ·intro a ha
        rcases List.mem_append.1 ha with ha|ha
        ·exact hall a ha
        ·simp only [List.mem_singleton] at ha
         subst ha
         exact ⟨⟨rfl,.inr ⟨dd,List.mem_of_getElem? hdd,cc,List.mem_of_getElem? hcc,rfl⟩,by simp only;omega,hvn⟩,hy,hyw,by simp only;omega⟩
       ·simp [harms,Exp.armRows_map,wr,armRow]
     ·rintro s ⟨arms,J3,harms,hJ3,hall,rfl⟩
      unfold l22_1
      simp (disch:=first|omega|(simp;done)|(simp;omega)) [harms,-getElem?_pos]
      refine ⟨.mk 8 0 [] 0 [x] arms tz,J3,?_,?_,hJ3,?_⟩
      ·rw [rawE_mk]
       refine ⟨?_,by simp [hx],fun a ha=>(hall a ha).2.1⟩
       refine ⟨rfl,fun a ha=>(hall a ha).1,tz_size,fun _=>rfl,fun _=>rfl,?_⟩
       simp [rawS,Exp.kind,Exp.name,Exp.kids,Exp.arms]
      ·rw [weight_mk]
       have h1:(arms.map fun a=>a.1.vars.length).sum≤(arms.map fun _=>2).sum:=sum_le fun a ha=>(hall a ha).2.2.2
       have h2:(arms.map fun a=>a.2.weight).sum≤(arms.map fun _=>wS d').sum:=sum_le fun a ha=>(hall a ha).2.2.1
       simp only [List.map_const',List.sum_replicate_nat,harms] at h1 h2
       simp only [List.map_cons,List.map_nil,List.sum_cons,List.sum_nil]
       have h3:dd.cons.length*wS d'≤2*wS d':=Nat.mul_le_mul_right _ hs1
       omega
      ·simp [expV,Exp.row,tz,Ty.kind,Ty.name,Ty.id,Ty.home,Ty.args]
def MadeS (ds7:List DataD)(L:List Int)(r:V × List Obj):Prop:=∃ a b J ds,(∀ d∈ds,d∈ds7)∧goodDs ds∧rawE ds a∧a.weight≤wS 4∧rawE ds b∧b.weight≤wS 3∧J≤L.length∧r=(.tu [expV a,expV b,.sc (.ptr 0 0)],[tapeO L J])
theorem made20S {ds7:List DataD}(bits:Int)(L:List Int)(hL:L.length≤1073741824)(h2:small2 ds7)(h21:∃ r,DatasP ds7 r∧(K A).call 23 [intV bits] []=some r) :
 ∃ r,MadeS ds7 L r∧(K A).call 20 [intV bits,.sc (.c (.sl (intRows L)))] []=some r:=by
 refine fn_ofE _ (vf:=v20) (by kernel_rfl) rfl (by simp) ?_
 obtain ⟨_,⟨ds,hsub,hds,rfl⟩,hc⟩:=h21
 obtain ⟨_,⟨a,J1,ha,haw,hJ1,rfl⟩,hc1⟩:=raw22S (A:=A) L ds hL hds (fun d hd=>h2 d (hsub d hd)) 4 0 (by omega) (by omega)
 obtain ⟨_,⟨b,J2,hb,hbw,hJ2,rfl⟩,hc2⟩:=raw22S (A:=A) L ds hL hds (fun d hd=>h2 d (hsub d hd)) 3 J1 (by omega) hJ1
 simp [tapeO,intV,datasV] at hc1 hc2
 unfold v20
 simp (disch:=first|omega|(simp;done)|(simp;omega)) [hc,hc1,hc2]
 exact ⟨a,b,J2,ds,hsub,hds,ha,haw,hb,hbw,hJ2,rfl⟩
variable {A:Oracle}
variable {A:Oracle}
theorem varNames_len:∀ s∈varNames,s.length≤2:=by decide
theorem rawE.free {ds:List DataD}{e:Exp}:rawE ds e→∀ s∈freeP e,s∈varNames:=by
 induction e using Exp.ind with
 | h e ih =>
  intro h s hs
  by_cases hk:e.kind=1
  ·rw [mem_freeP_var hk] at hs
   subst hs
   obtain ⟨_,_,_,_,_,h⟩:=h.one
   rcases h with ⟨_,n,_⟩|⟨k,_⟩|⟨k,_⟩|⟨k,_⟩|⟨k,_⟩|⟨k,_⟩|⟨k,_⟩|⟨k,_⟩
   ·exact n
   all_goals (exfalso;omega)
  ·obtain ⟨i,x,hx,h1,_⟩:=(mem_freeP hk).1 hs
   exact ih x (List.mem_of_getElem? hx) (h.child (List.mem_of_getElem? hx)) s h1
def tkOk (n:Nat)(l:List Str):Prop:=l.length=n∧∀ s∈l,s.length≤2
variable {A:Oracle}
theorem subst31 (e:Exp)(x:Str)(b:Exp)(hb:shp b)(hbw:b.weight≤16777216)(hbn:nmL b)(hxl:x.length≤1000)(hl:e.weight≤16777216)(hs:shp e)(hp:properP e)(hn:nmL e) :
 (K A).call 31 [expV e,strV x,expV b] []=some (expV (subP e x b),[]):=by
 refine fn_of (vf:=v31) (by kernel_rfl) rfl (by simp) ?_
 have hfl:=freeP_len b
 have h1:=apply82 (A:=A) x b hb (by omega) (fun s hs=>hbn s (free_allP b s hs)) hxl e.weight e (Nat.le_refl _) hl hs hp hn
 have h2:=free19 (A:=A) b hb.wf (by omega)
 have hrb:=expCs_eq b
 simp only [expV,hrb] at h2
 unfold v31 subP
 simp (maxSteps:=4000000) (disch:=first|omega|(simp;done)|(simp;omega)) [hrb,h2,h1,-getElem?_pos]
theorem has33 (l:List Str)(s:Str)(h:l.length≤1073741824):(K A).call 33 [strsV l,strV s] []=some (boolV (decide (s∈l)),[]):=by
 refine fn_of (vf:=v33) (by kernel_rfl) rfl (by simp) ?_
 unfold v33
 have hp:=place_le l s
 simp (disch:=first|omega|(simp;done)|(simp;omega))
 refine wp_loop (fun i=>⟨[(0,strsV l),(1,strV s),(5,intV i)],[]⟩) (place l s) ?_ ?_ ?_
 ·simp
 ·intro i hi
  obtain ⟨x,hx,hne⟩:=place_lt hi
  have hlt:i<l.length:=by omega
  unfold l33_0
  simp (disch:=first|omega|(simp;done)|(simp;omega)) [hx,hne,hlt,-getElem?_pos]
 ·unfold l33_0
  by_cases hm:place l s<l.length
  ·have hx:=place_at hm
   have hmem:=place_mem.1 hm
   simp (disch:=first|omega|(simp;done)|(simp;omega)) [hx,hm,hmem,-getElem?_pos]
  ·have hn:s∉l:=fun h=>hm (place_mem.2 h)
   simp (disch:=first|omega|(simp;done)|(simp;omega)) [hm,hn,-getElem?_pos]
def ImpB (P:Prop)(r:V × List Obj):Prop:=∃ v:Bool,(v=true→P)∧r=(boolV v,[])
theorem proper17x (e:Exp):e.weight≤1073741824→∃ r,ImpB (properP e) r∧(K A).call 21 [expV e] []=some r:=by
 induction e using Exp.ind with
 | h e ih =>
 intro hl
 refine fn_ofE _ (vf:=v21) (by kernel_rfl) rfl (by simp) ?_
 have hle:=e.children_le
 rw [e.children_len] at hle
 have hc:=children50 (A:=A) e (by omega)
 have no:ImpB (properP e) (boolV false,[]):=⟨false,(by simp),rfl⟩
 have yes:(∀ a∈e.arms,inj a.1.vars)→(∀ x∈e.children,properP x)→ImpB (properP e) (boolV true,[]):=fun h1 h2=>⟨true,fun _=>by rw [properP_eq];exact ⟨h1,h2⟩,rfl⟩
 generalize properP e=P at no yes ⊢
 unfold v21
 simp (disch:=first|omega|(simp;done)|(simp;omega))
 refine wp_loopI (fun i s=>(∀ (j:Nat) a,j<i→e.arms[j]?=some a→inj a.1.vars)∧s=⟨[(1,.sc (.ptr 64 0)),(3,intV i)],[(64,some (.box (wc e.row)))]⟩) e.arms.length ⟨by omega,by simp⟩ ?_ ?_
 ·rintro i s hi ⟨hJ,rfl⟩
  obtain ⟨a,ha⟩:=get_of_lt hi
  have hv:=Exp.vars_le (List.mem_of_getElem? ha)
  unfold l21_2
  simp (disch:=first|omega|(simp;done)|(simp;omega)) [hi,ha,-getElem?_pos]
  refine wp_loopI (fun k s=>(∀ (p q:Nat) u,q<k→p<q→a.1.vars[p]?=some u→a.1.vars[q]?=some u→False)∧s=⟨[(1,.sc (.ptr 64 0)),(3,intV i),(4,strsV a.1.vars),(5,intV k)],[(64,some (.box (wc e.row)))]⟩) a.1.vars.length ⟨fun p q u h=>by omega,by simp⟩ ?_ ?_
  ·rintro k s hk ⟨hK,rfl⟩
   obtain ⟨x,hx⟩:=get_of_lt hk
   unfold l21_1
   simp (disch:=first|omega|(simp;done)|(simp;omega)) [hi,ha,hk,-getElem?_pos]
   refine wp_loopI (fun j s=>(∀ (p:Nat),p<j→a.1.vars[p]?≠some x)∧s=⟨[(1,.sc (.ptr 64 0)),(3,intV i),(4,strsV a.1.vars),(5,intV k),(6,intV j)],[(64,some (.box (wc e.row)))]⟩) k ⟨fun p h=>by omega,by simp⟩ ?_ ?_
   ·rintro j s hj ⟨hQ,rfl⟩
    obtain ⟨y,hy⟩:=get_of_lt (l:=a.1.vars) (i:=j) (by omega)
    unfold l21_0
    by_cases hxy:y=x
    ·simp (disch:=first|omega|(simp;done)|(simp;omega)) [hj,hx,hy,hxy,-getElem?_pos]
     exact no
    ·have hQ':∀ (p:Nat),p<j+1→a.1.vars[p]?≠some x:=by
      intro p hp
      rcases Nat.lt_or_eq_of_le (Nat.le_of_lt_succ hp) with h|rfl
      ·exact hQ p h
      ·rw [hy]
       exact fun q=>hxy (Option.some.inj q)
     simp (disch:=first|omega|(simp;done)|(simp;omega)) [hj,hx,hy,hxy,-getElem?_pos]
     simpa using hQ'
   ·rintro s ⟨hQ,rfl⟩
    have hK':∀ (p q:Nat) u,q<k+1→p<q→a.1.vars[p]?=some u→a.1.vars[q]?=some u→False:=by
     intro p q u hq hpq h1 h2
     rcases Nat.lt_or_eq_of_le (Nat.le_of_lt_succ hq) with h|rfl
     ·exact hK p q u h hpq h1 h2
     ·rw [hx] at h2
      cases h2
      exact hQ p hpq h1
    unfold l21_0
    simp (disch:=first|omega|(simp;done)|(simp;omega))
    exact hK'
  ·rintro s ⟨hK,rfl⟩
   have hJ':∀ (j:Nat) b,j<i+1→e.arms[j]?=some b→inj b.1.vars:=by
    intro j b hj hb
    rcases Nat.lt_or_eq_of_le (Nat.le_of_lt_succ hj) with h|rfl
    ·exact hJ j b h hb
    ·rw [ha] at hb
     cases hb
     intro p q u hp hq
     rcases Nat.lt_trichotomy p q with h|h|h
     ·exact (hK p q u (List.getElem?_eq_some_iff.1 hq).1 h hp hq).elim
     ·exact h
     ·exact (hK q p u (List.getElem?_eq_some_iff.1 hp).1 h hq hp).elim
   unfold l21_1
   simp (disch:=first|omega|(simp;done)|(simp;omega))
   intro j b1 b2 hj hb
   exact hJ' j (b1,b2) hj hb
 ·rintro s ⟨hJ,rfl⟩
  have hA:∀ a∈e.arms,inj a.1.vars:=fun a ha=>by
   obtain ⟨j,hj⟩:=List.mem_iff_getElem?.1 ha
   exact hJ j a (List.getElem?_eq_some_iff.1 hj).1 hj
  unfold l21_2
  simp (disch:=first|omega|(simp;done)|(simp;omega)) [hc]
  refine wp_loopI (fun i s=>(∀ (j:Nat) x,j<i→e.children[j]?=some x→properP x)∧s=⟨[(7,.sc (.arr 2912 e.children.length)),(8,intV i)],[(2912,some (.arr 11 (wr (Exp.rows e.children)) 0))]⟩) e.children.length ⟨by omega,by simp⟩ ?_ ?_
  ·rintro i s hi ⟨hX,rfl⟩
   obtain ⟨x,hx⟩:=get_of_lt hi
   have hmem:=List.mem_of_getElem? hx
   obtain ⟨_,⟨b,hb,rfl⟩,h17⟩:=ih x hmem (by have:=Exp.child_lt hmem;omega)
   rw [e.children_len] at hi
   have hi':(i:Int)<(e.kids.length:Int)+e.arms.length:=by omega
   unfold l21_3
   cases b with
   | true =>
    simp (disch:=first|omega|(simp;done)|(simp;omega)) [hi',hx,h17,-getElem?_pos]
    intro j y hj hy
    rcases Nat.lt_or_eq_of_le (Nat.le_of_lt_succ hj) with h|rfl
    ·exact hX j y h hy
    ·rw [hx] at hy
     cases hy
     exact hb rfl
   | false =>
    simp (disch:=first|omega|(simp;done)|(simp;omega)) [hi',hx,h17,-getElem?_pos]
    exact no
  ·rintro s ⟨hX,rfl⟩
   unfold l21_3
   simp (disch:=first|omega|(simp;done)|(simp;omega))
   exact yes hA fun x hx=>by
    obtain ⟨j,hj⟩:=List.mem_iff_getElem?.1 hx
    exact hX j x (List.getElem?_eq_some_iff.1 hj).1 hj
theorem rawE.nmL {ds:List DataD}(hc:conNames ds){e:Exp}:rawE ds e→nmL e:=by
 have hcok:∀ s,cOk ds s→s.length≤1000:=by
  rintro s (rfl|⟨d,hd,c,hcc,rfl⟩)
  ·decide
  ·have:=(hc d hd c hcc).1
   omega
 induction e using Exp.ind with
 | h e ih =>
  intro h s hs
  rcases mem_allP.1 hs with h1|⟨i,x,hx,h1⟩
  ·obtain ⟨_,_,_,_,_,hS⟩:=h.one
   rcases hS with ⟨_,n,_⟩|⟨_,n,_⟩|⟨_,n,_⟩|⟨_,n,_⟩|⟨_,n,_⟩|⟨_,n,_⟩|⟨_,n,_⟩|⟨_,n,_⟩
   ·have:=varNames_len _ n;rw [h1];omega
   ·rw [h1];exact hcok _ n
   ·rw [h1,n];decide
   ·have:=varNames_len _ n;rw [h1];omega
   ·rw [h1,n];decide
   ·have:=varNames_len _ n;rw [h1];omega
   ·rw [h1,n];decide
   ·rw [h1,n];decide
  ·rcases h1 with h1|h1
   ·rw [bound_some] at h1
    split at h1
    ·rename_i hk
     obtain ⟨_,_,_,_,_,hS⟩:=h.one
     rw [List.mem_singleton] at h1
     have:e.name∈varNames:=by
      rcases hS with ⟨k,n,_⟩|⟨k,n,_⟩|⟨k,n,_⟩|⟨k,n,_⟩|⟨k,n,_⟩|⟨k,n,_⟩|⟨k,n,_⟩|⟨k,n,_⟩
      all_goals first | exact n | (exfalso;omega)
     have:=varNames_len _ this
     rw [h1]
     omega
    ·split at h1
     ·cases ha:e.arms[i-1]? with
      | none=>rw [ha] at h1;simp at h1
      | some a =>
       rw [ha] at h1
       have:=varNames_len _ ((h.one.2.1 a (List.mem_of_getElem? ha)).2.2.2 s h1)
       omega
     ·simp at h1
   ·exact ih x (List.mem_of_getElem? hx) (h.child (List.mem_of_getElem? hx)) s h1
variable {A:Oracle}
theorem instR.tyBd (a:Exp):∀ (c:Exp) (V:Rep),instR a c V→tyBd a→(∀ s d,V s d→tyBd d)→tyBd c:=by
 induction a using Exp.ind with
 | h a ih =>
  intro c V h ht hv
  by_cases hk:a.kind=1
  ·exact hv _ _ (h.var hk)
  ·obtain ⟨h1,h2,h3,h4⟩:=h.node hk
   rw [tyBd_eq]
   refine ⟨h1.2.2.1▸ht.one,fun y hy => ?_⟩
   obtain ⟨i,hi⟩:=List.mem_iff_getElem?.1 hy
   obtain ⟨x,hx⟩:=get_of_lt (l:=a.children) (i:=i) (by rw [h1.children];exact (List.getElem?_eq_some_iff.1 hi).1)
   refine ih x (List.mem_of_getElem? hx) y _ (h4 i x y hx hi) (ht.child (List.mem_of_getElem? hx)) fun s d hd => ?_
   rcases hd with ⟨_,t,_,_,hvv⟩|⟨_,q,_⟩
   ·obtain ⟨_,_,_,ty,ks,am⟩:=hvv
    rw [tyBd_eq,ty]
    refine ⟨by decide,fun z hz => ?_⟩
    simp [Exp.children,ks,am] at hz
   ·exact hv s d q
def names5:List Str:=[[120],[121],[122],[102],[118,49]]
theorem names5_len:∀ s∈names5,s.length≤2:=by decide
theorem rows5 {k:Nat}{s:Str}(h:names5[k]?=some s):([[W.c (.str [120])],[W.c (.str [121])],[W.c (.str [122])],[W.c (.str [102])],[W.c (.str [118,49])]]:List (List W))[k]?=some [W.c (.str s)]:=by
 have hk:k<5:=(List.getElem?_eq_some_iff.1 h).1
 rcases (by omega:k=0∨k=1∨k=2∨k=3∨k=4) with rfl|rfl|rfl|rfl|rfl<;>(cases h;rfl)
theorem lawSubstFree (bits:Int)(L:List Int)(n:Int)(ds7:List DataD)(h7:ds7.length=7)(hg:∀ d∈ds7,goodD d)(hc7:conNames ds7)(h27:small2 ds7)(h55:(K A).call 71 [] []=some (datasV ds7,[]))(hf:(K A).call 19 [] []=some (boolV true,[])) :
 (K A).call 7 [intV bits,.sc (.c (.sl (intRows L))),intV n] []=some (boolV true,[]):=by
 refine fn_of (vf:=v7) (by kernel_rfl) rfl (by simp) ?_
 have h8:(K A).call 13 [.sc (.c (.sl (intRows L)))] []=some (boolV (decide (L.length≤60)),[]):=few8 L
 unfold v7
 by_cases hL:L.length≤60
 case neg=>simp (disch:=first|omega|(simp;done)|(simp;omega)) [hf,h8,hL]
 have hw4:wS 4=281:=rfl
 have hw3:wS 3=92:=rfl
 obtain ⟨_,⟨a,b,J,ds,hsub,_,ha,haw,hb,hbw,hJ,rfl⟩,hm⟩:=made20S (A:=A) bits L (by omega) h27 (datas21 bits ds7 h7 hg h55)
 have hcn:conNames ds:=fun d hd=>hc7 d (hsub d hd)
 obtain ⟨_,⟨va,hva,rfl⟩,hpa⟩:=proper17x (A:=A) a (by omega)
 obtain ⟨_,⟨vb,hvb,rfl⟩,hpb⟩:=proper17x (A:=A) b (by omega)
 obtain ⟨k,hk,hmk⟩:=mod10 (A:=A) n 5 (by omega) (by omega)
 have hk5:k<5:=by omega
 obtain ⟨s,hs5⟩:=get_of_lt (l:=names5) (i:=k) hk5
 have hsl:=names5_len s (List.mem_of_getElem? hs5)
 have hr5:=rows5 hs5
 cases va with
 | false=>simp (maxSteps:=4000000) (disch:=first|omega|(simp;done)|(simp;omega)) [hf,h8,hL,hm,hpa,-getElem?_pos]
 | true =>
  cases vb with
  | false=>simp (maxSteps:=4000000) (disch:=first|omega|(simp;done)|(simp;omega)) [hf,h8,hL,hm,hpa,hpb,-getElem?_pos]
  | true =>
   have pa:=hva rfl
   have pb:=hvb rfl
   have sa:=ha.shp
   have sb:=hb.shp
   have c1:=subst31 (A:=A) a s b sb (by omega) (hb.nmL hcn) (by omega) (by omega) sa pa (ha.nmL hcn)
   have hfree:=fun u=>sub_free (x:=s) sb sa pa u
   have wsub:=sub_weight s b a.weight a (Nat.le_refl _) sa pa
   have wle:a.weight*b.weight≤281*92:=Nat.mul_le_mul (by omega) (by omega)
   have ssub:=sub_shp s b sb a.weight a (Nat.le_refl _) sa pa
   have c2:=free19 (A:=A) (subP a s b) ssub.wf (by unfold subP;omega)
   have c3:=free20 (A:=A) a ha.wf (by omega)
   have c4:=free20 (A:=A) b hb.wf (by omega)
   rw [free_same a ha.wf] at c3
   rw [free_same b hb.wf] at c4
   have l1:(freeP (subP a s b)).length≤1000000:=by have:=freeP_len (subP a s b);unfold subP at *;omega
   have l2:(freeP a).length≤1000000:=by have:=freeP_len a;omega
   have l3:(freeP b).length≤1000000:=by have:=freeP_len b;omega
   generalize subP a s b=ab at *
   generalize freeP ab=X at *
   generalize freeP a=P at *
   generalize freeP b=Q at *
   have hasX:=fun u=>has33 (A:=A) X u (by omega)
   have hasP:=fun u=>has33 (A:=A) P u (by omega)
   have hasQ:=fun u=>has33 (A:=A) Q u (by omega)
   clear wsub ssub hva hvb
   simp (maxSteps:=4000000) (disch:=first|omega|(simp;done)|(simp;omega)) [hf,h8,hL,hm,hpa,hpb,hmk,hr5,c1,c2,c3,c4,hasP,-getElem?_pos]
   refine wp_loopI (fun i st=>st=⟨[(10,strV s),(11,strsV X),(12,strsV P),(13,strsV Q),(14,boolV (decide (s∈P))),(15,intV i)],[(736,some (tapeO L J))]⟩) X.length (by simp) ?_ ?_
   ·rintro i st hi rfl
    obtain ⟨u,hu⟩:=get_of_lt hi
    have hx:=(hfree u).1 (List.mem_of_getElem? hu)
    have hi2:(i:Int)<X.length:=by omega
    unfold l7_0
    by_cases q1:u∈P
    ·by_cases q2:u=s
     ·subst q2
      rcases hx with ⟨_,h⟩|⟨h1,h2⟩
      ·exact absurd rfl h
      ·simp (maxSteps:=4000000) (disch:=first|omega|(simp;done)|(simp;omega)) [hi,hi2,hu,hasP,hasQ,q1,h1,h2,-getElem?_pos]
     ·simp (maxSteps:=4000000) (disch:=first|omega|(simp;done)|(simp;omega)) [hi,hi2,hu,hasP,hasQ,q1,q2,-getElem?_pos]
    ·rcases hx with ⟨h,_⟩|⟨h1,h2⟩
     ·exact absurd h q1
     ·simp (maxSteps:=4000000) (disch:=first|omega|(simp;done)|(simp;omega)) [hi,hi2,hu,hasP,hasQ,q1,h1,h2,-getElem?_pos]
   ·rintro st rfl
    unfold l7_0
    simp (maxSteps:=4000000) (disch:=first|omega|(simp;done)|(simp;omega)) [-getElem?_pos]
    refine wp_loopI (fun i st=>st=⟨[(10,strV s),(11,strsV X),(12,strsV P),(13,strsV Q),(14,boolV (decide (s∈P))),(16,intV i)],[(736,some (tapeO L J))]⟩) P.length (by simp) ?_ ?_
    ·rintro i st hi rfl
     obtain ⟨u,hu⟩:=get_of_lt hi
     have hup:=List.mem_of_getElem? hu
     have hi2:(i:Int)<P.length:=by omega
     unfold l7_1
     by_cases q2:u=s
     ·simp (maxSteps:=4000000) (disch:=first|omega|(simp;done)|(simp;omega)) [hi,hi2,hu,q2,-getElem?_pos]
     ·have hx:=(hfree u).2 (.inl ⟨hup,q2⟩)
      simp (maxSteps:=4000000) (disch:=first|omega|(simp;done)|(simp;omega)) [hi,hi2,hu,q2,hasX,hx,-getElem?_pos]
    ·rintro st rfl
     unfold l7_1
     simp (maxSteps:=4000000) (disch:=first|omega|(simp;done)|(simp;omega)) [-getElem?_pos]
     by_cases hin:s∈P
     ·refine wp_loopI (fun i st=>st=⟨[(11,strsV X),(13,strsV Q),(14,boolV (decide (s∈P))),(17,intV i)],[(736,some (tapeO L J))]⟩) Q.length (by simp) ?_ ?_
      ·rintro i st hi rfl
       obtain ⟨u,hu⟩:=get_of_lt hi
       have hx:=(hfree u).2 (.inr ⟨hin,List.mem_of_getElem? hu⟩)
       have hi2:(i:Int)<Q.length:=by omega
       unfold l7_2
       simp (maxSteps:=4000000) (disch:=first|omega|(simp;done)|(simp;omega)) [hi,hi2,hin,hu,hasX,hx,-getElem?_pos]
      ·rintro st rfl
       unfold l7_2
       simp (maxSteps:=4000000) (disch:=first|omega|(simp;done)|(simp;omega)) [hin,-getElem?_pos]
     ·refine wp_loopI (fun i st=>st=⟨[(11,strsV X),(13,strsV Q),(14,boolV (decide (s∈P))),(17,intV i)],[(736,some (tapeO L J))]⟩) 0 (by simp) (fun i st h=>by omega) ?_
      rintro st rfl
      unfold l7_2
      by_cases hQ0:0<Q.length
      ·simp (maxSteps:=4000000) (disch:=first|omega|(simp;done)|(simp;omega)) [hin,hQ0,-getElem?_pos]
      ·simp (maxSteps:=4000000) (disch:=first|omega|(simp;done)|(simp;omega)) [hin,hQ0,-getElem?_pos]
variable {A:Oracle}
theorem con7f:conNames ds7:=by
 intro d hd c hc
 simp only [ds7,List.mem_cons,List.not_mem_nil,or_false] at hd
 rcases hd with rfl|rfl|rfl|rfl|rfl|rfl|rfl<;>simp only [List.mem_cons,List.not_mem_nil,or_false] at hc
 ·rcases hc with rfl|rfl<;>exact ⟨by decide,⟨_,rfl,by decide,by decide⟩,by decide,by decide⟩
 ·rcases hc with rfl|rfl<;>exact ⟨by decide,⟨_,rfl,by decide,by decide⟩,by decide,by decide⟩
 ·rcases hc with rfl|rfl<;>exact ⟨by decide,⟨_,rfl,by decide,by decide⟩,by decide,by decide⟩
 ·rcases hc with rfl<;>exact ⟨by decide,⟨_,rfl,by decide,by decide⟩,by decide,by decide⟩
 ·rcases hc with rfl|rfl<;>exact ⟨by decide,⟨_,rfl,by decide,by decide⟩,by decide,by decide⟩
 ·rcases hc with rfl<;>exact ⟨by decide,⟨_,rfl,by decide,by decide⟩,by decide,by decide⟩
 ·rcases hc with rfl|rfl<;>exact ⟨by decide,⟨_,rfl,by decide,by decide⟩,by decide,by decide⟩
theorem small7:small2 ds7:=by
 intro d hd
 simp only [ds7,List.mem_cons,List.not_mem_nil,or_false] at hd
 rcases hd with rfl|rfl|rfl|rfl|rfl|rfl|rfl<;>exact ⟨by decide,by decide⟩
theorem lawSubstFreeC (bits:Int)(L:List Int)(n:Int)(d7:List DataD)(_:d7.length=7)(_:∀ d∈d7,goodD d)(h55:(K A).call 71 [] []=some (datasV ds7,[]))(hf:(K A).call 19 [] []=some (boolV true,[])) :
 (K A).call 7 [intV bits,.sc (.c (.sl (intRows L))),intV n] []=some (boolV true,[]):=lawSubstFree bits L n ds7 rfl good7 con7f small7 h55 hf
end Go.Vs.Tryz
