/- Raw expressions, walked: their weights more exactly, for declarations of at most two constructors with at most two fields. (Parts of one proof, put together.) -/
import Derived.Test.YtlcncicmkkelcaaGreatDoorR6a
import Derived.Test.YtlcncicmkkelcaaGreatDoorR5a
import Derived.Test.YtlcncicmkkelcaaGreatDoorR3a
import Derived.Test.YtlcncicmkkelcaaGreatDoorRFa
import Derived.Test.YtlcncicmkkelcaaGreatDoorRIa
set_option linter.unusedSimpArgs false
set_option linter.unusedVariables false
set_option linter.deprecated false
set_option maxHeartbeats 8000000
namespace Go.Vs.Tryz
open Go Go.Vs
variable {A:Zac}
def Zly (ds:List DataD):Prop:=∀ d∈ds,d.cons.length≤2∧∀ c∈d.cons,c.fields.length≤2
def wS:Nat→Nat
 | 0=>1
 | d+1=>3*wS d+5
theorem ZoQ:∀ d,1≤wS d
 | 0=>Nat.le_refl _
 | d+1=>by have:=ZoQ d;simp only [wS];omega
def RawS (L:List Int)(ds:List DataD)(B:Nat)(r:V × List Obj):Prop:=∃ e J,rawE ds e∧e.weight≤B∧J≤L.length∧r=(expV e,[Zbi L J])
def ArmS (L:List Int)(ds:List DataD)(dd:DataD)(x:Exp)(B d i:Nat)(s:St):Prop:=∃ arms J,arms.length=i∧J≤L.length∧(∀ a∈arms,armE ds a∧rawE ds a.2∧a.2.weight≤B∧a.1.vars.length≤2) ∧
 s=⟨[(0,.sc (.ptr 0 0)),(1,ZaS ds),(2,intV (d+1)),(6,.sc (.ptr 64 0)),(13,.sc (.ptr 10176 0)),(14,.sc (.ptr 10752 0)),(15,intV i)],
  [(0,some (Zbi L J)),(64,some (.box [zi,zi,zs,zi,.nil,.nil,zi,zs,zi,zi,.nil])),(10176,some (.box (wc (ZaJ dd)))),(10624,some (.arr 11 [wc x.row] 0)),
    (10752,some (.box [.c (.int .i64 8),zi,zs,zi,.arr 10624 1,.arr 10822 i,zi,zs,zi,zi,.nil])),(10822,some (.arr 14 (wr (Exp.armRows arms)) 0))]⟩
theorem ZoT (L:List Int)(ds:List DataD)(hL:L.length≤1073741824)(hds:ZhC ds)(h2:Zly ds):∀ (d I:Nat),d≤4→I≤L.length →
 ∃ r,RawS L ds (wS d) r∧(K A).call 22 [.sc (.ptr 0 0),ZaS ds,intV d] [Zbi L I]=some r:=by
 intro d
 induction d using Nat.strongRecOn with
 | ind d ih =>
 intro I hd hI;obtain ⟨k,J,hk,hJ,hc⟩:=ZeA (A:=A) L I 14 hI hL (by omega) (by omega);refine ZcD _ (vf:=v22) (by kernel_rfl) rfl (by simp) ?_;have hp:1≤wS d:=ZoQ d;have hds1:=hds.1
 obtain ⟨c,hc14,hcd,hcs⟩:∃ c:Nat,c<14∧(d=0→c<5)∧((d=0∧(k:Int).tmod 5=c)∨(d≠0∧k=c)):=by
  by_cases h:d=0
  ·refine ⟨k % 5,by omega,fun _=>by omega,.inl ⟨h,rfl⟩⟩
  ·exact ⟨k,by omega,fun h'=>absurd h' h,.inr ⟨h,rfl⟩⟩
 unfold v22;refine ZfQ ⟨[(0,.sc (.ptr 0 0)),(1,ZaS ds),(2,intV d),(6,.sc (.ptr 64 0))],[(0,some (Zbi L I)),(64,some (.box [zi,zi,zs,zi,.nil,.nil,zi,zs,zi,zi,.nil]))]⟩ (by simp) ?_;refine ZfQ ⟨[(0,.sc (.ptr 0 0)),(1,ZaS ds),(2,intV d),(6,.sc (.ptr 64 0)),(7,intV k)],[(0,some (Zbi L J)),(64,some (.box [zi,zi,zs,zi,.nil,.nil,zi,zs,zi,zi,.nil]))]⟩ (by simp [hc]) ?_
 refine ZsF (fun s=>s=⟨[(0,.sc (.ptr 0 0)),(1,ZaS ds),(2,intV d),(6,.sc (.ptr 64 0)),(7,intV c)],[(0,some (Zbi L J)),(64,some (.box [zi,zi,zs,zi,.nil,.nil,zi,zs,zi,zi,.nil]))]⟩ ∨
  s=⟨[(0,.sc (.ptr 0 0)),(1,ZaS ds),(2,intV d),(6,.sc (.ptr 64 0)),(7,intV c),(21,Zah false)],[(0,some (Zbi L J)),(64,some (.box [zi,zi,zs,zi,.nil,.nil,zi,zs,zi,zi,.nil]))]⟩) ?_ ?_
 ·rcases hcs with ⟨h0,h1⟩|⟨h0,rfl⟩
  ·subst h0;simp (disch:=first|omega|(simp;done)|(simp;omega)) [h1]
  ·have h0':¬(d:Int)<1:=by omega
   simp (disch:=first|omega|(simp;done)|(simp;omega)) [h0']
 ·intro s hs;refine ZoE ⟨[(0,.sc (.ptr 0 0)),(1,ZaS ds),(2,intV d),(6,.sc (.ptr 64 0)),(24,intV c)],[(0,some (Zbi L J)),(64,some (.box [zi,zi,zs,zi,.nil,.nil,zi,zs,zi,zi,.nil]))]⟩ (by rcases hs with rfl | rfl<;>simp) ?_;clear hs s hcs hc hk
  have leaf:∀ (kind num:Int) (name:Str) (J:Nat),J≤L.length→rawE1 ds (.mk kind 0 name num [] [] tz)→RawS L ds (wS d) (expV (.mk kind 0 name num [] [] tz),[Zbi L J]):=by
   intro kind num name J hJ h8;refine ⟨_,J,?_,?_,hJ,rfl⟩
   ·rw [Zdb];exact ⟨h8,by simp,by simp⟩
   ·rw [ZbK];simpa using hp
  by_cases h5:c<5
  ·have:c=0∨c=1∨c=2∨c=3∨c=4:=by omega
   rcases this with rfl|rfl|rfl|rfl|rfl
   ·obtain ⟨s,J1,hs,hJ1,hc1⟩:=ZcI (A:=A) L J hJ hL;simp (disch:=first|omega|(simp;done)|(simp;omega)) [hc1];exact leaf 1 0 s J1 hJ1 (by simp [rawE1,rawS,Exp.kind,Exp.pos,Exp.name,Exp.num,Exp.kids,Exp.arms,Exp.ty,hs])
   ·obtain ⟨s,J1,hs,hJ1,hc1⟩:=ZcI (A:=A) L J hJ hL;simp (disch:=first|omega|(simp;done)|(simp;omega)) [hc1];exact leaf 1 0 s J1 hJ1 (by simp [rawE1,rawS,Exp.kind,Exp.pos,Exp.name,Exp.num,Exp.kids,Exp.arms,Exp.ty,hs])
   ·obtain ⟨n,J1,_,hJ1,hc1⟩:=ZeA (A:=A) L J 4 hJ hL (by omega) (by omega);simp (disch:=first|omega|(simp;done)|(simp;omega)) [hc1];exact leaf 3 n [] J1 hJ1 (by simp [rawE1,rawS,Exp.kind,Exp.pos,Exp.name,Exp.num,Exp.kids,Exp.arms,Exp.ty])
   ·by_cases hz:ds=[]
    ·subst hz;have hz2:Zax []=[]:=rfl;simp (disch:=first|omega|(simp;done)|(simp;omega)) [hz2];exact leaf 2 0 [71,111,110,101] J hJ (by simp [rawE1,rawS,Exp.kind,Exp.pos,Exp.name,Exp.num,Exp.kids,Exp.arms,Exp.ty,cOk])
    ·have hpos:0<ds.length:=List.length_pos_iff.2 hz;obtain ⟨m,J1,hm,hJ1,hc1⟩:=ZeA (A:=A) L J ds.length hJ hL (by omega) (by omega);obtain ⟨dd,hdd⟩:=Zaa (l:=ds) (i:=m) (by omega);have hgood:=hds.2 dd (List.mem_of_getElem? hdd);obtain ⟨q,J2,hq,hJ2,hc2⟩:=ZeA (A:=A) L J1 dd.cons.length hJ1 hL (by have:=hgood.2.1;omega) (by have:=hgood.2.2.1;omega);obtain ⟨cc,hcc⟩:=Zaa (l:=dd.cons) (i:=q) (by omega);simp (disch:=first|omega|(simp;done)|(simp;omega)) [hpos,hc1,hdd,hc2,hcc,-getElem?_pos];have hcok:cOk ds cc.name:=.inr ⟨dd,List.mem_of_getElem? hdd,cc,List.mem_of_getElem? hcc,rfl⟩;exact leaf 2 0 cc.name J2 hJ2 (by simp [rawE1,rawS,Exp.kind,Exp.pos,Exp.name,Exp.num,Exp.kids,Exp.arms,Exp.ty,hcok])
   ·simp (disch:=first|omega|(simp;done)|(simp;omega));exact leaf 10 0 [] J hJ (by simp [rawE1,rawS,Exp.kind,Exp.pos,Exp.name,Exp.num,Exp.kids,Exp.arms,Exp.ty])
  ·obtain ⟨d',rfl⟩:∃ d',d=d'+1:=⟨d-1,by omega⟩;have ih1:∀ I,I≤L.length→∃ r,RawS L ds (wS d') r∧(K A).call 22 [.sc (.ptr 0 0),ZaS ds,intV d'] [Zbi L I]=some r:=fun I hI=>ih d' (by omega) I (by omega) hI;have hp':=ZoQ d';have h32:wS (d'+1)=3*wS d'+5:=rfl;rw [h32]
   have:c=5∨c=6∨c=7∨c=8∨c=9∨c=10∨c=11∨c=12∨c=13:=by omega
   rcases this with rfl|rfl|rfl|rfl|rfl|rfl|rfl|rfl|rfl
   ·obtain ⟨s,J1,hs,hJ1,hc1⟩:=ZcI (A:=A) L J hJ hL;obtain ⟨_,⟨x,J2,hx,hxw,hJ2,rfl⟩,hc2⟩:=ih1 J1 hJ1;simp (disch:=first|omega|(simp;done)|(simp;omega)) [hc1,hc2];refine ⟨.mk 4 0 s 0 [x] [] tz,J2,by rw [Zdb];simp [rawE1,rawS,Exp.kind,Exp.pos,Exp.name,Exp.num,Exp.kids,Exp.arms,Exp.ty,hx,hs],by rw [ZbK];simp;omega,hJ2,?_⟩;simp [expV,Exp.row,tz,Ty.kind,Ty.name,Ty.id,Ty.home,Ty.args]
   ·obtain ⟨s,J1,hs,hJ1,hc1⟩:=ZcI (A:=A) L J hJ hL;obtain ⟨_,⟨x,J2,hx,hxw,hJ2,rfl⟩,hc2⟩:=ih1 J1 hJ1;simp (disch:=first|omega|(simp;done)|(simp;omega)) [hc1,hc2];refine ⟨.mk 4 0 s 0 [x] [] tz,J2,by rw [Zdb];simp [rawE1,rawS,Exp.kind,Exp.pos,Exp.name,Exp.num,Exp.kids,Exp.arms,Exp.ty,hx,hs],by rw [ZbK];simp;omega,hJ2,?_⟩;simp [expV,Exp.row,tz,Ty.kind,Ty.name,Ty.id,Ty.home,Ty.args]
   ·obtain ⟨_,⟨x,J1,hx,hxw,hJ1,rfl⟩,hc1⟩:=ih1 J hJ;obtain ⟨_,⟨y,J2,hy,hyw,hJ2,rfl⟩,hc2⟩:=ih1 J1 hJ1;simp (disch:=first|omega|(simp;done)|(simp;omega)) [hc1,hc2];refine ⟨.mk 5 0 [] 0 [x,y] [] tz,J2,by rw [Zdb];simp [rawE1,rawS,Exp.kind,Exp.pos,Exp.name,Exp.num,Exp.kids,Exp.arms,Exp.ty,hx,hy],by rw [ZbK];simp;omega,hJ2,?_⟩;simp [expV,Exp.row,tz,Ty.kind,Ty.name,Ty.id,Ty.home,Ty.args]
   ·obtain ⟨_,⟨x,J1,hx,hxw,hJ1,rfl⟩,hc1⟩:=ih1 J hJ;obtain ⟨_,⟨y,J2,hy,hyw,hJ2,rfl⟩,hc2⟩:=ih1 J1 hJ1;simp (disch:=first|omega|(simp;done)|(simp;omega)) [hc1,hc2];refine ⟨.mk 5 0 [] 0 [x,y] [] tz,J2,by rw [Zdb];simp [rawE1,rawS,Exp.kind,Exp.pos,Exp.name,Exp.num,Exp.kids,Exp.arms,Exp.ty,hx,hy],by rw [ZbK];simp;omega,hJ2,?_⟩;simp [expV,Exp.row,tz,Ty.kind,Ty.name,Ty.id,Ty.home,Ty.args]
   ·obtain ⟨_,⟨x,J1,hx,hxw,hJ1,rfl⟩,hc1⟩:=ih1 J hJ;obtain ⟨_,⟨y,J2,hy,hyw,hJ2,rfl⟩,hc2⟩:=ih1 J1 hJ1;simp (disch:=first|omega|(simp;done)|(simp;omega)) [hc1,hc2];refine ⟨.mk 5 0 [] 0 [x,y] [] tz,J2,by rw [Zdb];simp [rawE1,rawS,Exp.kind,Exp.pos,Exp.name,Exp.num,Exp.kids,Exp.arms,Exp.ty,hx,hy],by rw [ZbK];simp;omega,hJ2,?_⟩;simp [expV,Exp.row,tz,Ty.kind,Ty.name,Ty.id,Ty.home,Ty.args]
   ·obtain ⟨n,J0,hn,hJ0,hc0⟩:=ZeA (A:=A) L J 2 hJ hL (by omega) (by omega);obtain ⟨s,J1,hs,hJ1,hc1⟩:=ZcI (A:=A) L J0 hJ0 hL;obtain ⟨_,⟨x,J2,hx,hxw,hJ2,rfl⟩,hc2⟩:=ih1 J1 hJ1;obtain ⟨_,⟨y,J3,hy,hyw,hJ3,rfl⟩,hc3⟩:=ih1 J2 hJ2;simp (disch:=first|omega|(simp;done)|(simp;omega)) [hc0,hc1,hc2,hc3];refine ⟨.mk (6+n) 0 s 0 [x,y] [] tz,J3,by rw [Zdb];simp [rawE1,rawS,Exp.kind,Exp.pos,Exp.name,Exp.num,Exp.kids,Exp.arms,Exp.ty,hx,hy,hs];omega,by rw [ZbK];simp;omega,hJ3,?_⟩;simp [expV,Exp.row,tz,Ty.kind,Ty.name,Ty.id,Ty.home,Ty.args]
   ·obtain ⟨_,⟨x,J1,hx,hxw,hJ1,rfl⟩,hc1⟩:=ih1 J hJ;obtain ⟨_,⟨ty,J2,hty,hJ2,rfl⟩,hc2⟩:=ZrP (A:=A) L ds hL hds 2 J1 (by omega) hJ1;simp at hc2;simp (disch:=first|omega|(simp;done)|(simp;omega)) [hc1,hc2]
    have hty':ty.size≤46656:=by omega
    refine ⟨.mk 9 0 [] 0 [x] [] ty,J2,by rw [Zdb];simp [rawE1,rawS,Exp.kind,Exp.pos,Exp.name,Exp.num,Exp.kids,Exp.arms,Exp.ty,hx,hty'],by rw [ZbK];simp;omega,hJ2,?_⟩;simp [expV,Exp.row,Ty.row_eq]
   ·obtain ⟨_,⟨x,J1,hx,hxw,hJ1,rfl⟩,hc1⟩:=ih1 J hJ;simp (disch:=first|omega|(simp;done)|(simp;omega)) [hc1];refine ⟨.mk 11 0 [] 0 [x] [] tz,J1,by rw [Zdb];simp [rawE1,rawS,Exp.kind,Exp.pos,Exp.name,Exp.num,Exp.kids,Exp.arms,Exp.ty,hx],by rw [ZbK];simp;omega,hJ1,?_⟩;simp [expV,Exp.row,tz,Ty.kind,Ty.name,Ty.id,Ty.home,Ty.args]
   ·by_cases hz:ds=[]
    ·subst hz;have hz2:Zax []=[]:=rfl;obtain ⟨_,⟨x,J1,hx,hxw,hJ1,rfl⟩,hc1⟩:=ih1 J hJ;simp [ZaS,hz2] at hc1;simp (disch:=first|omega|(simp;done)|(simp;omega)) [ZaS,hz2,hc1];exact ⟨x,J1,hx,by omega,hJ1,rfl⟩
    ·have hpos:ds.length≠0:=by have:=List.length_pos_iff.2 hz;omega
     obtain ⟨m,J1,hm,hJ1,hc1⟩:=ZeA (A:=A) L J ds.length hJ hL (by omega) (by omega);obtain ⟨dd,hdd⟩:=Zaa (l:=ds) (i:=m) (by omega);have hgood:=hds.2 dd (List.mem_of_getElem? hdd);obtain ⟨hg1,hg2,hg3,hg4⟩:=hgood;obtain ⟨hs1,hs2⟩:=h2 dd (List.mem_of_getElem? hdd);obtain ⟨_,⟨x,J2,hx,hxw,hJ2,rfl⟩,hc2⟩:=ih1 J1 hJ1;simp (disch:=first|omega|(simp;done)|(simp;omega)) [hz,hc1,hdd,hc2,-getElem?_pos];refine Zal (ArmS L ds dd x (wS d') d') dd.cons.length ⟨[],J2,rfl,hJ2,by simp,by simp⟩ ?_ ?_
     ·rintro i s hi ⟨arms,J3,harms,hJ3,hall,rfl⟩;obtain ⟨cc,hcc⟩:=Zaa hi;have hfl:=hg4 cc (List.mem_of_getElem? hcc);have hfl2:=hs2 cc (List.mem_of_getElem? hcc);unfold Zrw;simp (disch:=first|omega|(simp;done)|(simp;omega)) [hi,hcc,harms,-getElem?_pos];refine Zal (VarQ L ds dd x arms cc.name d' i) cc.fields.length ⟨[],J3,rfl,by simp,hJ3,by simp [harms]⟩ ?_ ?_
      ·rintro j s hj ⟨vars,J4,hvars,hvn,hJ4,rfl⟩;obtain ⟨v,J5,hv,hJ5,hc5⟩:=ZcI (A:=A) L J4 hJ4 hL;unfold Zr6;simp (disch:=first|omega|(simp;done)|(simp;omega)) [hi,hj,hcc,hc5,hvars,harms,-getElem?_pos];refine ⟨vars++[v],J5,by simp [hvars],?_,hJ5,by simp [harms]⟩;intro u hu;rcases List.mem_append.1 hu with hu|hu
       ·exact hvn u hu
       ·simp only [List.mem_singleton] at hu;exact hu▸hv
      ·rintro s ⟨vars,J4,hvars,hvn,hJ4,rfl⟩;obtain ⟨_,⟨y,J5,hy,hyw,hJ5,rfl⟩,hc5⟩:=ih1 J4 hJ4;unfold Zr6;simp (disch:=first|omega|(simp;done)|(simp;omega)) [hi,hcc,hc5,hvars,harms,-getElem?_pos];refine ⟨arms++[(⟨0,cc.name,vars⟩,y)],J5,by simp [harms],hJ5,?_,?_⟩
       ·intro a ha;rcases List.mem_append.1 ha with ha|ha
        ·exact hall a ha
        ·simp only [List.mem_singleton] at ha;subst ha;exact ⟨⟨rfl,.inr ⟨dd,List.mem_of_getElem? hdd,cc,List.mem_of_getElem? hcc,rfl⟩,by simp only;omega,hvn⟩,hy,hyw,by simp only;omega⟩
       ·simp [harms,Exp.armRows_map,wr,Zar]
     ·rintro s ⟨arms,J3,harms,hJ3,hall,rfl⟩;unfold Zrw;simp (disch:=first|omega|(simp;done)|(simp;omega)) [harms,-getElem?_pos];refine ⟨.mk 8 0 [] 0 [x] arms tz,J3,?_,?_,hJ3,?_⟩
      ·rw [Zdb];refine ⟨?_,by simp [hx],fun a ha=>(hall a ha).2.1⟩;refine ⟨rfl,fun a ha=>(hall a ha).1,tz_size,fun _=>rfl,fun _=>rfl,?_⟩;simp [rawS,Exp.kind,Exp.name,Exp.kids,Exp.arms]
      ·rw [ZbK];have h1:(arms.map fun a=>a.1.vars.length).sum≤(arms.map fun _=>2).sum:=ZjE fun a ha=>(hall a ha).2.2.2;have h2:(arms.map fun a=>a.2.weight).sum≤(arms.map fun _=>wS d').sum:=ZjE fun a ha=>(hall a ha).2.2.1;simp only [List.map_const',List.sum_replicate_nat,harms] at h1 h2;simp only [List.map_cons,List.map_nil,List.sum_cons,List.sum_nil];have h3:dd.cons.length*wS d'≤2*wS d':=Nat.mul_le_mul_right _ hs1;omega
      ·simp [expV,Exp.row,tz,Ty.kind,Ty.name,Ty.id,Ty.home,Ty.args]
def MadeS (ds7:List DataD)(L:List Int)(r:V × List Obj):Prop:=∃ a b J ds,(∀ d∈ds,d∈ds7)∧ZhC ds∧rawE ds a∧a.weight≤wS 4∧rawE ds b∧b.weight≤wS 3∧J≤L.length∧r=(.tu [expV a,expV b,.sc (.ptr 0 0)],[Zbi L J])
theorem Zsn {ds7:List DataD}(bits:Int)(L:List Int)(hL:L.length≤1073741824)(h2:Zly ds7)(h21:∃ r,Znk ds7 r∧(K A).call 23 [intV bits] []=some r) :
 ∃ r,MadeS ds7 L r∧(K A).call 20 [intV bits,.sc (.c (.sl (Zbd L)))] []=some r:=by
 refine ZcD _ (vf:=v20) (by kernel_rfl) rfl (by simp) ?_;obtain ⟨_,⟨ds,hsub,hds,rfl⟩,hc⟩:=h21;obtain ⟨_,⟨a,J1,ha,haw,hJ1,rfl⟩,hc1⟩:=ZoT (A:=A) L ds hL hds (fun d hd=>h2 d (hsub d hd)) 4 0 (by omega) (by omega);obtain ⟨_,⟨b,J2,hb,hbw,hJ2,rfl⟩,hc2⟩:=ZoT (A:=A) L ds hL hds (fun d hd=>h2 d (hsub d hd)) 3 J1 (by omega) hJ1;simp [Zbi,intV,ZaS] at hc1 hc2;unfold v20;simp (disch:=first|omega|(simp;done)|(simp;omega)) [hc,hc1,hc2];exact ⟨a,b,J2,ds,hsub,hds,ha,haw,hb,hbw,hJ2,rfl⟩
variable {A:Zac}
variable {A:Zac}
theorem Zco:∀ s∈Za8,s.length≤2:=by decide
theorem rawE.free {ds:List DataD}{e:Exp}:rawE ds e→∀ s∈Zag e,s∈Za8:=by
 induction e using Exp.ind with
 | h e ih =>
  intro h s hs
  by_cases hk:e.kind=1
  ·rw [ZbC hk] at hs;subst hs;obtain ⟨_,_,_,_,_,h⟩:=h.one;rcases h with ⟨_,n,_⟩|⟨k,_⟩|⟨k,_⟩|⟨k,_⟩|⟨k,_⟩|⟨k,_⟩|⟨k,_⟩|⟨k,_⟩
   ·exact n
   all_goals (exfalso;omega)
  ·obtain ⟨i,x,hx,h1,_⟩:=(Zcn hk).1 hs;exact ih x (List.mem_of_getElem? hx) (h.child (List.mem_of_getElem? hx)) s h1
def tkOk (n:Nat)(l:List Str):Prop:=l.length=n∧∀ s∈l,s.length≤2
variable {A:Zac}
theorem Zto (e:Exp)(x:Str)(b:Exp)(hb:shp b)(hbw:b.weight≤16777216)(hbn:nmL b)(hxl:x.length≤1000)(hl:e.weight≤16777216)(hs:shp e)(hp:properP e)(hn:nmL e) :
 (K A).call 31 [expV e,strV x,expV b] []=some (expV (subP e x b),[]):=by
 refine Zas (vf:=v31) (by kernel_rfl) rfl (by simp) ?_;have hfl:=ZcK b;have h1:=Zo4 (A:=A) x b hb (by omega) (fun s hs=>hbn s (Zhe b s hs)) hxl e.weight e (Nat.le_refl _) hl hs hp hn;have h2:=Zq4 (A:=A) b hb.wf (by omega);have hrb:=ZcH b;simp only [expV,hrb] at h2;unfold v31 subP;simp (maxSteps:=4000000) (disch:=first|omega|(simp;done)|(simp;omega)) [hrb,h2,h1,-getElem?_pos]
theorem has33 (l:List Str)(s:Str)(h:l.length≤1073741824):(K A).call 33 [ZaB l,strV s] []=some (Zah (decide (s∈l)),[]):=by
 refine Zas (vf:=v33) (by kernel_rfl) rfl (by simp) ?_;unfold v33;have hp:=Zgs l s;simp (disch:=first|omega|(simp;done)|(simp;omega));refine Zaz (fun i=>⟨[(0,ZaB l),(1,strV s),(5,intV i)],[]⟩) (Zbg l s) ?_ ?_ ?_
 ·simp
 ·intro i hi;obtain ⟨x,hx,hne⟩:=Ze4 hi
  have hlt:i<l.length:=by omega
  unfold Zta;simp (disch:=first|omega|(simp;done)|(simp;omega)) [hx,hne,hlt,-getElem?_pos]
 ·unfold Zta
  by_cases hm:Zbg l s<l.length
  ·have hx:=ZdG hm;have hmem:=ZaN.1 hm;simp (disch:=first|omega|(simp;done)|(simp;omega)) [hx,hm,hmem,-getElem?_pos]
  ·have hn:s∉l:=fun h=>hm (ZaN.2 h);simp (disch:=first|omega|(simp;done)|(simp;omega)) [hm,hn,-getElem?_pos]
def ImpB (P:Prop)(r:V × List Obj):Prop:=∃ v:Bool,(v=true→P)∧r=(Zah v,[])
theorem ZgW (e:Exp):e.weight≤1073741824→∃ r,ImpB (properP e) r∧(K A).call 21 [expV e] []=some r:=by
 induction e using Exp.ind with
 | h e ih =>
 intro hl;refine ZcD _ (vf:=v21) (by kernel_rfl) rfl (by simp) ?_;have hle:=e.children_le;rw [e.children_len] at hle;have hc:=ZcJ (A:=A) e (by omega);have no:ImpB (properP e) (Zah false,[]):=⟨false,(by simp),rfl⟩;have yes:(∀ a∈e.arms,inj a.1.vars)→(∀ x∈e.children,properP x)→ImpB (properP e) (Zah true,[]):=fun h1 h2=>⟨true,fun _=>by rw [Zby];exact ⟨h1,h2⟩,rfl⟩;generalize properP e=P at no yes ⊢;unfold v21;simp (disch:=first|omega|(simp;done)|(simp;omega));refine Zal (fun i s=>(∀ (j:Nat) a,j<i→e.arms[j]?=some a→inj a.1.vars)∧s=⟨[(1,.sc (.ptr 64 0)),(3,intV i)],[(64,some (.box (wc e.row)))]⟩) e.arms.length ⟨by omega,by simp⟩ ?_ ?_
 ·rintro i s hi ⟨hJ,rfl⟩;obtain ⟨a,ha⟩:=Zaa hi;have hv:=Exp.vars_le (List.mem_of_getElem? ha);unfold Zss;simp (disch:=first|omega|(simp;done)|(simp;omega)) [hi,ha,-getElem?_pos];refine Zal (fun k s=>(∀ (p q:Nat) u,q<k→p<q→a.1.vars[p]?=some u→a.1.vars[q]?=some u→False)∧s=⟨[(1,.sc (.ptr 64 0)),(3,intV i),(4,ZaB a.1.vars),(5,intV k)],[(64,some (.box (wc e.row)))]⟩) a.1.vars.length ⟨fun p q u h=>by omega,by simp⟩ ?_ ?_
  ·rintro k s hk ⟨hK,rfl⟩;obtain ⟨x,hx⟩:=Zaa hk;unfold Ztk;simp (disch:=first|omega|(simp;done)|(simp;omega)) [hi,ha,hk,-getElem?_pos];refine Zal (fun j s=>(∀ (p:Nat),p<j→a.1.vars[p]?≠some x)∧s=⟨[(1,.sc (.ptr 64 0)),(3,intV i),(4,ZaB a.1.vars),(5,intV k),(6,intV j)],[(64,some (.box (wc e.row)))]⟩) k ⟨fun p h=>by omega,by simp⟩ ?_ ?_
   ·rintro j s hj ⟨hQ,rfl⟩;obtain ⟨y,hy⟩:=Zaa (l:=a.1.vars) (i:=j) (by omega);unfold Zr1
    by_cases hxy:y=x
    ·simp (disch:=first|omega|(simp;done)|(simp;omega)) [hj,hx,hy,hxy,-getElem?_pos];exact no
    ·have hQ':∀ (p:Nat),p<j+1→a.1.vars[p]?≠some x:=by
      intro p hp;rcases Nat.lt_or_eq_of_le (Nat.le_of_lt_succ hp) with h|rfl
      ·exact hQ p h
      ·rw [hy];exact fun q=>hxy (Option.some.inj q)
     simp (disch:=first|omega|(simp;done)|(simp;omega)) [hj,hx,hy,hxy,-getElem?_pos];simpa using hQ'
   ·rintro s ⟨hQ,rfl⟩
    have hK':∀ (p q:Nat) u,q<k+1→p<q→a.1.vars[p]?=some u→a.1.vars[q]?=some u→False:=by
     intro p q u hq hpq h1 h2;rcases Nat.lt_or_eq_of_le (Nat.le_of_lt_succ hq) with h|rfl
     ·exact hK p q u h hpq h1 h2
     ·rw [hx] at h2;cases h2;exact hQ p hpq h1
    unfold Zr1;simp (disch:=first|omega|(simp;done)|(simp;omega));exact hK'
  ·rintro s ⟨hK,rfl⟩
   have hJ':∀ (j:Nat) b,j<i+1→e.arms[j]?=some b→inj b.1.vars:=by
    intro j b hj hb;rcases Nat.lt_or_eq_of_le (Nat.le_of_lt_succ hj) with h|rfl
    ·exact hJ j b h hb
    ·rw [ha] at hb;cases hb;intro p q u hp hq;rcases Nat.lt_trichotomy p q with h|h|h
     ·exact (hK p q u (List.getElem?_eq_some_iff.1 hq).1 h hp hq).elim
     ·exact h
     ·exact (hK q p u (List.getElem?_eq_some_iff.1 hp).1 h hq hp).elim
   unfold Ztk;simp (disch:=first|omega|(simp;done)|(simp;omega));intro j b1 b2 hj hb;exact hJ' j (b1,b2) hj hb
 ·rintro s ⟨hJ,rfl⟩
  have hA:∀ a∈e.arms,inj a.1.vars:=fun a ha=>by
   obtain ⟨j,hj⟩:=List.mem_iff_getElem?.1 ha;exact hJ j a (List.getElem?_eq_some_iff.1 hj).1 hj
  unfold Zss;simp (disch:=first|omega|(simp;done)|(simp;omega)) [hc];refine Zal (fun i s=>(∀ (j:Nat) x,j<i→e.children[j]?=some x→properP x)∧s=⟨[(7,.sc (.arr 2912 e.children.length)),(8,intV i)],[(2912,some (.arr 11 (wr (Exp.rows e.children)) 0))]⟩) e.children.length ⟨by omega,by simp⟩ ?_ ?_
  ·rintro i s hi ⟨hX,rfl⟩;obtain ⟨x,hx⟩:=Zaa hi;have hmem:=List.mem_of_getElem? hx;obtain ⟨_,⟨b,hb,rfl⟩,h17⟩:=ih x hmem (by have:=Exp.child_lt hmem;omega);rw [e.children_len] at hi
   have hi':(i:Int)<(e.kids.length:Int)+e.arms.length:=by omega
   unfold ZrZ
   cases b with
   | true =>
    simp (disch:=first|omega|(simp;done)|(simp;omega)) [hi',hx,h17,-getElem?_pos];intro j y hj hy;rcases Nat.lt_or_eq_of_le (Nat.le_of_lt_succ hj) with h|rfl
    ·exact hX j y h hy
    ·rw [hx] at hy;cases hy;exact hb rfl
   | false =>
    simp (disch:=first|omega|(simp;done)|(simp;omega)) [hi',hx,h17,-getElem?_pos];exact no
  ·rintro s ⟨hX,rfl⟩;unfold ZrZ;simp (disch:=first|omega|(simp;done)|(simp;omega))
   exact yes hA fun x hx=>by
    obtain ⟨j,hj⟩:=List.mem_iff_getElem?.1 hx;exact hX j x (List.getElem?_eq_some_iff.1 hj).1 hj
theorem rawE.nmL {ds:List DataD}(hc:Zfo ds){e:Exp}:rawE ds e→nmL e:=by
 have hcok:∀ s,cOk ds s→s.length≤1000:=by
  rintro s (rfl|⟨d,hd,c,hcc,rfl⟩)
  ·decide
  ·have:=(hc d hd c hcc).1;omega
 induction e using Exp.ind with
 | h e ih =>
  intro h s hs;rcases Zat.1 hs with h1|⟨i,x,hx,h1⟩
  ·obtain ⟨_,_,_,_,_,hS⟩:=h.one;rcases hS with ⟨_,n,_⟩|⟨_,n,_⟩|⟨_,n,_⟩|⟨_,n,_⟩|⟨_,n,_⟩|⟨_,n,_⟩|⟨_,n,_⟩|⟨_,n,_⟩
   ·have:=Zco _ n;rw [h1];omega
   ·rw [h1];exact hcok _ n
   ·rw [h1,n];decide
   ·have:=Zco _ n;rw [h1];omega
   ·rw [h1,n];decide
   ·have:=Zco _ n;rw [h1];omega
   ·rw [h1,n];decide
   ·rw [h1,n];decide
  ·rcases h1 with h1|h1
   ·rw [ZaH] at h1;split at h1
    ·rename_i hk;obtain ⟨_,_,_,_,_,hS⟩:=h.one;rw [List.mem_singleton] at h1
     have:e.name∈Za8:=by
      rcases hS with ⟨k,n,_⟩|⟨k,n,_⟩|⟨k,n,_⟩|⟨k,n,_⟩|⟨k,n,_⟩|⟨k,n,_⟩|⟨k,n,_⟩|⟨k,n,_⟩
      all_goals first | exact n | (exfalso;omega)
     have:=Zco _ this;rw [h1];omega
    ·split at h1
     ·cases ha:e.arms[i-1]? with
      | none=>rw [ha] at h1;simp at h1
      | some a =>
       rw [ha] at h1;have:=Zco _ ((h.one.2.1 a (List.mem_of_getElem? ha)).2.2.2 s h1);omega
     ·simp at h1
   ·exact ih x (List.mem_of_getElem? hx) (h.child (List.mem_of_getElem? hx)) s h1
theorem ZnD (e:Exp):∀ s,s∈allP (Zan e)→s∈allP e:=by
 induction e using Exp.ind with
 | h e ih =>
  intro s hs;obtain ⟨h1,h2,h3,h4,h5,h6,h7,h8⟩:=ZaZ e;rcases Zat.1 hs with h|⟨i,y,hy,h⟩
  ·exact Zat.2 (.inl (h2▸h))
  ·rw [h7,List.getElem?_map] at hy;obtain ⟨x,hx,rfl⟩:=Option.map_eq_some_iff.1 hy;rw [ZeO] at h;exact Zat.2 (.inr ⟨i,x,hx,h.imp id (ih x (List.mem_of_getElem? hx) s)⟩)
theorem Znd {e:Exp}(h:nmL e):nmL (Zan e):=fun s hs=>h s (ZnD e s hs)
theorem ZkQ {taken:List Str}{n k:Nat}(h:n+k+taken.length≤536870912):∀ s∈news taken n k,s.length≤1000:=by
 intro s hs;obtain ⟨j,hj⟩:=List.mem_iff_getElem?.1 hs;have hjk:=(List.getElem?_eq_some_iff.1 hj).1;rw [news_len] at hjk;rw [ZbN hjk] at hj;cases hj;exact ZdY _ _ (by omega)
theorem ZoG (taken:List Str)(e:Exp):∀ old names,e.wf→nmL e→old.length+e.weight+taken.length≤536870912→(∀ s∈names,s.length≤1000)→nmL (ZbD taken e old names):=by
 induction e using Exp.ind with
 | h e ih =>
  intro old names hw h hl hn
  by_cases hk:e.kind=1
  ·obtain ⟨a1,a2,a3⟩:=ZcL hw.one hk;rw [Zcj hk];split
   ·intro s hs;rcases Zat.1 hs with h1|⟨i,x,hx,_⟩
    ·rw [h1,ZfI]
     cases hq:names[(rlast old e.name).toNat]? with
     | none=>simp
     | some t=>exact hn t (List.mem_of_getElem? hq)
    ·simp [Za3,a1,a2] at hx
   ·exact h
  ·obtain ⟨p1,p2,p3,p4,p5⟩:=Zch (taken:=taken) (old:=old) (names:=names) hk hw.one;intro s hs;rcases Zat.1 hs with h1|⟨i,y,hy,h1⟩
   ·rw [h1,Zd1 hk,ZfI];split
    ·exact ZdY _ _ (by omega)
    ·exact h _ (Zat.2 (.inl rfl))
   ·rw [p2] at hy
    have hlt:i<e.children.length:=by
     rcases Nat.lt_or_ge i (ZaL taken e old names).length with h2|h2
     ·rwa [canonC_len,←e.children_len] at h2
     ·rw [List.getElem?_eq_none h2] at hy;cases hy
    obtain ⟨x,hx⟩:=Zaa hlt;have hm:=List.mem_of_getElem? hx;have hbc:=ZcR hx;rw [Zcd hx] at hy;cases hy;rw [p5 i hlt] at h1;have hnw:=ZkQ (taken:=taken) (n:=old.length) (k:=(e.bound i).length) (by omega);rcases h1 with h1|h1
    ·exact hnw s h1
    ·refine ih x hm _ _ (hw.child hm) (h.child hx) (by rw [List.length_append];omega) (fun t ht => ?_) s h1;rcases List.mem_append.1 ht with ht|ht
     ·exact hn t ht
     ·exact hnw t ht
theorem ZhU {e:Exp}{taken:List Str}(hw:e.wf)(h:nmL e)(hl:e.weight+taken.length≤16777216):nmL (Zdq e taken):=by
 have:=ZcK e;exact ZoG _ _ _ _ (Zeg e hw) (Znd h) (by rw [ZdZ];simp;omega) (by simp)
theorem Zqt (taken:List Str)(n k:Nat):inj (news taken n k):=by
 intro i j s hi hj;have h1:=(List.getElem?_eq_some_iff.1 hi).1;have h2:=(List.getElem?_eq_some_iff.1 hj).1;rw [news_len] at h1 h2;rw [ZbN h1] at hi;rw [ZbN h2] at hj;cases hi;have:=ZhW (Option.some.inj hj);omega
theorem Zi5 (taken:List Str)(e:Exp):∀ old names,e.wf→properP (ZbD taken e old names):=by
 induction e using Exp.ind with
 | h e ih =>
  intro old names hw
  by_cases hk:e.kind=1
  ·obtain ⟨a1,a2,a3⟩:=ZcL hw.one hk;rw [Zcj hk];split
   ·rw [Zby];refine ⟨fun a ha => ?_,fun x hx => ?_⟩
    ·simp [Zdu,a2] at ha
    ·simp [Za3,a1,a2] at hx
   ·rw [Zby];refine ⟨fun a ha => ?_,fun x hx => ?_⟩
    ·simp [a2] at ha
    ·simp [a3] at hx
  ·obtain ⟨p1,p2,p3,p4,p5⟩:=Zch (taken:=taken) (old:=old) (names:=names) hk hw.one;rw [Zby];refine ⟨fun a ha => ?_,fun y hy => ?_⟩
   ·obtain ⟨i,hi⟩:=List.mem_iff_getElem?.1 ha;obtain ⟨q,_,_,h2⟩:=ZiR hk hi;rw [h2];exact Zqt _ _ _
   ·rw [p2] at hy;obtain ⟨i,hi⟩:=List.mem_iff_getElem?.1 hy
    have hlt:i<e.children.length:=by
     rcases Nat.lt_or_ge i (ZaL taken e old names).length with h2|h2
     ·rwa [canonC_len,←e.children_len] at h2
     ·rw [List.getElem?_eq_none h2] at hi;cases hi
    obtain ⟨x,hx⟩:=Zaa hlt;rw [Zcd hx] at hi;cases hi;exact ih x (List.mem_of_getElem? hx) _ _ (hw.child (List.mem_of_getElem? hx))
theorem Ze5 {e:Exp}(taken:List Str)(hw:e.wf):properP (Zdq e taken):=Zi5 _ _ _ _ (Zeg e hw)
end Go.Vs.Tryz
