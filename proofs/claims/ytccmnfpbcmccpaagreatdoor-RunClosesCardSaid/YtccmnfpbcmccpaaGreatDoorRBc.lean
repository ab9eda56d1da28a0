/- Analyses with made arms, walked. (Parts of one proof, put together.) -/
import Derived.Test.YtccmnfpbcmccpaaGreatDoorRAc
import Derived.Test.YtccmnfpbcmccpaaGreatDoorR5c
set_option linter.unusedSimpArgs false
set_option linter.unusedVariables false
set_option linter.deprecated false
set_option maxHeartbeats 32000000
namespace Go.Vs.Tryz
open Go Go.Vs
variable {A:Zac}
abbrev zE:List W:=[zi,zi,zs,zi,.nil,.nil,zi,zs,zi,zi,.nil]
def ArgA (L:List Int)(ds:List DataD)(ctx:List EntD)(goal:Ty)(dd:DataD)(d i:Nat)(s:St):Prop:=∃ tys J,tys.length=i∧(∀ x∈tys,tyG x∧x.size≤5)∧J≤L.length ∧
 s=⟨[(0,.sc (.ptr 0 0)),(1,Zal ds),(2,Zbv ctx),(4,intV (d+1)),(8,.sc (.ptr 64 0)),(10,.sc (.ptr 128 0)),(11,.sc (.ptr 1216 0)),(12,.sc (.arr 1345 i)),(13,intV i)],
  [(0,some (Zan L J)),(64,some (.box (wc goal.row))),(128,some (.box zE)),(1216,some (.box (wc (Zau dd)))),(1345,some (.arr 5 (wr (Ty.rows tys)) 0))]⟩
def ArmA (L:List Int)(ds:List DataD)(ctx:List EntD)(goal:Ty)(dd:DataD)(tys:List Ty)(x:Exp)(B d i:Nat)(s:St):Prop:=∃ arms J,arms.length=i∧J≤L.length∧(∀ a∈arms,armM ds a∧mkE ds a.2∧a.2.weight≤B) ∧
 s=⟨[(0,.sc (.ptr 0 0)),(1,Zal ds),(2,Zbv ctx),(4,intV (d+1)),(8,.sc (.ptr 64 0)),(10,.sc (.ptr 128 0)),(11,.sc (.ptr 1216 0)),(12,.sc (.arr 1345 tys.length)),(14,.sc (.ptr 3200 0)),(15,intV i)],
  [(0,some (Zan L J)),(64,some (.box (wc goal.row))),(128,some (.box zE)),(1216,some (.box (wc (Zau dd)))),(1345,some (.arr 5 (wr (Ty.rows tys)) tys.length)),(3072,some (.arr 11 [wc x.row] 0)),
    (3200,some (.box [.c (.int .i64 8),zi,zs,zi,.arr 3072 1,.arr 3270 i,zi,zs,zi,zi,.nil])),(3270,some (.arr 14 (wr (Exp.armRows arms)) 0))]⟩
def xyzw:List Str:=[[120],[121],[122],[119]]
def VarA (L:List Int)(ds:List DataD)(ctx:List EntD)(goal:Ty)(dd:DataD)(tys:List Ty)(x:Exp)(arms:List (ArmH × Exp))(con:Str)(f:List Ty)(J d n i j:Nat)(s:St):Prop:=∃ vars inner,vars.length=j∧vars=xyzw.take j∧ctxOk (n+j) 50000 inner ∧
 s=⟨[(0,.sc (.ptr 0 0)),(1,Zal ds),(2,Zbv ctx),(4,intV (d+1)),(8,.sc (.ptr 64 0)),(10,.sc (.ptr 128 0)),(11,.sc (.ptr 1216 0)),(12,.sc (.arr 1345 tys.length)),(14,.sc (.ptr 3200 0)),(15,intV i),
  (16,tysV f),(18,.sc (.ptr 5056 0)),(19,Zbv inner),(20,intV j)],
  [(0,some (Zan L J)),(64,some (.box (wc goal.row))),(128,some (.box zE)),(1216,some (.box (wc (Zau dd)))),(1345,some (.arr 5 (wr (Ty.rows tys)) tys.length)),(3072,some (.arr 11 [wc x.row] 0)),
    (3200,some (.box [.c (.int .i64 8),zi,zs,zi,.arr 3072 1,.arr 3270 i,zi,zs,zi,zi,.nil])),(3270,some (.arr 14 (wr (Exp.armRows arms)) 0)),
    (5056,some (.box [zi,.c (.str con),.arr 5123 j,zi,zi,zs,zi,.nil,.nil,zi,zs,zi,zi,.nil])),(5123,some (.arr 1 (wr (Zaz vars)) 0))]⟩
theorem Zkp (L:List Int)(ds:List DataD)(hL:L.length≤1073741824)(hds:fitDs ds)(d:Nat)(hd:d≤6)(ih:ZjY A L ds d)(ctx:List EntD)(goal:Ty)(I:Nat)(hctx:ctxOk (1000-4*(d+1)) 50000 ctx)(hg:tyS 0 goal)(hgl:goal.size+10*(d+1)≤50000)(hI:I≤L.length) :
 ∃ r,MkR L ds (wD (d+1)) r∧(K A).call 87 [.sc (.ptr 0 0),Zal ds,Zbv ctx,tyV goal,intV (d+1)] [Zan L I]=some r:=by
 have hp:=Ziu d
 have h32:wD (d+1)=(7*wD d+25):=rfl
 rw [h32]
 refine Zap _ (vf:=v87) (by kernel_rfl) rfl (by simp) ?_
 unfold v87
 by_cases hz:ds=[]
 ·subst hz
  obtain ⟨_,⟨e,J,g1,g2,g3,rfl⟩,hleaf⟩:=Zj1 (A:=A) L [] hL (n:=1000) (by omega) ctx (hctx.up (by omega)) goal (by omega) I hI
  have hz2:Zah []=[]:=rfl
  simp only [Zal,hz2] at hleaf
  simp (disch:=first|omega|(simp;done)|(simp;omega)) [Zal,hz2,hleaf,-getElem?_pos]
  exact ⟨e,J,g1,by omega,g3,rfl⟩
 ·have hpos:ds.length≠0:=by have:=List.length_pos_iff.2 hz;omega
  have hds1:=hds.1
  have hN:∀ I,I≤L.length→∃ r,Zg9 L 5 r∧(K A).call 45 [.sc (.ptr 0 0),Zal ds,.sc (.c (.sl [])),intV 1] [Zan L I]=some r:=fun I h=>Zg7 (A:=A) L ds hL hds 1 I (by omega) h
  obtain ⟨m,J1,hm,hJ1,hc1⟩:=ZaL (A:=A) L I ds.length hI hL (by omega) (by omega)
  obtain ⟨dd,hdd⟩:=Zaa (l:=ds) (i:=m) (by omega)
  obtain ⟨⟨hg1,hg2,hg3,hg4⟩,hfit⟩:=hds.2 dd (List.mem_of_getElem? hdd)
  simp (disch:=first|omega|(simp;done)|(simp;omega)) [hz,hpos,hc1,hdd,-getElem?_pos]
  refine Zaf (ArgA L ds ctx goal dd d) dd.params.length ⟨[],J1,rfl,by simp,hJ1,by simp⟩ ?_ ?_
  ·rintro i s hi ⟨tys,J2,ht,hts,hJ2,rfl⟩
   obtain ⟨_,⟨ty,J3,hGt,hty,hJ3,rfl⟩,hc2⟩:=hN J2 hJ2
   unfold Zri
   simp (disch:=first|omega|(simp;done)|(simp;omega)) [hi,hc2,ht,-getElem?_pos]
   refine ⟨tys++[ty],J3,by simp [ht],?_,hJ3,by simp⟩
   intro x hx
   rcases List.mem_append.1 hx with hx|hx
   ·exact hts x hx
   ·simp only [List.mem_singleton] at hx
    exact hx▸⟨hGt,hty⟩
  ·rintro s ⟨tys,J2,ht,hts,hJ2,rfl⟩
   have hcon:=ZiP (A:=A) dd.name tys (by omega)
   have hgz:(Ty.mk 4 dd.name 0 0 tys).size≤40:=by
    have hs:=ZcZ fun x hx=>(hts x hx).2
    have hm4:tys.length*5≤4*5:=Nat.mul_le_mul_right _ (by omega)
    simp only [Ty.size,Ty.sizes_map]
    omega
   have hgs:tyS 0 (Ty.mk 4 dd.name 0 0 tys):=(ZfA (by rw [ht];exact hfit.2.1) fun x hx=>(hts x hx).1).1
   obtain ⟨_,⟨x,J3,x1,x2,x3,rfl⟩,hx⟩:=ih ctx _ J2 (hctx.up (by omega)) hgs (by omega) hJ2
   unfold Zri
   rw [←ht]
   simp (disch:=first|omega|(simp;done)|(simp;omega)) [hcon,ht,hx,-getElem?_pos]
   refine Zaf (ArmA L ds ctx goal dd tys x (wD d) d) dd.cons.length ⟨[],J3,rfl,x3,by simp,by simp [ht]⟩ ?_ ?_
   ·rintro i s hi ⟨arms,J4,harms,hJ4,hall,rfl⟩
    obtain ⟨cc,hcc⟩:=Zaa hi
    have hmem:=List.mem_of_getElem? hcc
    obtain ⟨_,⟨f,b,f1,f2,rfl⟩,hf⟩:=Zmh (A:=A) (n:=0) (m:=5) (by omega) (by omega) ds hds cc.name ⟨dd,List.mem_of_getElem? hdd,cc,hmem,rfl⟩ tys (by omega) (fun x hx=>⟨(hts x hx).1.1,(hts x hx).2⟩)
    unfold Zrg
    simp (disch:=first|omega|(simp;done)|(simp;omega)) [hi,hcc,harms,hf,-getElem?_pos]
    refine Zaf (VarA L ds ctx goal dd tys x arms cc.name f J4 d (1000-4*(d+1)) i) f.length ⟨[],ctx,rfl,rfl,hctx,by simp [harms]⟩ ?_ ?_
    ·rintro j s hj ⟨vars,inner,hvars,hvn,hin,rfl⟩
     obtain ⟨y,hy⟩:=Zaa hj
     obtain ⟨y1,y2⟩:=f2 y (List.mem_of_getElem? hy)
     have hmo:=ZgI (A:=A) y
     have hpu:=fun s=>Zfo (A:=A) inner s 0 y (by have:=hin.1;omega)
     have nxt:∀ s∈Zbf,ctxOk (1000-4*(d+1)+(j+1)) 50000 (inner++[⟨s,0,y⟩]):=fun s hs=>hin.push (c:=0) (by omega) hs (by omega) y1 (by omega)
     unfold ZpW
     have:j=0∨j=1:=by omega
     rcases this with rfl|rfl
     ·have hjI:(0:Int)<f.length:=by omega
      have hnb:Zaj (intV 0) 4=some 0:=rfl
      have hnf:Zaj (intV 0) f.length=some 0:=natBelow_cast (n:=0) (by omega)
      have hlit:([[.c (.str [120])],[.c (.str [121])],[.c (.str [122])],[.c (.str [119])]]:List (List W))[0]?=some [.c (.str [120])]:=rfl
      simp (maxSteps:=4000000) (disch:=first|omega|(simp;done)|(simp;omega)) [hi,hj,hjI,hlit,hnb,hnf,hcc,hy,hmo,hpu,hvars,harms,-getElem?_pos]
      exact ⟨vars++[[120]],inner++[⟨[120],0,y⟩],by simp [hvars],by rw [hvn];rfl,nxt [120] (by decide),by simp [harms]⟩
     ·have hjI:(1:Int)<f.length:=by omega
      have hnb:Zaj (intV 1) 4=some 1:=rfl
      have hnf:Zaj (intV 1) f.length=some 1:=natBelow_cast (n:=1) (by omega)
      have hlit:([[.c (.str [120])],[.c (.str [121])],[.c (.str [122])],[.c (.str [119])]]:List (List W))[1]?=some [.c (.str [121])]:=rfl
      simp (maxSteps:=4000000) (disch:=first|omega|(simp;done)|(simp;omega)) [hi,hj,hjI,hlit,hnb,hnf,hcc,hy,hmo,hpu,hvars,harms,-getElem?_pos]
      exact ⟨vars++[[121]],inner++[⟨[121],0,y⟩],by simp [hvars],by rw [hvn];rfl,nxt [121] (by decide),by simp [harms]⟩
    ·rintro s ⟨vars,inner,hvars,hvn,hin,rfl⟩
     obtain ⟨_,⟨y,J5,y1,y2,y3,rfl⟩,hty⟩:=ih inner goal J4 (hin.up (by omega)) hg (by omega) hJ4
     unfold ZpW
     simp (disch:=first|omega|(simp;done)|(simp;omega)) [hi,hcc,hty,hvars,harms,-getElem?_pos]
     refine ⟨arms++[(⟨0,cc.name,vars⟩,y)],J5,by simp [harms],y3,?_,?_⟩
     ·intro a ha
      rcases List.mem_append.1 ha with ha|ha
      ·exact hall a ha
      ·simp only [List.mem_singleton] at ha
       subst ha
       exact ⟨⟨rfl,.inr ⟨dd,List.mem_of_getElem? hdd,cc,hmem,rfl⟩,by simp only;omega,by show vars.Nodup;rw [hvn];exact (List.take_sublist _ _).nodup (by decide),fun v hv=>(show ∀ v∈xyzw,v∈Zbf by decide) v (List.mem_of_mem_take (by rw [←hvn];exact hv))⟩,y1,y2⟩
     ·simp [harms,Exp.armRows_map,wr,ZaF]
   ·rintro s ⟨arms,J4,harms,hJ4,hall,rfl⟩
    unfold Zrg
    simp (disch:=first|omega|(simp;done)|(simp;omega)) [harms,-getElem?_pos]
    refine ⟨.mk 8 0 [] 0 [x] arms tz,J4,?_,?_,hJ4,?_⟩
    ·rw [Zgr]
     refine ⟨?_,by simp [x1],fun a ha=>(hall a ha).2.1⟩
     refine ⟨rfl,fun a ha=>(hall a ha).1,by simp [Exp.ty,tz,Ty.size_leaf],⟨fun _=>rfl,fun h=>absurd (show (8:Int)=9 from h) (by decide)⟩,⟨fun _=>rfl,by show (0:Int)≤0;decide,by show (0:Int)≤999;decide⟩,?_⟩
     have harm0:arms≠[]:=fun h=>by rw [h] at harms;simp at harms;omega
     simp [mkS,Exp.kind,Exp.name,Exp.kids,Exp.arms,harm0]
    ·rw [ZaX]
     have h1:(arms.map fun a=>a.1.vars.length).sum≤(arms.map fun _=>4).sum:=Zio fun a ha=>Nat.le_trans (hall a ha).1.2.2.1 (by decide)
     have h2:(arms.map fun a=>a.2.weight).sum≤(arms.map fun _=>wD d).sum:=Zio fun a ha=>(hall a ha).2.2
     simp only [List.map_const',List.sum_replicate_nat,harms] at h1 h2
     simp only [List.map_cons,List.map_nil,List.sum_cons,List.sum_nil]
     have h3:dd.cons.length*wD d≤6*wD d:=Nat.mul_le_mul_right _ hg3
     omega
    ·simp [expV,Exp.row,tz,Ty.kind,Ty.name,Ty.id,Ty.home,Ty.args]
variable {A:Zac}
theorem ZpB {ds:List DataD}{k:Int}{s:Str}(hk:(k=4∧s∈Zbf)∨(k=11∧s=[])){x:Exp}(hx:mkE ds x):mkE ds (.mk k 0 s 0 [x] [] tz):=by
 rw [Zgr]
 refine ⟨?_,by simp [hx],by simp⟩
 refine ⟨rfl,by simp [Exp.arms],by simp [Exp.ty,tz,Ty.size_leaf],⟨fun _=>rfl,fun h=>absurd (show k=9 from h) (by omega)⟩,⟨fun _=>rfl,by show (0:Int)≤0;decide,by show (0:Int)≤999;decide⟩,?_⟩
 rcases hk with ⟨rfl,hs⟩|⟨rfl,rfl⟩
 ·simp [mkS,Exp.kind,Exp.name,Exp.kids,Exp.arms,hs]
 ·simp [mkS,Exp.kind,Exp.name,Exp.kids,Exp.arms]
theorem mk_ann {ds:List DataD}{t:Ty}(ht:t.size≤1073741824)(htw:wrT t){x:Exp}(hx:mkE ds x):mkE ds (.mk 9 0 [] 0 [x] [] t):=by
 rw [Zgr]
 refine ⟨?_,by simp [hx],by simp⟩
 refine ⟨rfl,by simp [Exp.arms],ht,⟨fun h=>absurd rfl h,fun _=>htw⟩,⟨fun _=>rfl,by show (0:Int)≤0;decide,by show (0:Int)≤999;decide⟩,?_⟩
 simp [mkS,Exp.kind,Exp.name,Exp.kids,Exp.arms]
theorem Zez (k:Int)(s:Str)(x:Exp)(t:Ty):(Exp.mk k 0 s 0 [x] [] t).weight=1+x.weight:=by
 rw [ZaX]
 simp
theorem ZmV (k:Int)(s:Str)(x:Exp):(Exp.mk k 0 s 0 [x] [] tz).row=[.int .i64 k,.int .i64 0,.str s,.int .i64 0,.sl [x.row],.sl [],.int .i64 0,.str [],.int .i64 0,.int .i64 0,.sl []]:=by
 simp [Exp.row,tz,Ty.kind,Ty.name,Ty.id,Ty.home,Ty.args]
theorem ZqY (L:List Int)(ds:List DataD)(hL:L.length≤1073741824)(hds:fitDs ds):∀ (d:Nat),d≤6→ZjY A L ds d:=by
 intro d
 induction d with
 | zero =>
  intro _ ctx goal I hctx hg hgl hI
  obtain ⟨_,⟨e,J,g1,g2,g3,rfl⟩,hleaf⟩:=Zj1 (A:=A) L ds hL (n:=1000) (by omega) ctx hctx goal (by omega) I hI
  refine Zap _ (vf:=v44) (by kernel_rfl) rfl (by simp) ?_
  unfold v44
  simp (disch:=first|omega|(simp;done)|(simp;omega)) [hleaf,-getElem?_pos]
  exact ⟨e,J,g1,by simp only [wD];omega,g3,rfl⟩
 | succ d ih0 =>
  intro hd ctx goal I hctx hg hgl hI
  have ih:=ih0 (by omega)
  have hp:=Ziu d
  have h32:wD (d+1)=(7*wD d+25):=rfl
  have hd1:¬(d:Int)+1<1:=by omega
  obtain ⟨k9,J0,hk9,hJ0,hc9⟩:=ZaL (A:=A) L I 9 hI hL (by omega) (by omega)
  refine Zap _ (vf:=v44) (by kernel_rfl) rfl (by simp) ?_
  unfold v44
  by_cases h90:k9=0
  ·obtain ⟨_,⟨e,J,g1,g2,g3,rfl⟩,hleaf⟩:=Zj1 (A:=A) L ds hL (n:=1000) (by omega) ctx (hctx.up (by omega)) goal (by omega) J0 hJ0
   subst h90
   simp (disch:=first|omega|(simp;done)|(simp;omega)) [hd1,hc9,hleaf,-getElem?_pos]
   exact ⟨e,J,g1,by omega,g3,rfl⟩
  ·have h90':¬(k9:Int)=0:=by omega
   obtain ⟨k,J1,hk,hJ1,hc⟩:=ZaL (A:=A) L J0 10 hJ0 hL (by omega) (by omega)
   have hw:∀ e:Exp,e.weight≤wD d→1+e.weight≤wD (d+1):=fun e h=>by omega
   obtain ⟨rh,hrh,hhead⟩:=Zo7 (A:=A) L ds hL hds d (by omega) ih ctx goal J1 hctx hg (by omega) hJ1
   obtain ⟨eh,Jh,q1,q2,q3,rfl⟩:=hrh
   rcases ZcO (A:=A) goal with ⟨a,b,hab,har⟩|har
   ·have ha:=hg.arg (x:=a) (by simp [hab])
    have hb:=hg.arg (x:=b) (by simp [hab])
    have hsa:=Ty.arg_lt (t:=goal) (x:=a) (by simp [hab])
    have hsb:=Ty.arg_lt (t:=goal) (x:=b) (by simp [hab])
    by_cases h7:k<7
    ·have h7':(k:Int)<7:=by omega
     obtain ⟨s,J2,hs,hJ2,hcv⟩:=ZbG (A:=A) L J1 hJ1 hL
     have hmo:=ZgI (A:=A) a
     have hpu:=Zfo (A:=A) ctx s 0 a (by have:=hctx.1;omega)
     obtain ⟨_,⟨x,J3,x1,x2,x3,rfl⟩,hx⟩:=ih (ctx++[⟨s,0,a⟩]) b J2 (hctx.push (c:=0) (by omega) (Zdg hs) (by omega) ha (by omega)) hb (by omega) hJ2
     simp (disch:=first|omega|(simp;done)|(simp;omega)) [hd1,hc9,h90,h90',har,hc,h7',hcv,hmo,hpu,hx,-getElem?_pos]
     exact ⟨_,J3,ZpB (.inl ⟨rfl,Zdg hs⟩) x1,by rw [Zez];exact hw _ x2,x3,by rw [expV,ZmV];rfl⟩
    ·have h7':¬(k:Int)<7:=by omega
     have h2':¬(k:Int)<2:=by omega
     have e2:¬(k:Int)=2:=by omega
     have n2:¬k=2:=by omega
     have e3:¬(k:Int)=3:=by omega
     have n3:¬k=3:=by omega
     have e4:¬(k:Int)=4:=by omega
     have n4:¬k=4:=by omega
     have e5:¬(k:Int)=5:=by omega
     have n5:¬k=5:=by omega
     simp (disch:=first|omega|(simp;done)|(simp;omega)) [hd1,hc9,h90,h90',har,hc,h7',h2',e2,e3,e4,e5,n2,n3,n4,n5,hhead,-getElem?_pos]
     exact ⟨eh,Jh,q1,q2,q3,rfl⟩
   ·by_cases h2:k<2
    ·have h2':(k:Int)<2:=by omega
     obtain ⟨_,⟨t,J2,hGt,ht,hJ2,rfl⟩,hty⟩:∃ r,Zg9 L 5 r∧(K A).call 45 [.sc (.ptr 0 0),Zal ds,.sc (.c (.sl [])),intV 1] [Zan L J1]=some r:=Zg7 (A:=A) L ds hL hds 1 J1 (by omega) hJ1
     have harr:=Zep (A:=A) t goal
     have hS:tyS 0 (.mk 4 [45,62] 0 0 [t,goal]):=ZgQ Zcq fun x hx=>by
      simp only [List.mem_cons,List.not_mem_nil,or_false] at hx
      rcases hx with rfl|rfl
      ·exact hGt.1
      ·exact hg
     have hz:(Ty.mk 4 [45,62] 0 0 [t,goal]).size=1+(t.size+(goal.size+0)):=by simp only [Ty.size,Ty.sizes]
     obtain ⟨_,⟨x,J3,x1,x2,x3,rfl⟩,hx⟩:=ih ctx _ J2 (hctx.up (by omega)) hS (by omega) hJ2
     obtain ⟨_,⟨y,J4,y1,y2,y3,rfl⟩,hy⟩:=ih ctx t J3 (hctx.up (by omega)) hGt.1 (by omega) x3
     simp (disch:=first|omega|(simp;done)|(simp;omega)) [hd1,hc9,h90,h90',har,hc,h2',hty,harr,hx,hy,-getElem?_pos]
     exact ⟨_,J4,ZlA x1 y1,by rw [ZeE];omega,y3,by rw [expV,Zix];rfl⟩
    ·have h2':¬(k:Int)<2:=by omega
     by_cases e2:k=2
     ·obtain ⟨_,⟨e,J,g1,g2,g3,rfl⟩,hlet⟩:=let86 (A:=A) L ds hL hds d (by omega) ih ctx goal J1 hctx hg hgl hJ1
      subst e2
      simp (disch:=first|omega|(simp;done)|(simp;omega)) [hd1,hc9,h90,h90',har,hc,hlet,-getElem?_pos]
      exact ⟨e,J,g1,g2,g3,rfl⟩
     ·have e2':¬(k:Int)=2:=by omega
      by_cases e3:k=3
      ·obtain ⟨_,⟨e,J,g1,g2,g3,rfl⟩,hana⟩:=Zkp (A:=A) L ds hL hds d (by omega) ih ctx goal J1 hctx hg hgl hJ1
       subst e3
       simp (disch:=first|omega|(simp;done)|(simp;omega)) [hd1,hc9,h90,h90',har,hc,hana,-getElem?_pos]
       exact ⟨e,J,g1,g2,g3,rfl⟩
      ·have e3':¬(k:Int)=3:=by omega
       obtain ⟨_,⟨x,J2,x1,x2,x3,rfl⟩,hx⟩:=ih ctx goal J1 (hctx.up (by omega)) hg (by omega) hJ1
       by_cases e4:k=4
       ·subst e4
        obtain ⟨_,⟨p,hp3,rfl⟩,hc1⟩:=ZgF (A:=A) 3 goal (by omega)
        obtain ⟨_,⟨q,_,rfl⟩,hc2⟩:=ZgF (A:=A) 1 goal (by omega)
        cases p with
        | true =>
         simp (disch:=first|omega|(simp;done)|(simp;omega)) [hd1,hc9,h90,h90',har,hc,hc1,hc2,hhead,-getElem?_pos]
         exact ⟨eh,Jh,q1,q2,q3,rfl⟩
        | false =>
         cases q with
         | true =>
          simp (disch:=first|omega|(simp;done)|(simp;omega)) [hd1,hc9,h90,h90',har,hc,hc1,hc2,hhead,-getElem?_pos]
          exact ⟨eh,Jh,q1,q2,q3,rfl⟩
         | false =>
          simp (disch:=first|omega|(simp;done)|(simp;omega)) [hd1,hc9,h90,h90',har,hc,hc1,hc2,hx,-getElem?_pos]
          exact ⟨_,J2,mk_ann (t:=goal) (by omega) ⟨hg,hp3 rfl⟩ x1,by rw [Zez];exact hw _ x2,x3,by simp [expV,Exp.row,Ty.row_eq]⟩
       ·have e4':¬(k:Int)=4:=by omega
        by_cases e5:k=5
        ·subst e5
         simp (disch:=first|omega|(simp;done)|(simp;omega)) [hd1,hc9,h90,h90',har,hc,hx,-getElem?_pos]
         exact ⟨_,J2,ZpB (.inr ⟨rfl,rfl⟩) x1,by rw [Zez];exact hw _ x2,x3,by rw [expV,ZmV];rfl⟩
        ·have e5':¬(k:Int)=5:=by omega
         simp (disch:=first|omega|(simp;done)|(simp;omega)) [hd1,hc9,h90,h90',har,hc,h2',e2',e3',e4',e5',e2,e3,e4,e5,hhead,-getElem?_pos]
         exact ⟨eh,Jh,q1,q2,q3,rfl⟩
variable {A:Zac}
def NameR (t:Ty)(out:List Str)(r:V × List Obj):Prop:=∃ o2:List Str,out.length≤o2.length∧o2.length≤out.length+t.size∧r=(.sc (.arr 0 o2.length),[.arr 1 (wr (Zaz o2)) 0])
theorem Zpb:∀ (n:Nat)(t:Ty)(out:List Str),t.size≤n→out.length+t.size≤1073741824 →
 ∃ r,NameR t out r∧(K A).call 167 [.sc (.arr 0 out.length),tyV t] [.arr 1 (wr (Zaz out)) 0]=some r:=by
 intro n
 induction n with
 | zero =>
  intro t out ht
  have:=t.size_pos
  omega
 | succ n ih =>
  intro t out ht hn
  have hal:=t.args_lt
  have hpos:=t.size_pos
  have hts:=t.size_eq
  refine Zap _ (vf:=v167) (by kernel_rfl) rfl (by simp) ?_
  have kids:∀ out1:List Str,out.length≤out1.length→out1.length≤out.length+1→wp (K A) (.loop ZjB) (Zby 0 (Zcv (K A) (.seq (.region [] [o 35 (.mv (tv 0)),o 4 (.mv (tv 35))] [] [4]) .ret) (Zdy true 1 [.tmp 4] (NameR t out))))
   ⟨[(0,.sc (.arr 0 out1.length)),(3,.sc (.ptr 64 0)),(5,intV 0)],[(0,some (.arr 1 (wr (Zaz out1)) 0)),(64,some (.box (wc t.row)))]⟩:=by
   intro out1 ha hb
   refine Zaf (fun i s=>∃ o2:List Str,out1.length≤o2.length∧o2.length≤out1.length+((t.args.map Ty.size).take i).sum ∧
    s=⟨[(0,.sc (.arr 0 o2.length)),(3,.sc (.ptr 64 0)),(5,intV i)],[(0,some (.arr 1 (wr (Zaz o2)) 0)),(64,some (.box (wc t.row)))]⟩) t.args.length
    ⟨out1,by omega,by simp,by simp⟩ ?_ ?_
   ·rintro i s hi ⟨o2,h0,h1,rfl⟩
    obtain ⟨x,hx⟩:=Zaa hi
    have hxs:=Ty.arg_lt (List.mem_of_getElem? hx)
    have hxm:(t.args.map Ty.size)[i]?=some x.size:=by rw [List.getElem?_map,hx];rfl
    have hsum:((t.args.map Ty.size).take (i+1)).sum=((t.args.map Ty.size).take i).sum+x.size:=by rw [ZaQ hxm];simp
    have hle:((t.args.map Ty.size).take (i+1)).sum≤(t.args.map Ty.size).sum:=Zdq
    obtain ⟨_,⟨o3,h3,h4,rfl⟩,hc⟩:=ih x o2 (by omega) (by omega)
    unfold ZjB
    simp (disch:=first|omega|(simp;done)|(simp;omega)) [hi,hx,hc,h3,-getElem?_pos]
    exact ⟨o3,by omega,by omega,by simp⟩
   ·rintro s ⟨o2,h0,h1,rfl⟩
    rw [List.take_of_length_le (by simp)] at h1
    unfold ZjB
    simp (disch:=first|omega|(simp;done)|(simp;omega))
    exact ⟨o2,by omega,by omega,rfl⟩
  unfold v167
  by_cases h1:t.kind=5
  ·have hix:=Zj6 (A:=A) out t.name (by omega)
   by_cases h2:idxS out t.name<0
   ·simp (disch:=first|omega|(simp;done)|(simp;omega)) [h1,hix,h2]
    have:=kids (out++[t.name]) (by simp) (by simp)
    simpa using this
   ·simp (disch:=first|omega|(simp;done)|(simp;omega)) [h1,hix,h2]
    exact kids out (by omega) (by omega)
  ·simp (disch:=first|omega|(simp;done)|(simp;omega)) [h1]
   exact kids out (by omega) (by omega)
def StrsR (n:Nat)(r:V × List Obj):Prop:=∃ l:List Str,l.length≤n∧r=(Zdo l,[])
theorem ZoH (t:Ty)(ht:t.size≤1000000):∃ r,StrsR t.size r∧(K A).call 116 [tyV t] []=some r:=by
 obtain ⟨_,⟨o2,h1,h2,rfl⟩,hc⟩:=Zpb (A:=A) t.size t [] (Nat.le_refl _) (by simp;omega)
 have hc:(K A).call 167 [.sc (.arr 0 0),tyV t] [.arr 1 [] 0]=some (.sc (.arr 0 o2.length),[.arr 1 (wr (Zaz o2)) 0]):=by simpa using hc
 refine Zap _ (vf:=v116) (by kernel_rfl) rfl (by simp) ?_
 unfold v116
 simp (disch:=first|omega|(simp;done)|(simp;omega)) [hc,-getElem?_pos]
 exact ⟨o2,by simpa using h2,rfl⟩
def SigR (x:Ty)(r:V × List Obj):Prop:=∃ (a b:Ty) (c:Nat),tyS 0 a∧a.size≤x.size∧c≤x.size∧tyB 0 c b∧b.size≤x.size∧r=(.tu [tyV a,schV c b],[])
theorem ZfC (x:Ty)(hx:tyS 0 x)(hl:x.size≤1000000)(h:Int):∃ r,SigR x r∧(K A).call 67 [tyV x,intV h] []=some r:=by
 obtain ⟨_,⟨l,hl1,rfl⟩,hn⟩:=ZoH (A:=A) x hl
 have hb:=Zjg (A:=A) l (by omega) x (by omega)
 have hbz:=ZeH l x
 have hbS:=Zjb (l:=l) hx
 generalize Zcz l x=u at *
 refine Zap _ (vf:=v67) (by kernel_rfl) rfl (by simp) ?_
 unfold v67
 simp (disch:=first|omega|(simp;done)|(simp;omega)) [hn,hb,-getElem?_pos]
 refine Zaf (fun i s=>∃ args:List Ty,args.length=i∧(∀ y∈args,tyS 0 y∧y.size≤1)∧s=⟨[(1,intV h),(4,.sc (.ptr 128 0)),(5,.sc (.ptr 192 0)),(6,Zdo l),(7,.sc (.ptr 640 0)),(8,.sc (.arr 769 i)),(9,intV i)],
  [(128,some (.box [zi,zs,zi,zi,.nil])),(192,some (.box [zi,zi,zs,zi,zi,.nil])),(640,some (.box (wc u.row))),(769,some (.arr 5 (wr (Ty.rows args)) 0))]⟩) l.length ⟨[],rfl,by simp,by simp⟩ ?_ ?_
 ·rintro i s hi ⟨args,ha,hs,rfl⟩
  have hr:=Zi7 (A:=A) h i
  unfold Zrd
  simp (disch:=first|omega|(simp;done)|(simp;omega)) [hi,hr,ha,-getElem?_pos]
  refine ⟨args++[.mk 3 [] i h []],by simp [ha],?_,by simp⟩
  intro y hy
  rcases List.mem_append.1 hy with hy|hy
  ·exact hs y hy
  ·simp only [List.mem_singleton] at hy
   subst hy
   exact ⟨Zfy,by rw [Ty.size_leaf];exact Nat.le_refl _⟩
 ·rintro s ⟨args,ha,hs,rfl⟩
  have hop:=ZiZ (A:=A) args (by omega) u (by omega)
  have hz:=ZeD (m:=1) (Nat.le_refl _) (fun y hy=>(hs y hy).2) u
  unfold Zrd
  simp (disch:=first|omega|(simp;done)|(simp;omega)) [hop,ha,-getElem?_pos]
  exact ⟨Zdf args u,u,l.length,Zi4 (fun y hy=>(hs y hy).1) (by rw [ha];exact hbS),by omega,hl1,hbS,hbz,by simp [ZaI]⟩
theorem Zrc (x:Ty)(hx:tyS 0 x)(hl:x.size≤1000000):∃ r,TyR 0 x.size r∧(K A).call 66 [tyV x] []=some r:=by
 obtain ⟨_,⟨a,b,c,a1,a2,a3,a4,a5,rfl⟩,hs⟩:=ZfC (A:=A) x hx hl 98
 refine Zap _ (vf:=v66) (by kernel_rfl) rfl (by simp) ?_
 unfold v66
 simp (disch:=first|omega|(simp;done)|(simp;omega)) [hs,-getElem?_pos]
 exact ⟨a,a1,a2,rfl⟩
def nam3:List Ty:=[.mk 5 [97] 0 0 [],.mk 5 [98] 0 0 [],.mk 5 [99] 0 0 []]
theorem Zg4 (s:Str):(K A).call 115 [strV s] []=some (tyV (.mk 5 s 0 0 []),[]):=by
 refine ZaW (vf:=v115) (by kernel_rfl) rfl (by simp) ?_
 unfold v115
 simp (disch:=first|omega|(simp;done)|(simp;omega)) [Ty.row]
theorem ZqE:(K A).call 63 [] []=some (tysV nam3,[]):=by
 have h1:=Zg4 (A:=A) [97]
 have h2:=Zg4 (A:=A) [98]
 have h3:=Zg4 (A:=A) [99]
 refine ZaW (vf:=v63) (by kernel_rfl) rfl (by simp) ?_
 unfold v63
 simp (disch:=first|omega|(simp;done)|(simp;omega)) [h1,h2,h3,nam3,Ty.rows]
theorem Zqn:∀ x∈nam3,tyG x∧x.size=1:=by
 intro x hx
 simp only [nam3,List.mem_cons,List.not_mem_nil,or_false] at hx
 rcases hx with rfl|rfl|rfl
 all_goals exact ⟨⟨Zld ⟨by decide,⟨_,rfl,by decide,by decide⟩,by decide,by decide⟩,Ty.all_iff.2 ⟨fun h=>absurd h.1 (by decide),fun x hx=>by cases hx⟩⟩,Ty.size_leaf⟩
end Go.Vs.Tryz
