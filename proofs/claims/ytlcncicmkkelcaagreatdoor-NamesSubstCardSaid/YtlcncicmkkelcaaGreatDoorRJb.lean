/- Substitution by the program, walked, 2. (Parts of one proof, put together.) -/
import Derived.Test.YtlcncicmkkelcaaGreatDoorRHb
import Derived.Test.YtlcncicmkkelcaaGreatDoorR5b
import Derived.Test.YtlcncicmkkelcaaGreatDoorR4b
import Derived.Test.YtlcncicmkkelcaaGreatDoorR2b
import Derived.Test.YtlcncicmkkelcaaGreatDoorRDb
set_option linter.unusedSimpArgs false
set_option linter.unusedVariables false
set_option linter.deprecated false
set_option maxHeartbeats 64000000
set_option maxRecDepth 20000
namespace Go.Vs.Tryz
open Go Go.Vs
variable {A:Zac}
theorem ZnC (x:Str)(b:Exp)(hb:shp b)(hbl:(Zaf b).length≤16777216)(hbf:∀ s∈Zaf b,s.length≤1000)(hxl:x.length≤1000):∀ (n:Nat) (e:Exp),e.weight≤n→e.weight≤16777216→shp e→properP e→nmL e →
 (K A).call 82 [.ag (Zb7 x b (Zaf b)),expV e] []=some (expV (subN n e x b),[])
 | 0,e,h,_,_,_,_=>by have:=e.weight_pos;omega
 | n+1,e,hn,hl,hs,hp,hnm=>by
  refine Zan (vf:=v82) (by kernel_rfl) rfl (by simp) ?_
  rw [ZeP]
  by_cases hk:e.kind=1
  ·rw [if_pos hk]
   have hrb:=ZaU b
   unfold v82
   by_cases hx:e.name=x
   ·rw [if_pos hx]
    simp (maxSteps:=4000000) (disch:=first|omega|(simp;done)|(simp;omega)) [hk,hx,hrb,-getElem?_pos]
   ·rw [if_neg hx]
    simp (maxSteps:=4000000) (disch:=first|omega|(simp;done)|(simp;omega)) [hk,hx,-getElem?_pos]
  rw [if_neg hk]
  have hP:=Ziq (x:=x) (b:=b) hs hp
  have hW:=Zkz hP
  have hN:=Zp1 (x:=x) (b:=b) hs hp hnm (by omega)
  have hrec:∀ y∈(ZcM x (Zaf b) e).children,(K A).call 82 [.ag (Zb7 x b (Zaf b)),expV y] []=some (expV (subN n y x b),[]):=by
   intro y hy
   obtain ⟨i,hi⟩:=List.mem_iff_getElem?.1 hy
   obtain ⟨x0,h0⟩:=Zaa (l:=e.children) (i:=i) (by rw [←Zco hP];exact (List.getElem?_eq_some_iff.1 hi).1)
   have hK:=hP.kids i x0 y h0 hi
   have h1:=Exp.child_lt (List.mem_of_getElem? h0)
   have h2:=hK.weight
   exact ZnC x b hb hbl hbf hxl n y (by omega) (by omega) hK.shape hK.proper (hN y hy)
  have hs1:=hP.head.shp1 hk hs.one
  have hkk:=hP.head.1
  have hkl:=hP.head.2.2.2.1
  by_cases h4:e.kind=4∨e.kind=6∨e.kind=7
  ·have hbd:=Zou (A:=A) x b (Zaf b) e hs h4 (by omega) (by omega) hnm hbf hxl
   have hpe:ZcM x (Zaf b) e=Zcq x (Zaf b) e:=by unfold ZcM;rw [if_pos h4]
   rw [hpe] at hP hW hN hrec hs1 hkk hkl ⊢
   have hne:(Zcq x (Zaf b) e).kids≠[]:=by
    intro h
    have h5:=hs.one.2.2
    rw [h] at hkl
    unfold Zjy at h5
    simp only [List.length_nil] at hkl
    split at h5
    ·omega
    ·rw [if_pos (by omega)] at h5;omega
   generalize Zcq x (Zaf b) e=e' at *
   have hc:=ZbR (A:=A) e' hne (by omega)
   rw [e'.children_len] at hc
   have hCl:=subC_len n e' x b
   have hw:=Zgn (A:=A) e' (subC n e' x b) hCl (by omega)
   have hrow':=ZaU e'
   have hrowW:wc (Zbm e' (subC n e' x b)).row=[.c (.int .i64 e'.kind),.c (.int .i64 e'.pos),.c (.str e'.name),.c (.int .i64 e'.num),.c (.sl (Exp.rows ((subC n e' x b).take e'.kids.length))),.c (.sl (Exp.armRows (Za4 e'.arms ((subC n e' x b).drop e'.kids.length)))),.c (.int .i64 e'.ty.kind),.c (.str e'.ty.name),.c (.int .i64 e'.ty.id),.c (.int .i64 e'.ty.home),.c (.sl (Ty.rows e'.ty.args))]:=by rw [Exp.row_eq];rfl
   have hkW:((subC n e' x b).take e'.kids.length).length=e'.kids.length:=by rw [List.length_take,hCl];omega
   have haW:(Za4 e'.arms ((subC n e' x b).drop e'.kids.length)).length=e'.arms.length:=by rw [armsW_len,List.length_drop,hCl];omega
   simp only [expV,hrow'] at hc hw
   unfold v82
   rcases h4 with h4|h4|h4
   ·rw [h4] at hkk
    simp only [expV,hrow'] at hbd
    simp (maxSteps:=4000000) (disch:=first|omega|(simp;done)|(simp;omega)) [hk,h4,hbd,hc,-getElem?_pos]
    refine wp_mono (ZiD (A:=A) x b (Zaf b) n e' hs1.1 (by omega) hrec) ?_
    rintro _ _ ⟨rfl,rfl⟩
    simp (maxSteps:=4000000) (disch:=first|omega|(simp;done)|(simp;omega)) [hw,hrowW,hCl,hkW,haW,-getElem?_pos]
   ·rw [h4] at hkk
    simp only [expV,hrow'] at hbd
    simp (maxSteps:=4000000) (disch:=first|omega|(simp;done)|(simp;omega)) [hk,h4,hbd,hc,-getElem?_pos]
    refine wp_mono (ZiD (A:=A) x b (Zaf b) n e' hs1.1 (by omega) hrec) ?_
    rintro _ _ ⟨rfl,rfl⟩
    simp (maxSteps:=4000000) (disch:=first|omega|(simp;done)|(simp;omega)) [hw,hrowW,hCl,hkW,haW,-getElem?_pos]
   ·rw [h4] at hkk
    simp only [expV,hrow'] at hbd
    simp (maxSteps:=4000000) (disch:=first|omega|(simp;done)|(simp;omega)) [hk,h4,hbd,hc,-getElem?_pos]
    refine wp_mono (ZiD (A:=A) x b (Zaf b) n e' hs1.1 (by omega) hrec) ?_
    rintro _ _ ⟨rfl,rfl⟩
    simp (maxSteps:=4000000) (disch:=first|omega|(simp;done)|(simp;omega)) [hw,hrowW,hCl,hkW,haW,-getElem?_pos]
  ·have hpe4:∀ y z:Exp,(if e.kind=4∨e.kind=6∨e.kind=7 then y else z)=z:=fun y z=>if_neg h4
   have k4:¬e.kind=4:=fun h=>h4 (.inl h)
   have k6:¬e.kind=6:=fun h=>h4 (.inr (.inl h))
   have k7:¬e.kind=7:=fun h=>h4 (.inr (.inr h))
   by_cases h8:e.kind=8
   ·have hk1:=hs.one.1.1 h8
    have hpe:ZcM x (Zaf b) e=.mk e.kind e.pos e.name e.num e.kids (e.arms.map (armP x (Zaf b))) e.ty:=by unfold ZcM;rw [if_neg h4,if_pos h8]
    rw [hpe] at hP hW hN hrec hs1 hkk hkl ⊢
    have hne:e.kids≠[]:=fun h=>by rw [h] at hk1;simp at hk1
    have hml:=e.children_le
    rw [e.children_len] at hml
    have harm:∀ p∈e.arms,(K A).call 145 [.ag (Zb7 x b (Zaf b)),armV p] []=some (armV (armP x (Zaf b) p),[]):=by
     intro p hm
     have h1:=Exp.vars_le hm
     have h2:=Exp.child_lt (Zca hm)
     obtain ⟨j,hj⟩:=List.mem_iff_getElem?.1 hm
     refine arm145 x b (Zaf b) p (hp.one p hm) (hs.child (Zca hm)) (hp.child (Zca hm)) (by omega) (hnm.child (Zcp hj)) (fun s hs' => ?_) hbf hxl
     refine hnm s (ZaA.2 (.inr ⟨e.kids.length+j,p.2,Zcp hj,.inl ?_⟩))
     rw [ZaD,if_neg (by omega),if_pos ⟨h8,by omega⟩,hk1,show 1+j-1=j by omega,hj]
     exact hs'
    have hcl:=ZqA (A:=A) e.arms (by omega)
    have hag:∀ (i:Nat) p,e.arms[i]?=some p→(e.arms.map (armP x (Zaf b)))[i]?=some (armP x (Zaf b) p):=fun i p h=>by rw [List.getElem?_map,h];rfl
    have ham:(e.arms.map (armP x (Zaf b))).length=e.arms.length:=by simp
    generalize e.arms.map (armP x (Zaf b))=am at *
    obtain ⟨e',he'⟩:∃ e',e'=Exp.mk e.kind e.pos e.name e.num e.kids am e.ty:=⟨_,rfl⟩
    have q1:e'.kids=e.kids:=by rw [he'];rfl
    have q2:e'.arms=am:=by rw [he'];rfl
    have q3:e'.kind=e.kind:=by rw [he'];rfl
    have q4:e'.pos=e.pos:=by rw [he'];rfl
    have q5:e'.name=e.name:=by rw [he'];rfl
    have q6:e'.num=e.num:=by rw [he'];rfl
    have q7:e'.ty=e.ty:=by rw [he'];rfl
    rw [←he'] at hP hW hN hrec hs1 hkk hkl ⊢
    have hc:=ZbR (A:=A) e' (by rw [q1];exact hne) (by omega)
    rw [e'.children_len] at hc
    have hCl:=subC_len n e' x b
    have hw:=Zgn (A:=A) e' (subC n e' x b) hCl (by omega)
    have hrow':=ZaU e'
    have hrow0:=ZaU e
    have hrowW:wc (Zbm e' (subC n e' x b)).row=[.c (.int .i64 e'.kind),.c (.int .i64 e'.pos),.c (.str e'.name),.c (.int .i64 e'.num),.c (.sl (Exp.rows ((subC n e' x b).take e'.kids.length))),.c (.sl (Exp.armRows (Za4 e'.arms ((subC n e' x b).drop e'.kids.length)))),.c (.int .i64 e'.ty.kind),.c (.str e'.ty.name),.c (.int .i64 e'.ty.id),.c (.int .i64 e'.ty.home),.c (.sl (Ty.rows e'.ty.args))]:=by rw [Exp.row_eq];rfl
    have hkW:((subC n e' x b).take e'.kids.length).length=e'.kids.length:=by rw [List.length_take,hCl];omega
    have haW:(Za4 e'.arms ((subC n e' x b).drop e'.kids.length)).length=e'.arms.length:=by rw [armsW_len,List.length_drop,hCl];omega
    have hloop:=ZtJ (A:=A) x b (Zaf b) n e' hs1.1 (by omega) hrec
    simp only [expV,hrow'] at hc hw
    simp only [q1,q2,q3,q4,q5,q6,q7,ham] at hc hw hrowW hkW haW hloop hCl
    unfold v82
    simp (maxSteps:=4000000) (disch:=first|omega|(simp;done)|(simp;omega)) [hk,k4,k6,k7,h8,hrow0,hcl,-getElem?_pos]
    refine Zaz (fun i=>⟨[(2,.sc (.ptr 64 0)),(3,.sc (.ptr 128 0)),(4,.sc (.ptr 192 0)),(36,.sc (.arr 2080 e.arms.length)),(37,intV e.arms.length),(38,intV i)],
     [(64,some (.box (Zb7 x b (Zaf b)))),(128,some (.box [.c (.int .i64 8),.c (.int .i64 e.pos),.c (.str e.name),.c (.int .i64 e.num),.c (.sl (Exp.rows e.kids)),.arr 2080 e.arms.length,.c (.int .i64 e.ty.kind),.c (.str e.ty.name),.c (.int .i64 e.ty.id),.c (.int .i64 e.ty.home),.c (.sl (Ty.rows e.ty.args))])),(192,some Zej),
       (2080,some (.arr 14 (wr (Exp.armRows (am.take i++e.arms.drop i))) 0))]⟩) e.arms.length ?_ ?_ ?_
    ·simp
    ·intro i hi
     obtain ⟨p,hp'⟩:=Zaa hi
     have hca:=harm p (List.mem_of_getElem? hp')
     have hg:=Zcz (i:=i) ham hi
     rw [hp'] at hg
     have hst:=Zcg ham (hag i p hp')
     have hln:=ZcA (i:=i) ham
     have hset:=fun z=>Zdv (am.take i++e.arms.drop i) i z
     rw [←hst]
     generalize am.take i++e.arms.drop i=zr at *
     have hsp:∀ p q:ArmH × Exp,splice (wc (Zao p)) 0 (wc (Zao q))=some (wc (Zao q)):=fun p q=>by rw [Zao,Zao,Exp.row_eq p.2,Exp.row_eq q.2];rfl
     have hi2:(i:Int)<e.arms.length:=by omega
     unfold Ztw
     simp (maxSteps:=4000000) (disch:=first|omega|(simp;done)|(simp;omega)) [hi,hi2,hg,hln,hca,hsp,hset,Zbi,-getElem?_pos]
    ·have htk:am.take e.arms.length++e.arms.drop e.arms.length=am:=by
      rw [List.drop_length,List.append_nil,List.take_of_length_le (by omega)]
     rw [htk]
     rw [h8] at hc hw hrowW hloop
     unfold Ztw
     simp (maxSteps:=4000000) (disch:=first|omega|(simp;done)|(simp;omega)) [hc,ham,q1,q2,-getElem?_pos]
     refine wp_mono hloop ?_
     rintro _ _ ⟨rfl,rfl⟩
     simp (maxSteps:=4000000) (disch:=first|omega|(simp;done)|(simp;omega)) [hw,hrowW,hCl,hkW,haW,ham,q1,q2,-getElem?_pos]
   ·have hpe:ZcM x (Zaf b) e=e:=by unfold ZcM;rw [if_neg h4,if_neg h8]
    rw [hpe] at hP hW hN hrec hs1 hkk hkl ⊢
    by_cases hkids:e.kids=[]
    ·have harms:e.arms=[]:=hs.one.1.2.1 h8
     have hc:=ZbU (A:=A) e hkids harms
     have hC0:subC n e x b=[]:=List.length_eq_zero_iff.1 (by rw [subC_len,hkids,harms];rfl)
     have hw:=Zgn (A:=A) e [] (by rw [hkids,harms];rfl) (by omega)
     rw [hC0]
     have hr1:Exp.rows []=[]:=by rw [Exp.rows]
     have hr2:Exp.armRows []=[]:=by rw [Exp.armRows]
     have hz:Za4 [] []=[]:=rfl
     have hrow:wc (Zbm e []).row=[.c (.int .i64 e.kind),.c (.int .i64 e.pos),.c (.str e.name),.c (.int .i64 e.num),.c (.sl []),.c (.sl []),.c (.int .i64 e.ty.kind),.c (.str e.ty.name),.c (.int .i64 e.ty.id),.c (.int .i64 e.ty.home),.c (.sl (Ty.rows e.ty.args))]:=by
      rw [Exp.row_eq]
      simp [Zbm,harms,Za4,hr1,hr2,Exp.kind,Exp.pos,Exp.name,Exp.num,Exp.kids,Exp.arms,Exp.ty,wc]
     simp only [exsV,hr1,hkids,harms,List.length_nil,List.take_nil,List.drop_nil,hz,hr2] at hw
     unfold v82
     simp (maxSteps:=4000000) (disch:=first|omega|(simp;done)|(simp;omega)) [hk,k4,k6,k7,h8,hc,-getElem?_pos]
     refine Zaz (fun i=>⟨[(2,.sc (.ptr 64 0)),(3,.sc (.ptr 128 0)),(4,.sc (.ptr 192 0)),(7,.sc (.full [])),(53,.sc (.full [])),(54,intV 0),(55,intV i)],[(64,some (.box (Zb7 x b (Zaf b)))),(128,some (.box (wc e.row))),(192,some Zej)]⟩) 0 ?_ (fun i hi=>by omega) ?_
     ·simp
     ·unfold ZiU
      simp (maxSteps:=4000000) (disch:=first|omega|(simp;done)|(simp;omega)) [hw,hrow,-getElem?_pos]
    ·have hne:e.kids≠[]:=hkids
     obtain ⟨e',he'⟩:∃ e',e'=e:=⟨e,rfl⟩
     have hrow0:=ZaU e
     have hc:=ZbR (A:=A) e hne (by omega)
     rw [e.children_len] at hc
     have hCl:=subC_len n e x b
     have hw:=Zgn (A:=A) e (subC n e x b) hCl (by omega)
     have hrow':=ZaU e
     have hrowW:wc (Zbm e (subC n e x b)).row=[.c (.int .i64 e.kind),.c (.int .i64 e.pos),.c (.str e.name),.c (.int .i64 e.num),.c (.sl (Exp.rows ((subC n e x b).take e.kids.length))),.c (.sl (Exp.armRows (Za4 e.arms ((subC n e x b).drop e.kids.length)))),.c (.int .i64 e.ty.kind),.c (.str e.ty.name),.c (.int .i64 e.ty.id),.c (.int .i64 e.ty.home),.c (.sl (Ty.rows e.ty.args))]:=by rw [Exp.row_eq];rfl
     have hkW:((subC n e x b).take e.kids.length).length=e.kids.length:=by rw [List.length_take,hCl];omega
     have haW:(Za4 e.arms ((subC n e x b).drop e.kids.length)).length=e.arms.length:=by rw [armsW_len,List.length_drop,hCl];omega
     simp only [expV,hrow'] at hc hw
     unfold v82
     simp (maxSteps:=4000000) (disch:=first|omega|(simp;done)|(simp;omega)) [hk,k4,k6,k7,h8,hrow0,hc,-getElem?_pos]
     refine wp_mono (ZiD (A:=A) x b (Zaf b) n e hs1.1 (by omega) hrec) ?_
     rintro _ _ ⟨rfl,rfl⟩
     simp (maxSteps:=4000000) (disch:=first|omega|(simp;done)|(simp;omega)) [hw,hrowW,hCl,hkW,haW,-getElem?_pos]
variable {A:Zac}
def ZkW (ds:List DataD):Prop:=∀ d∈ds,d.cons.length≤2∧∀ c∈d.cons,c.fields.length≤2
def wS:Nat→Nat
 | 0=>1
 | d+1=>3*wS d+5
theorem ZoS:∀ d,1≤wS d
 | 0=>Nat.le_refl _
 | d+1=>by have:=ZoS d;simp only [wS];omega
def RawS (L:List Int)(ds:List DataD)(B:Nat)(r:V × List Obj):Prop:=∃ e J,rawE ds e∧e.weight≤B∧J≤L.length∧r=(expV e,[Zbo L J])
def ArmS (L:List Int)(ds:List DataD)(dd:DataD)(x:Exp)(B d i:Nat)(s:St):Prop:=∃ arms J,arms.length=i∧J≤L.length∧(∀ a∈arms,armE ds a∧rawE ds a.2∧a.2.weight≤B∧a.1.vars.length≤2) ∧
 s=⟨[(0,.sc (.ptr 0 0)),(1,ZaX ds),(2,intV (d+1)),(6,.sc (.ptr 64 0)),(13,.sc (.ptr 10176 0)),(14,.sc (.ptr 10752 0)),(15,intV i)],
  [(0,some (Zbo L J)),(64,some (.box [zi,zi,zs,zi,.nil,.nil,zi,zs,zi,zi,.nil])),(10176,some (.box (wc (ZaM dd)))),(10624,some (.arr 11 [wc x.row] 0)),
    (10752,some (.box [.c (.int .i64 8),zi,zs,zi,.arr 10624 1,.arr 10822 i,zi,zs,zi,zi,.nil])),(10822,some (.arr 14 (wr (Exp.armRows arms)) 0))]⟩
theorem Zrn (L:List Int)(ds:List DataD)(hL:L.length≤1073741824)(hds:ZhP ds)(h2:ZkW ds):∀ (d I:Nat),d≤4→I≤L.length →
 ∃ r,RawS L ds (wS d) r∧(K A).call 22 [.sc (.ptr 0 0),ZaX ds,intV d] [Zbo L I]=some r:=by
 intro d
 induction d using Nat.strongRecOn with
 | ind d ih =>
 intro I hd hI
 obtain ⟨k,J,hk,hJ,hc⟩:=Zen (A:=A) L I 14 hI hL (by omega) (by omega)
 refine ZcI _ (vf:=v22) (by kernel_rfl) rfl (by simp) ?_
 have hp:1≤wS d:=ZoS d
 have hds1:=hds.1
 obtain ⟨c,hc14,hcd,hcs⟩:∃ c:Nat,c<14∧(d=0→c<5)∧((d=0∧(k:Int).tmod 5=c)∨(d≠0∧k=c)):=by
  by_cases h:d=0
  ·refine ⟨k % 5,by omega,fun _=>by omega,.inl ⟨h,rfl⟩⟩
  ·exact ⟨k,by omega,fun h'=>absurd h' h,.inr ⟨h,rfl⟩⟩
 unfold v22
 refine Zex ⟨[(0,.sc (.ptr 0 0)),(1,ZaX ds),(2,intV d),(6,.sc (.ptr 64 0))],[(0,some (Zbo L I)),(64,some (.box [zi,zi,zs,zi,.nil,.nil,zi,zs,zi,zi,.nil]))]⟩ (by simp) ?_
 refine Zex ⟨[(0,.sc (.ptr 0 0)),(1,ZaX ds),(2,intV d),(6,.sc (.ptr 64 0)),(7,intV k)],[(0,some (Zbo L J)),(64,some (.box [zi,zi,zs,zi,.nil,.nil,zi,zs,zi,zi,.nil]))]⟩ (by simp [hc]) ?_
 refine Ztn (fun s=>s=⟨[(0,.sc (.ptr 0 0)),(1,ZaX ds),(2,intV d),(6,.sc (.ptr 64 0)),(7,intV c)],[(0,some (Zbo L J)),(64,some (.box [zi,zi,zs,zi,.nil,.nil,zi,zs,zi,zi,.nil]))]⟩ ∨
  s=⟨[(0,.sc (.ptr 0 0)),(1,ZaX ds),(2,intV d),(6,.sc (.ptr 64 0)),(7,intV c),(21,Zah false)],[(0,some (Zbo L J)),(64,some (.box [zi,zi,zs,zi,.nil,.nil,zi,zs,zi,zi,.nil]))]⟩) ?_ ?_
 ·rcases hcs with ⟨h0,h1⟩|⟨h0,rfl⟩
  ·subst h0
   simp (disch:=first|omega|(simp;done)|(simp;omega)) [h1]
  ·have h0':¬(d:Int)<1:=by omega
   simp (disch:=first|omega|(simp;done)|(simp;omega)) [h0']
 ·intro s hs
  refine Zo0 ⟨[(0,.sc (.ptr 0 0)),(1,ZaX ds),(2,intV d),(6,.sc (.ptr 64 0)),(24,intV c)],[(0,some (Zbo L J)),(64,some (.box [zi,zi,zs,zi,.nil,.nil,zi,zs,zi,zi,.nil]))]⟩ (by rcases hs with rfl | rfl<;>simp) ?_
  clear hs s hcs hc hk
  have leaf:∀ (kind num:Int) (name:Str) (J:Nat),J≤L.length→rawE1 ds (.mk kind 0 name num [] [] tz)→RawS L ds (wS d) (expV (.mk kind 0 name num [] [] tz),[Zbo L J]):=by
   intro kind num name J hJ h8
   refine ⟨_,J,?_,?_,hJ,rfl⟩
   ·rw [Zc4]
    exact ⟨h8,by simp,by simp⟩
   ·rw [ZbE]
    simpa using hp
  by_cases h5:c<5
  ·have:c=0∨c=1∨c=2∨c=3∨c=4:=by omega
   rcases this with rfl|rfl|rfl|rfl|rfl
   ·obtain ⟨s,J1,hs,hJ1,hc1⟩:=Zcc (A:=A) L J hJ hL
    simp (disch:=first|omega|(simp;done)|(simp;omega)) [hc1]
    exact leaf 1 0 s J1 hJ1 (by simp [rawE1,rawS,Exp.kind,Exp.pos,Exp.name,Exp.num,Exp.kids,Exp.arms,Exp.ty,hs])
   ·obtain ⟨s,J1,hs,hJ1,hc1⟩:=Zcc (A:=A) L J hJ hL
    simp (disch:=first|omega|(simp;done)|(simp;omega)) [hc1]
    exact leaf 1 0 s J1 hJ1 (by simp [rawE1,rawS,Exp.kind,Exp.pos,Exp.name,Exp.num,Exp.kids,Exp.arms,Exp.ty,hs])
   ·obtain ⟨n,J1,_,hJ1,hc1⟩:=Zen (A:=A) L J 4 hJ hL (by omega) (by omega)
    simp (disch:=first|omega|(simp;done)|(simp;omega)) [hc1]
    exact leaf 3 n [] J1 hJ1 (by simp [rawE1,rawS,Exp.kind,Exp.pos,Exp.name,Exp.num,Exp.kids,Exp.arms,Exp.ty])
   ·by_cases hz:ds=[]
    ·subst hz
     have hz2:Zax []=[]:=rfl
     simp (disch:=first|omega|(simp;done)|(simp;omega)) [hz2]
     exact leaf 2 0 [71,111,110,101] J hJ (by simp [rawE1,rawS,Exp.kind,Exp.pos,Exp.name,Exp.num,Exp.kids,Exp.arms,Exp.ty,cOk])
    ·have hpos:0<ds.length:=List.length_pos_iff.2 hz
     obtain ⟨m,J1,hm,hJ1,hc1⟩:=Zen (A:=A) L J ds.length hJ hL (by omega) (by omega)
     obtain ⟨dd,hdd⟩:=Zaa (l:=ds) (i:=m) (by omega)
     have hgood:=hds.2 dd (List.mem_of_getElem? hdd)
     obtain ⟨q,J2,hq,hJ2,hc2⟩:=Zen (A:=A) L J1 dd.cons.length hJ1 hL (by have:=hgood.2.1;omega) (by have:=hgood.2.2.1;omega)
     obtain ⟨cc,hcc⟩:=Zaa (l:=dd.cons) (i:=q) (by omega)
     simp (disch:=first|omega|(simp;done)|(simp;omega)) [hpos,hc1,hdd,hc2,hcc,-getElem?_pos]
     have hcok:cOk ds cc.name:=.inr ⟨dd,List.mem_of_getElem? hdd,cc,List.mem_of_getElem? hcc,rfl⟩
     exact leaf 2 0 cc.name J2 hJ2 (by simp [rawE1,rawS,Exp.kind,Exp.pos,Exp.name,Exp.num,Exp.kids,Exp.arms,Exp.ty,hcok])
   ·simp (disch:=first|omega|(simp;done)|(simp;omega))
    exact leaf 10 0 [] J hJ (by simp [rawE1,rawS,Exp.kind,Exp.pos,Exp.name,Exp.num,Exp.kids,Exp.arms,Exp.ty])
  ·obtain ⟨d',rfl⟩:∃ d',d=d'+1:=⟨d-1,by omega⟩
   have ih1:∀ I,I≤L.length→∃ r,RawS L ds (wS d') r∧(K A).call 22 [.sc (.ptr 0 0),ZaX ds,intV d'] [Zbo L I]=some r:=fun I hI=>ih d' (by omega) I (by omega) hI
   have hp':=ZoS d'
   have h32:wS (d'+1)=3*wS d'+5:=rfl
   rw [h32]
   have:c=5∨c=6∨c=7∨c=8∨c=9∨c=10∨c=11∨c=12∨c=13:=by omega
   rcases this with rfl|rfl|rfl|rfl|rfl|rfl|rfl|rfl|rfl
   ·obtain ⟨s,J1,hs,hJ1,hc1⟩:=Zcc (A:=A) L J hJ hL
    obtain ⟨_,⟨x,J2,hx,hxw,hJ2,rfl⟩,hc2⟩:=ih1 J1 hJ1
    simp (disch:=first|omega|(simp;done)|(simp;omega)) [hc1,hc2]
    refine ⟨.mk 4 0 s 0 [x] [] tz,J2,by rw [Zc4];simp [rawE1,rawS,Exp.kind,Exp.pos,Exp.name,Exp.num,Exp.kids,Exp.arms,Exp.ty,hx,hs],by rw [ZbE];simp;omega,hJ2,?_⟩
    simp [expV,Exp.row,tz,Ty.kind,Ty.name,Ty.id,Ty.home,Ty.args]
   ·obtain ⟨s,J1,hs,hJ1,hc1⟩:=Zcc (A:=A) L J hJ hL
    obtain ⟨_,⟨x,J2,hx,hxw,hJ2,rfl⟩,hc2⟩:=ih1 J1 hJ1
    simp (disch:=first|omega|(simp;done)|(simp;omega)) [hc1,hc2]
    refine ⟨.mk 4 0 s 0 [x] [] tz,J2,by rw [Zc4];simp [rawE1,rawS,Exp.kind,Exp.pos,Exp.name,Exp.num,Exp.kids,Exp.arms,Exp.ty,hx,hs],by rw [ZbE];simp;omega,hJ2,?_⟩
    simp [expV,Exp.row,tz,Ty.kind,Ty.name,Ty.id,Ty.home,Ty.args]
   ·obtain ⟨_,⟨x,J1,hx,hxw,hJ1,rfl⟩,hc1⟩:=ih1 J hJ
    obtain ⟨_,⟨y,J2,hy,hyw,hJ2,rfl⟩,hc2⟩:=ih1 J1 hJ1
    simp (disch:=first|omega|(simp;done)|(simp;omega)) [hc1,hc2]
    refine ⟨.mk 5 0 [] 0 [x,y] [] tz,J2,by rw [Zc4];simp [rawE1,rawS,Exp.kind,Exp.pos,Exp.name,Exp.num,Exp.kids,Exp.arms,Exp.ty,hx,hy],by rw [ZbE];simp;omega,hJ2,?_⟩
    simp [expV,Exp.row,tz,Ty.kind,Ty.name,Ty.id,Ty.home,Ty.args]
   ·obtain ⟨_,⟨x,J1,hx,hxw,hJ1,rfl⟩,hc1⟩:=ih1 J hJ
    obtain ⟨_,⟨y,J2,hy,hyw,hJ2,rfl⟩,hc2⟩:=ih1 J1 hJ1
    simp (disch:=first|omega|(simp;done)|(simp;omega)) [hc1,hc2]
    refine ⟨.mk 5 0 [] 0 [x,y] [] tz,J2,by rw [Zc4];simp [rawE1,rawS,Exp.kind,Exp.pos,Exp.name,Exp.num,Exp.kids,Exp.arms,Exp.ty,hx,hy],by rw [ZbE];simp;omega,hJ2,?_⟩
    simp [expV,Exp.row,tz,Ty.kind,Ty.name,Ty.id,Ty.home,Ty.args]
   ·obtain ⟨_,⟨x,J1,hx,hxw,hJ1,rfl⟩,hc1⟩:=ih1 J hJ
    obtain ⟨_,⟨y,J2,hy,hyw,hJ2,rfl⟩,hc2⟩:=ih1 J1 hJ1
    simp (disch:=first|omega|(simp;done)|(simp;omega)) [hc1,hc2]
    refine ⟨.mk 5 0 [] 0 [x,y] [] tz,J2,by rw [Zc4];simp [rawE1,rawS,Exp.kind,Exp.pos,Exp.name,Exp.num,Exp.kids,Exp.arms,Exp.ty,hx,hy],by rw [ZbE];simp;omega,hJ2,?_⟩
    simp [expV,Exp.row,tz,Ty.kind,Ty.name,Ty.id,Ty.home,Ty.args]
   ·obtain ⟨n,J0,hn,hJ0,hc0⟩:=Zen (A:=A) L J 2 hJ hL (by omega) (by omega)
    obtain ⟨s,J1,hs,hJ1,hc1⟩:=Zcc (A:=A) L J0 hJ0 hL
    obtain ⟨_,⟨x,J2,hx,hxw,hJ2,rfl⟩,hc2⟩:=ih1 J1 hJ1
    obtain ⟨_,⟨y,J3,hy,hyw,hJ3,rfl⟩,hc3⟩:=ih1 J2 hJ2
    simp (disch:=first|omega|(simp;done)|(simp;omega)) [hc0,hc1,hc2,hc3]
    refine ⟨.mk (6+n) 0 s 0 [x,y] [] tz,J3,by rw [Zc4];simp [rawE1,rawS,Exp.kind,Exp.pos,Exp.name,Exp.num,Exp.kids,Exp.arms,Exp.ty,hx,hy,hs];omega,by rw [ZbE];simp;omega,hJ3,?_⟩
    simp [expV,Exp.row,tz,Ty.kind,Ty.name,Ty.id,Ty.home,Ty.args]
   ·obtain ⟨_,⟨x,J1,hx,hxw,hJ1,rfl⟩,hc1⟩:=ih1 J hJ
    obtain ⟨_,⟨ty,J2,hty,hJ2,rfl⟩,hc2⟩:=Zto (A:=A) L ds hL hds 2 J1 (by omega) hJ1
    simp at hc2
    simp (disch:=first|omega|(simp;done)|(simp;omega)) [hc1,hc2]
    have hty':ty.size≤46656:=by omega
    refine ⟨.mk 9 0 [] 0 [x] [] ty,J2,by rw [Zc4];simp [rawE1,rawS,Exp.kind,Exp.pos,Exp.name,Exp.num,Exp.kids,Exp.arms,Exp.ty,hx,hty'],by rw [ZbE];simp;omega,hJ2,?_⟩
    simp [expV,Exp.row,Ty.row_eq]
   ·obtain ⟨_,⟨x,J1,hx,hxw,hJ1,rfl⟩,hc1⟩:=ih1 J hJ
    simp (disch:=first|omega|(simp;done)|(simp;omega)) [hc1]
    refine ⟨.mk 11 0 [] 0 [x] [] tz,J1,by rw [Zc4];simp [rawE1,rawS,Exp.kind,Exp.pos,Exp.name,Exp.num,Exp.kids,Exp.arms,Exp.ty,hx],by rw [ZbE];simp;omega,hJ1,?_⟩
    simp [expV,Exp.row,tz,Ty.kind,Ty.name,Ty.id,Ty.home,Ty.args]
   ·by_cases hz:ds=[]
    ·subst hz
     have hz2:Zax []=[]:=rfl
     obtain ⟨_,⟨x,J1,hx,hxw,hJ1,rfl⟩,hc1⟩:=ih1 J hJ
     simp [ZaX,hz2] at hc1
     simp (disch:=first|omega|(simp;done)|(simp;omega)) [ZaX,hz2,hc1]
     exact ⟨x,J1,hx,by omega,hJ1,rfl⟩
    ·have hpos:ds.length≠0:=by have:=List.length_pos_iff.2 hz;omega
     obtain ⟨m,J1,hm,hJ1,hc1⟩:=Zen (A:=A) L J ds.length hJ hL (by omega) (by omega)
     obtain ⟨dd,hdd⟩:=Zaa (l:=ds) (i:=m) (by omega)
     have hgood:=hds.2 dd (List.mem_of_getElem? hdd)
     obtain ⟨hg1,hg2,hg3,hg4⟩:=hgood
     obtain ⟨hs1,hs2⟩:=h2 dd (List.mem_of_getElem? hdd)
     obtain ⟨_,⟨x,J2,hx,hxw,hJ2,rfl⟩,hc2⟩:=ih1 J1 hJ1
     simp (disch:=first|omega|(simp;done)|(simp;omega)) [hz,hc1,hdd,hc2,-getElem?_pos]
     refine Zam (ArmS L ds dd x (wS d') d') dd.cons.length ⟨[],J2,rfl,hJ2,by simp,by simp⟩ ?_ ?_
     ·rintro i s hi ⟨arms,J3,harms,hJ3,hall,rfl⟩
      obtain ⟨cc,hcc⟩:=Zaa hi
      have hfl:=hg4 cc (List.mem_of_getElem? hcc)
      have hfl2:=hs2 cc (List.mem_of_getElem? hcc)
      unfold Zsw
      simp (disch:=first|omega|(simp;done)|(simp;omega)) [hi,hcc,harms,-getElem?_pos]
      refine Zam (VarQ L ds dd x arms cc.name d' i) cc.fields.length ⟨[],J3,rfl,by simp,hJ3,by simp [harms]⟩ ?_ ?_
      ·rintro j s hj ⟨vars,J4,hvars,hvn,hJ4,rfl⟩
       obtain ⟨v,J5,hv,hJ5,hc5⟩:=Zcc (A:=A) L J4 hJ4 hL
       unfold Zsq
       simp (disch:=first|omega|(simp;done)|(simp;omega)) [hi,hj,hcc,hc5,hvars,harms,-getElem?_pos]
       refine ⟨vars++[v],J5,by simp [hvars],?_,hJ5,by simp [harms]⟩
       intro u hu
       rcases List.mem_append.1 hu with hu|hu
       ·exact hvn u hu
       ·simp only [List.mem_singleton] at hu
        exact hu▸hv
      ·rintro s ⟨vars,J4,hvars,hvn,hJ4,rfl⟩
       obtain ⟨_,⟨y,J5,hy,hyw,hJ5,rfl⟩,hc5⟩:=ih1 J4 hJ4
       unfold Zsq
       simp (disch:=first|omega|(simp;done)|(simp;omega)) [hi,hcc,hc5,hvars,harms,-getElem?_pos]
       refine ⟨arms++[(⟨0,cc.name,vars⟩,y)],J5,by simp [harms],hJ5,?_,?_⟩
       ·intro a ha
        rcases List.mem_append.1 ha with ha|ha
        ·exact hall a ha
        ·simp only [List.mem_singleton] at ha
         subst ha
         exact ⟨⟨rfl,.inr ⟨dd,List.mem_of_getElem? hdd,cc,List.mem_of_getElem? hcc,rfl⟩,by simp only;omega,hvn⟩,hy,hyw,by simp only;omega⟩
       ·simp [harms,Exp.armRows_map,wr,Zao]
     ·rintro s ⟨arms,J3,harms,hJ3,hall,rfl⟩
      unfold Zsw
      simp (disch:=first|omega|(simp;done)|(simp;omega)) [harms,-getElem?_pos]
      refine ⟨.mk 8 0 [] 0 [x] arms tz,J3,?_,?_,hJ3,?_⟩
      ·rw [Zc4]
       refine ⟨?_,by simp [hx],fun a ha=>(hall a ha).2.1⟩
       refine ⟨rfl,fun a ha=>(hall a ha).1,tz_size,fun _=>rfl,fun _=>rfl,?_⟩
       simp [rawS,Exp.kind,Exp.name,Exp.kids,Exp.arms]
      ·rw [ZbE]
       have h1:(arms.map fun a=>a.1.vars.length).sum≤(arms.map fun _=>2).sum:=Zjv fun a ha=>(hall a ha).2.2.2
       have h2:(arms.map fun a=>a.2.weight).sum≤(arms.map fun _=>wS d').sum:=Zjv fun a ha=>(hall a ha).2.2.1
       simp only [List.map_const',List.sum_replicate_nat,harms] at h1 h2
       simp only [List.map_cons,List.map_nil,List.sum_cons,List.sum_nil]
       have h3:dd.cons.length*wS d'≤2*wS d':=Nat.mul_le_mul_right _ hs1
       omega
      ·simp [expV,Exp.row,tz,Ty.kind,Ty.name,Ty.id,Ty.home,Ty.args]
def MadeS (ds7:List DataD)(L:List Int)(r:V × List Obj):Prop:=∃ a b J ds,(∀ d∈ds,d∈ds7)∧ZhP ds∧rawE ds a∧a.weight≤wS 4∧rawE ds b∧b.weight≤wS 3∧J≤L.length∧r=(.tu [expV a,expV b,.sc (.ptr 0 0)],[Zbo L J])
theorem ZrX {ds7:List DataD}(bits:Int)(L:List Int)(hL:L.length≤1073741824)(h2:ZkW ds7)(h21:∃ r,ZoC ds7 r∧(K A).call 23 [intV bits] []=some r) :
 ∃ r,MadeS ds7 L r∧(K A).call 20 [intV bits,.sc (.c (.sl (Zbg L)))] []=some r:=by
 refine ZcI _ (vf:=v20) (by kernel_rfl) rfl (by simp) ?_
 obtain ⟨_,⟨ds,hsub,hds,rfl⟩,hc⟩:=h21
 obtain ⟨_,⟨a,J1,ha,haw,hJ1,rfl⟩,hc1⟩:=Zrn (A:=A) L ds hL hds (fun d hd=>h2 d (hsub d hd)) 4 0 (by omega) (by omega)
 obtain ⟨_,⟨b,J2,hb,hbw,hJ2,rfl⟩,hc2⟩:=Zrn (A:=A) L ds hL hds (fun d hd=>h2 d (hsub d hd)) 3 J1 (by omega) hJ1
 simp [Zbo,intV,ZaX] at hc1 hc2
 unfold v20
 simp (disch:=first|omega|(simp;done)|(simp;omega)) [hc,hc1,hc2]
 exact ⟨a,b,J2,ds,hsub,hds,ha,haw,hb,hbw,hJ2,rfl⟩
variable {A:Zac}
theorem Zta (l m:List Str)(h:l.length≤4294967296):(K A).call 85 [Za3 l,Za3 m] []=some (Zah (decide (l=m)),[]):=by
 refine Zan (vf:=v85) (by kernel_rfl) rfl (by decide) ?_
 unfold v85
 by_cases hl:l.length=m.length
 ·have hp:=Zje l m
  simp (disch:=first|omega|(simp;done)|(simp;omega)) [hl]
  refine Zaz (fun i=>⟨[(0,Za3 l),(1,Za3 m),(5,intV i)],[]⟩) (ZbT l m) ?_ ?_ ?_
  ·simp
  ·intro i hi
   obtain ⟨x,hx,hy⟩:=Zjg hi
   have hlt:i<m.length:=by omega
   unfold ZsI
   simp (disch:=first|omega|(simp;done)|(simp;omega)) [hx,hy,hlt,hl,-getElem?_pos]
  ·unfold ZsI
   by_cases hm:ZbT l m<l.length
   ·obtain ⟨x,y,hx,hy,hxy⟩:=Zi6 hl hm
    have hne:l≠m:=fun h=>by rw [←Zgi hl] at h;omega
    have hm':ZbT l m<m.length:=by omega
    simp (disch:=first|omega|(simp;done)|(simp;omega)) [hx,hy,hm',hl,hxy,hne,-getElem?_pos]
   ·have he:l=m:=(Zgi hl).1 (by omega)
    subst he
    simp (disch:=first|omega|(simp;done)|(simp;omega)) [hm,-getElem?_pos]
 ·have hne:l≠m:=fun h=>hl (by rw [h])
  have hl':¬(l.length:Int)=m.length:=by omega
  simp (disch:=first|omega|(simp;done)|(simp;omega)) [hl',hne,hl]
theorem ZmC (l m:List Exp)(hl:l.length≤1073741824)(ih:∀ x∈l,∀ y∈m,∃ r,IffB (sameP x y) r∧(K A).call 35 [expV x,expV y] []=some r) :
 ∃ r,IffB (allR sameP l m) r∧(K A).call 86 [exsV l,exsV m] []=some r:=by
 refine ZcI _ (vf:=v86) (by kernel_rfl) rfl (by simp) ?_
 unfold v86
 by_cases hn:l.length=m.length
 ·simp (disch:=first|omega|(simp;done)|(simp;omega)) [hn]
  refine Zam (fun i s=>(∀ (j:Nat) x y,j<i→l[j]?=some x→m[j]?=some y→sameP x y)∧s=⟨[(0,exsV l),(1,exsV m),(5,intV i)],[]⟩) l.length ⟨by omega,by simp⟩ ?_ ?_
  ·rintro i s hi ⟨hs,rfl⟩
   obtain ⟨x,hx⟩:=Zaa hi
   obtain ⟨y,hy⟩:=Zaa (l:=m) (i:=i) (by omega)
   obtain ⟨_,⟨b,hb,rfl⟩,hc⟩:=ih x (List.mem_of_getElem? hx) y (List.mem_of_getElem? hy)
   unfold Zs8
   cases b with
   | true =>
    have hxy:=hb.1 rfl
    simp (disch:=first|omega|(simp;done)|(simp;omega)) [hi,hx,hy,hc,-getElem?_pos]
    intro j x' y' hj hx' hy'
    by_cases hji:j=i
    ·subst hji
     rw [hx] at hx'
     rw [hy] at hy'
     cases hx'
     cases hy'
     exact hxy
    ·exact hs j x' y' (by omega) hx' hy'
   | false =>
    simp (disch:=first|omega|(simp;done)|(simp;omega)) [hi,hx,hy,hc,-getElem?_pos]
    exact IffB.no fun h=>by have:=hb.2 (h.2 i x y hx hy);cases this
  ·rintro s ⟨hs,rfl⟩
   unfold Zs8
   simp (disch:=first|omega|(simp;done)|(simp;omega))
   exact IffB.yes ⟨hn,fun i x y hx hy=>hs i x y (List.getElem?_eq_some_iff.1 hx).1 hx hy⟩
 ·have hn':¬(l.length:Int)=m.length:=by omega
  simp (disch:=first|omega|(simp;done)|(simp;omega)) [hn,hn']
  exact IffB.no fun h=>hn h.1
theorem Zr5 (a:Exp):∀ b,tyBd a→a.weight≤1073741824→b.weight≤1073741824→∃ r,IffB (sameP a b) r∧(K A).call 35 [expV a,expV b] []=some r:=by
 induction a using Exp.ind with
 | h a ih =>
 intro b ht hw hwb
 have hal:=a.children_le
 have hbl:=b.children_le
 have hchA:=a.children_len
 have hchB:=b.children_len
 refine ZcI _ (vf:=v35) (by kernel_rfl) rfl (by simp) ?_
 obtain ⟨_,⟨t,h3,rfl⟩,hc3⟩:=teq85 (A:=A) 1073741824 a.ty b.ty ht.one (by omega)
 have hca:=ZcE (A:=A) a (by omega)
 have hcb:=ZcE (A:=A) b (by omega)
 obtain ⟨_,⟨vk,hK,rfl⟩,hck⟩:=ZmC (A:=A) a.children b.children (by omega) fun x hx y hy=>ih x hx y (ht.child hx) (by have:=Exp.child_lt hx;omega) (by have:=Exp.child_lt hy;omega)
 unfold v35
 by_cases q1:a.kind=b.kind
 case neg =>
  simp (disch:=first|omega|(simp;done)|(simp;omega)) [q1]
  exact IffB.no fun h=>by rw [ZbH] at h;exact q1 h.1
 by_cases q2:a.name=b.name
 case neg =>
  simp (disch:=first|omega|(simp;done)|(simp;omega)) [q1,q2]
  exact IffB.no fun h=>by rw [ZbH] at h;exact q2 h.2.1
 by_cases q3:a.num=b.num
 case neg =>
  simp (disch:=first|omega|(simp;done)|(simp;omega)) [q1,q2,q3]
  exact IffB.no fun h=>by rw [ZbH] at h;exact q3 h.2.2.1
 cases t with
 | false =>
  simp (disch:=first|omega|(simp;done)|(simp;omega)) [q1,q2,q3,hc3]
  exact IffB.no fun h=>by rw [ZbH] at h;have:=h3.2 h.2.2.2.1;cases this
 | true =>
 have q4:=h3.1 rfl
 by_cases q5:a.kids.length=b.kids.length
 case neg =>
  have q5':¬(a.kids.length:Int)=b.kids.length:=by omega
  simp (disch:=first|omega|(simp;done)|(simp;omega)) [q1,q2,q3,hc3,q5,q5']
  exact IffB.no fun h=>by rw [ZbH] at h;exact q5 h.2.2.2.2.1
 by_cases q6:a.arms.length=b.arms.length
 case neg =>
  have q6':¬(a.arms.length:Int)=b.arms.length:=by omega
  simp (disch:=first|omega|(simp;done)|(simp;omega)) [q1,q2,q3,hc3,q5,q6,q6']
  exact IffB.no fun h=>by rw [ZbH] at h;exact q6 h.2.2.2.2.2.1
 have hrest:(∀ (i:Nat) p q,a.arms[i]?=some p→b.arms[i]?=some q→p.1.con=q.1.con∧p.1.vars=q.1.vars)→IffB (sameP a b) (Zah vk,[]):=by
  intro harms
  refine ⟨vk,hK.trans ?_,rfl⟩
  rw [ZbH]
  exact ⟨fun h=>⟨q1,q2,q3,q4,q5,q6,harms,h.2⟩,fun h=>⟨by omega,h.2.2.2.2.2.2.2⟩⟩
 have hbad:∀ (i:Nat) p q,a.arms[i]?=some p→b.arms[i]?=some q→¬(p.1.con=q.1.con∧p.1.vars=q.1.vars)→IffB (sameP a b) (Zah false,[]):=by
  intro i p q hp hq h
  exact IffB.no fun h'=>by rw [ZbH] at h';exact h (h'.2.2.2.2.2.2.1 i p q hp hq)
 generalize sameP a b=P at hrest hbad ⊢
 clear ih hK ht
 simp (disch:=first|omega|(simp;done)|(simp;omega)) [q1,q2,q3,hc3,q5,q6]
 refine Zam (fun i s=>(∀ (j:Nat) p q,j<i→a.arms[j]?=some p→b.arms[j]?=some q→p.1.con=q.1.con∧p.1.vars=q.1.vars)∧s=⟨[(2,.sc (.ptr 64 0)),(3,.sc (.ptr 128 0)),(5,intV i)],[(64,some (.box (wc a.row))),(128,some (.box (wc b.row)))]⟩) a.arms.length ⟨by omega,by simp⟩ ?_ ?_
 ·rintro i s hi ⟨hs,rfl⟩
  obtain ⟨p,hp⟩:=Zaa hi
  obtain ⟨q,hq⟩:=Zaa (l:=b.arms) (i:=i) (by omega)
  have hv:=Exp.vars_le (List.mem_of_getElem? hp)
  have hc:=Zta (A:=A) p.1.vars q.1.vars (by omega)
  have hib:i<b.arms.length:=by omega
  have bad:=hbad i p q hp hq
  have hiI:(i:Int)<b.arms.length:=by omega
  unfold ZsG
  by_cases c1:p.1.con=q.1.con
  ·by_cases c2:p.1.vars=q.1.vars
   ·rw [c2] at hc
    simp (maxSteps:=4000000) (disch:=first|omega|(simp;done)|(simp;omega)) [hi,hib,hiI,hp,hq,hc,c1,c2,q6,-getElem?_pos]
    intro j x1 x2 y1 y2 hj hx' hy'
    by_cases hji:j=i
    ·subst hji
     rw [hp] at hx'
     rw [hq] at hy'
     cases hx'
     cases hy'
     exact ⟨c1,c2⟩
    ·exact hs j _ _ (by omega) hx' hy'
   ·simp (maxSteps:=4000000) (disch:=first|omega|(simp;done)|(simp;omega)) [hi,hib,hiI,hp,hq,hc,c1,c2,q6,-getElem?_pos]
    exact bad fun h=>c2 h.2
  ·simp (maxSteps:=4000000) (disch:=first|omega|(simp;done)|(simp;omega)) [hi,hib,hiI,hp,hq,hc,c1,q6,-getElem?_pos]
   exact bad fun h=>c1 h.1
 ·rintro s ⟨hs,rfl⟩
  have yes:=hrest fun i p q hp hq=>hs i p q (List.getElem?_eq_some_iff.1 hp).1 hp hq
  unfold ZsG
  simp (maxSteps:=4000000) (disch:=first|omega|(simp;done)|(simp;omega)) [hca,hcb,hck,q6,-getElem?_pos]
  exact yes
variable {A:Zac}
theorem ZbP:∀ s∈Za8,s.length≤2:=by decide
theorem rawE.free {ds:List DataD}{e:Exp}:rawE ds e→∀ s∈Zaf e,s∈Za8:=by
 induction e using Exp.ind with
 | h e ih =>
  intro h s hs
  by_cases hk:e.kind=1
  ·rw [Za6 hk] at hs
   subst hs
   obtain ⟨_,_,_,_,_,h⟩:=h.one
   rcases h with ⟨_,n,_⟩|⟨k,_⟩|⟨k,_⟩|⟨k,_⟩|⟨k,_⟩|⟨k,_⟩|⟨k,_⟩|⟨k,_⟩
   ·exact n
   all_goals (exfalso;omega)
  ·obtain ⟨i,x,hx,h1,_⟩:=(Zbu hk).1 hs
   exact ih x (List.mem_of_getElem? hx) (h.child (List.mem_of_getElem? hx)) s h1
def tkOk (n:Nat)(l:List Str):Prop:=l.length=n∧∀ s∈l,s.length≤2
end Go.Vs.Tryz
