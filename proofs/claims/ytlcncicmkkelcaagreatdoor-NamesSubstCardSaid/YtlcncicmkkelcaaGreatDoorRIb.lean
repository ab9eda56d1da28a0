/- Substitution by the reference, walked: variables, functions. (Parts of one proof, put together.) -/
import Derived.Test.YtlcncicmkkelcaaGreatDoorRHb
set_option linter.unusedSimpArgs false
set_option linter.unusedVariables false
set_option linter.deprecated false
set_option maxHeartbeats 64000000
set_option maxRecDepth 10000
namespace Go.Vs.Tryz
open Go Go.Vs
variable {A:Zac}
theorem ZkM {n:Nat}(e:Exp)(x:Str)(b:Exp)(hk:e.kind=1):(K A).call 36 [expV e,strV x,expV b] []=some (expV (refS (n+1) e x b),[]):=by
 refine Zan (vf:=v36) (by kernel_rfl) rfl (by simp) ?_
 have hrow0:=ZaU e
 have hrowb:=ZaU b
 rw [ZcF,if_pos hk]
 unfold v36
 by_cases hx:e.name=x
 ·rw [if_pos hx]
  simp (maxSteps:=4000000) (disch:=first|omega|(simp;done)|(simp;omega)) [hk,hx,hrowb,-getElem?_pos]
 ·rw [if_neg hx]
  simp (maxSteps:=4000000) (disch:=first|omega|(simp;done)|(simp;omega)) [hk,hx,hrow0,-getElem?_pos]
theorem ZmA {ks:List Exp}{x:Str}:x∈Zaf (.mk 5 0 [] 0 ks [] tz)↔∃ k∈ks,x∈Zaf k:=by
 have hc:(Exp.mk 5 0 [] 0 ks [] tz).children=ks:=by rw [ZaH];simp
 have hb:∀ i,(Exp.mk 5 0 [] 0 ks [] tz).bound i=[]:=fun i=>by rw [Zea,if_neg (by omega),if_neg (by omega)]
 rw [Zbu (show (Exp.mk 5 0 [] 0 ks [] tz).kind≠1 from (by decide:¬(5:Int)=1)),hc]
 constructor
 ·rintro ⟨i,k,hk,h,_⟩
  exact ⟨k,List.mem_of_getElem? hk,h⟩
 ·rintro ⟨k,hk,h⟩
  obtain ⟨i,hi⟩:=List.mem_iff_getElem?.1 hk
  exact ⟨i,k,hi,h,by rw [hb];simp⟩
theorem ZqM {e:Exp}(ha:e.arms=[])(hs:shp e):(Exp.mk 5 0 [] 0 e.kids [] tz).wf∧(Exp.mk 5 0 [] 0 e.kids [] tz).weight≤e.weight:=by
 have hc:(Exp.mk 5 0 [] 0 e.kids [] tz).children=e.kids:=by rw [ZaH];simp
 have hc2:e.children=e.kids:=by simp [Exp.children,ha]
 refine ⟨?_,?_⟩
 ·rw [Exp.wf_eq,hc]
  exact ⟨⟨fun h=>absurd (show (5:Int)=8 from h) (by decide),fun _=>rfl,fun h=>absurd (show (5:Int)=1 from h) (by decide)⟩,fun k hk=>(hs.child (ZcS hk)).wf⟩
 ·rw [Exp.weight_eq,e.weight_eq,hc,hc2,ZcZ,ha]
  exact Nat.le_refl _
theorem ZjQ {e:Exp}{x:Str}{b:Exp}(hk:e.kind=4∨e.kind=7):hitP x (Zaf b) e.name (e.kids.drop (Zap e))↔e.name∈Zaf b∧x∈Zaf (.mk 5 0 [] 0 e.kids [] tz):=by
 have h0:Zap e=0:=by unfold Zap;rw [if_neg (by omega)]
 rw [h0,ZmA]
 rfl
theorem ZqG {S:Exp→Str→Exp→Exp}{e:Exp}{x:Str}{b:Exp}(h:¬hitP x (Zaf b) e.name (e.kids.drop (Zap e))):Zdl S x b e=e:=by unfold Zdl;exact if_pos (.inr (.inr h))
theorem Zoa {S:Exp→Str→Exp→Exp}{e:Exp}{x:Str}{b:Exp}(hk:e.kind=4∨e.kind=7)(hs:shp1 e)(hx:e.name≠x)(h:hitP x (Zaf b) e.name (e.kids.drop (Zap e))) :
 Zdl S x b e=.mk e.kind e.pos (newR x b e) e.num (e.kids.map fun k=>S k e.name (varX (newR x b e))) e.arms e.ty:=by
 have h0:Zap e=0:=by unfold Zap;rw [if_neg (by omega)]
 have hl:0<e.kids.length:=by
  have:=hs.2.2
  unfold Zjy at this
  rcases hk with k|k
  ·rw [if_neg (by omega),if_pos (by omega)] at this;omega
  ·rw [if_pos (by omega)] at this;omega
 unfold Zdl
 rw [if_neg (by
  rintro (q|q|q)
  ·exact hx q
  ·omega
  ·exact q h)]
 congr 1
 refine List.ext_getElem? fun i => ?_
 rw [List.getElem?_map,List.getElem?_map,List.getElem?_zipIdx,h0]
 cases e.kids[i]?<;>simp
theorem Zhh {n:Nat}(hI:Zmp A n)(e:Exp)(x:Str)(b:Exp)(hn:e.weight≤n+1)(hl:e.weight≤100000)(hs:shp e)(hb:b.wf)(hbw:b.weight≤100000)(hk:e.kind=4∨e.kind=7) :
 (K A).call 36 [expV e,strV x,expV b] []=some (expV (refS (n+1) e x b),[]):=by
 refine Zan (vf:=v36) (by kernel_rfl) rfl (by simp) ?_
 have hrow0:=ZaU e
 have hk1:¬e.kind=1:=by omega
 unfold v36
 by_cases hx:e.name=x
 ·rw [ZnY hk hs.one hx]
  rcases hk with hk|hk
  ·simp (maxSteps:=4000000) (disch:=first|omega|(simp;done)|(simp;omega)) [hk,hx,hrow0,-getElem?_pos]
  ·simp (maxSteps:=4000000) (disch:=first|omega|(simp;done)|(simp;omega)) [hk,hx,hrow0,-getElem?_pos]
 ·rw [Zkl hk hs.one hx]
  obtain ⟨ha,hch⟩:=ZaT (e:=e) (by omega) hs.one
  obtain ⟨w1,w2⟩:=ZqM ha hs
  have hcl:=Zj8 (A:=A) e.name x b (.mk 5 0 [] 0 e.kids [] tz) hb w1 (by omega) (by omega)
  rw [ZoO] at hcl
  have hwk:∀ k∈e.kids,k.weight≤n∧k.weight≤100000∧shp k:=fun k hm=>⟨by have:=Exp.child_lt (ZcS hm);omega,by have:=Exp.child_lt (ZcS hm);omega,hs.child (ZcS hm)⟩
  have hkl:e.kids.length≤2:=by
   have:=hs.one.2.2
   unfold Zjy at this
   split at this
   ·omega
   ·split at this<;>omega
  have hkd:decide (e.kind=4∨e.kind=7)=true:=by simpa using hk
  by_cases hh:e.name∈Zaf b∧x∈Zaf (.mk 5 0 [] 0 e.kids [] tz)
  ·rw [Zoa hk hs.one hx ((ZjQ hk).2 hh)]
   have hfree:=Zi3 (A:=A) b hb (by omega)
   rw [ZdZ b hb] at hfree
   have hfl:=ZbY b
   have hall:=Ztg (A:=A) e (by omega)
   have hal:=ZdD e
   have hun:=Zis (A:=A) (Zaf b++ZbK e++[x]) (by simp;omega)
   have hto:ZaK 0 (Zaf b++ZbK e++[x])=newR x b e:=rfl
   rw [hto] at hun
   have hnot:=ZlA (x:=x) (b:=b) hs.wf
   simp only [List.append_assoc] at hun
   simp only [Zeu,Zj3]
   generalize newR x b e=to at *
   generalize Zaf b=P at *
   generalize ZbK e=R at *
   have hrk:∀ k∈e.kids,shp (refS n k e.name (varX to))∧(refS n k e.name (varX to)).weight=k.weight:=fun k hm=>by
    obtain ⟨i,hi⟩:=List.mem_iff_getElem?.1 hm
    exact ZkI (hwk k hm).2.2 (hwk k hm).1 fun q=>hnot (ZaA.2 (.inr ⟨i,k,by rw [hch];exact hi,.inr q⟩))
   have hfold:wr (Zag (P++R))++[[W.c (.str x)]]=wr (Zag (P++(R++[x]))):=by simp [Zag,ZdG,wr,wc]
   have hk2:∀ (i:Nat) k,e.kids[i]?=some k→(e.kids.map fun k=>refS n k e.name (varX to))[i]?=some (refS n k e.name (varX to)):=fun i k h=>by rw [List.getElem?_map,h];rfl
   have hk2l:(e.kids.map fun k=>refS n k e.name (varX to)).length=e.kids.length:=by simp
   generalize (e.kids.map fun k=>refS n k e.name (varX to))=k2 at *
   rcases hk with hk|hk
   all_goals
    rw [hk] at hrow0
    simp only [expV,hrow0] at hall
    simp (maxSteps:=4000000) (disch:=first|omega|(simp;done)|(simp;omega)) [hk,hx,hrow0,hcl,hh,hfree,hall,hun,hfold,Nat.add_assoc,-getElem?_pos]
    refine Zaz (fun i=>⟨[(1,strV x),(3,.sc (.ptr 64 0)),(5,.sc (.ptr 128 0)),(6,.sc (.ptr 192 0)),(8,strV to),(9,.sc (.ptr 3072 0)),(10,intV i)],
     [(64,some (.box [.c (.int .i64 e.kind),.c (.int .i64 e.pos),.c (.str e.name),.c (.int .i64 e.num),.c (.sl (Exp.rows e.kids)),.c (.sl (Exp.armRows e.arms)),.c (.int .i64 e.ty.kind),.c (.str e.ty.name),.c (.int .i64 e.ty.id),.c (.int .i64 e.ty.home),.c (.sl (Ty.rows e.ty.args))])),(128,some (.box (wc b.row))),(192,some (.box [zi,zi,zs,zi,.nil,.nil,zi,zs,zi,zi,.nil])),(2464,some (.arr 1 (wr (Zag (P++(R++[x])))) 0)),
       (3072,some (.box [.c (.int .i64 e.kind),.c (.int .i64 e.pos),.c (.str to),.c (.int .i64 e.num),.arr 3457 i,.c (.sl (Exp.armRows e.arms)),.c (.int .i64 e.ty.kind),.c (.str e.ty.name),.c (.int .i64 e.ty.id),.c (.int .i64 e.ty.home),.c (.sl (Ty.rows e.ty.args))])),(3457,some (.arr 11 (wr (Exp.rows (k2.take i))) 0))]⟩) e.kids.length ?_ ?_ ?_
    ·simp [hk,Exp.rows]
    ·intro i hi
     obtain ⟨k,hkk⟩:=Zaa hi
     obtain ⟨g1,g2,g3⟩:=hwk k (List.mem_of_getElem? hkk)
     have hr:=Zf8 hI k e.name to g1 g2 g3
     have hz:=hk2 i k hkk
     have htl:(k2.take i).length=i:=by rw [List.length_take];omega
     have hkI:(i:Int)<e.kids.length:=by omega
     unfold ZrU
     simp (maxSteps:=4000000) (disch:=first|omega|(simp;done)|(simp;omega)) [hi,hkI,hkk,hr,htl,Zat hz,-getElem?_pos]
    ·have htk:k2.take e.kids.length=k2:=List.take_of_length_le (by omega)
     have hlen0:k2.length=e.kids.length:=hk2l
     unfold ZrU
     simp (maxSteps:=4000000) (disch:=first|omega|(simp;done)|(simp;omega)) [htk,hlen0,-getElem?_pos]
     have hz:(k2.map fun k=>refS n k x b).length=e.kids.length:=by rw [List.length_map];exact hk2l
     have hrs:∀ (i:Nat) k,k2[i]?=some k→(k2.map fun k=>refS n k x b)[i]?=some (refS n k x b):=fun i k h=>by rw [List.getElem?_map,h];rfl
     generalize (k2.map fun k=>refS n k x b)=rs at *
     refine Zaz (fun i=>⟨[(1,strV x),(3,.sc (.ptr 64 0)),(5,.sc (.ptr 128 0)),(6,.sc (.ptr 192 0)),(11,.sc (.ptr 5248 0)),(12,intV i)],
      [(64,some (.box [.c (.int .i64 e.kind),.c (.int .i64 e.pos),.c (.str to),.c (.int .i64 e.num),.c (.sl (Exp.rows k2)),.c (.sl (Exp.armRows e.arms)),.c (.int .i64 e.ty.kind),.c (.str e.ty.name),.c (.int .i64 e.ty.id),.c (.int .i64 e.ty.home),.c (.sl (Ty.rows e.ty.args))])),(128,some (.box (wc b.row))),(192,some (.box [zi,zi,zs,zi,.nil,.nil,zi,zs,zi,zi,.nil])),(2464,some (.arr 1 (wr (Zag (P++(R++[x])))) 0)),
        (3457,some (.arr 11 (wr (Exp.rows k2)) e.kids.length)),(5248,some (.box [.c (.int .i64 e.kind),.c (.int .i64 e.pos),.c (.str to),.c (.int .i64 e.num),.arr 5441 i,.c (.sl (Exp.armRows e.arms)),.c (.int .i64 e.ty.kind),.c (.str e.ty.name),.c (.int .i64 e.ty.id),.c (.int .i64 e.ty.home),.c (.sl (Ty.rows e.ty.args))])),(5441,some (.arr 11 (wr (Exp.rows (rs.take i))) 0))]⟩) e.kids.length ?_ ?_ ?_
     ·simp [hk,Exp.rows]
     ·intro i hi
      obtain ⟨k0,hk0⟩:=Zaa hi
      obtain ⟨g1,g2,g3⟩:=hwk k0 (List.mem_of_getElem? hk0)
      obtain ⟨v1,v2⟩:=hrk k0 (List.mem_of_getElem? hk0)
      have hkk:=hk2 i k0 hk0
      generalize refS n k0 e.name (varX to)=k at *
      have hr:=hI k x b (by omega) (by omega) v1 hb hbw
      have hz1:=hrs i k hkk
      have htl:(rs.take i).length=i:=by rw [List.length_take];omega
      have hkI:(i:Int)<e.kids.length:=by omega
      unfold Zoq
      simp (maxSteps:=4000000) (disch:=first|omega|(simp;done)|(simp;omega)) [hi,hkI,hkk,hr,htl,hlen0,Zat hz1,-getElem?_pos]
     ·have htr:rs.take e.kids.length=rs:=List.take_of_length_le (by omega)
      have hrr:wc (Exp.mk e.kind e.pos to e.num rs [] e.ty).row=[.c (.int .i64 e.kind),.c (.int .i64 e.pos),.c (.str to),.c (.int .i64 e.num),.c (.sl (Exp.rows rs)),.c (.sl []),.c (.int .i64 e.ty.kind),.c (.str e.ty.name),.c (.int .i64 e.ty.id),.c (.int .i64 e.ty.home),.c (.sl (Ty.rows e.ty.args))]:=by
       rw [Exp.row_eq]
       simp [Exp.armRows,Exp.kind,Exp.pos,Exp.name,Exp.num,Exp.kids,Exp.arms,Exp.ty,wc]
      have har:Exp.armRows e.arms=[]:=by rw [ha,Exp.armRows]
      rw [hk] at hrr
      unfold Zoq
      simp (maxSteps:=4000000) (disch:=first|omega|(simp;done)|(simp;omega)) [htr,hz,har,hk,hrr,hlen0,-getElem?_pos]
  ·rw [ZqG (fun q=>hh ((ZjQ hk).1 q))]
   have hz:(e.kids.map fun k=>refS n k x b).length=e.kids.length:=by simp
   have hrs:∀ (i:Nat) k,e.kids[i]?=some k→(e.kids.map fun k=>refS n k x b)[i]?=some (refS n k x b):=fun i k h=>by rw [List.getElem?_map,h];rfl
   generalize (e.kids.map fun k=>refS n k x b)=rs at *
   rcases hk with hk|hk
   all_goals
    rw [hk] at hrow0
    simp (maxSteps:=4000000) (disch:=first|omega|(simp;done)|(simp;omega)) [hk,hx,hrow0,hcl,hh,-getElem?_pos]
    refine Zaz (fun i=>⟨[(1,strV x),(3,.sc (.ptr 64 0)),(5,.sc (.ptr 128 0)),(6,.sc (.ptr 192 0)),(11,.sc (.ptr 5248 0)),(12,intV i)],
     [(64,some (.box [.c (.int .i64 e.kind),.c (.int .i64 e.pos),.c (.str e.name),.c (.int .i64 e.num),.c (.sl (Exp.rows e.kids)),.c (.sl (Exp.armRows e.arms)),.c (.int .i64 e.ty.kind),.c (.str e.ty.name),.c (.int .i64 e.ty.id),.c (.int .i64 e.ty.home),.c (.sl (Ty.rows e.ty.args))])),
       (128,some (.box (wc b.row))),(192,some (.box [zi,zi,zs,zi,.nil,.nil,zi,zs,zi,zi,.nil])),
       (5248,some (.box [.c (.int .i64 e.kind),.c (.int .i64 e.pos),.c (.str e.name),.c (.int .i64 e.num),.arr 5441 i,.c (.sl (Exp.armRows e.arms)),.c (.int .i64 e.ty.kind),.c (.str e.ty.name),.c (.int .i64 e.ty.id),.c (.int .i64 e.ty.home),.c (.sl (Ty.rows e.ty.args))])),
       (5441,some (.arr 11 (wr (Exp.rows (rs.take i))) 0))]⟩) e.kids.length ?_ ?_ ?_
    ·simp [hk,Exp.rows]
    ·intro i hi
     obtain ⟨k,hkk⟩:=Zaa hi
     obtain ⟨g1,g2,g3⟩:=hwk k (List.mem_of_getElem? hkk)
     have hr:=hI k x b g1 g2 g3 hb hbw
     have hz:=hrs i k hkk
     have htl:(rs.take i).length=i:=by rw [List.length_take];omega
     have hkI:(i:Int)<e.kids.length:=by omega
     unfold Zoq
     simp (maxSteps:=4000000) (disch:=first|omega|(simp;done)|(simp;omega)) [hi,hkI,hkk,hr,htl,Zat hz,-getElem?_pos]
    ·have htk:rs.take e.kids.length=rs:=List.take_of_length_le (by omega)
     have hrr:wc (Exp.mk e.kind e.pos e.name e.num rs [] e.ty).row=[.c (.int .i64 e.kind),.c (.int .i64 e.pos),.c (.str e.name),.c (.int .i64 e.num),.c (.sl (Exp.rows rs)),.c (.sl []),.c (.int .i64 e.ty.kind),.c (.str e.ty.name),.c (.int .i64 e.ty.id),.c (.int .i64 e.ty.home),.c (.sl (Ty.rows e.ty.args))]:=by
      rw [Exp.row_eq]
      simp [Exp.armRows,Exp.kind,Exp.pos,Exp.name,Exp.num,Exp.kids,Exp.arms,Exp.ty,wc]
     have har:Exp.armRows e.arms=[]:=by rw [ha,Exp.armRows]
     rw [hk] at hrr
     unfold Zoq
     simp (maxSteps:=4000000) (disch:=first|omega|(simp;done)|(simp;omega)) [htk,hz,har,hk,hrr,-getElem?_pos]
variable {A:Zac}
theorem Zsi (e:Exp)(cs:List Exp)(h:cs.length=e.kids.length+e.arms.length)(hle:e.kids.length+e.arms.length≤1073741824):(K A).call 92 [expV e,exsV cs] [] =
 some (.ag [.c (.int .i64 e.kind),.c (.int .i64 e.pos),.c (.str e.name),.c (.int .i64 e.num),.arr 0 e.kids.length,.arr 1 e.arms.length,.c (.int .i64 e.ty.kind),.c (.str e.ty.name),.c (.int .i64 e.ty.id),.c (.int .i64 e.ty.home),.c (.sl (Ty.rows e.ty.args))],
  [.arr 11 (wr (Exp.rows (cs.take e.kids.length))) 0,.arr 14 (wr (Exp.armRows (Za4 e.arms (cs.drop e.kids.length)))) 0]):=by
 refine Zan (vf:=v92) (by kernel_rfl) rfl (by simp) ?_
 have hrow:wc e.row=[.c (.int .i64 e.kind),.c (.int .i64 e.pos),.c (.str e.name),.c (.int .i64 e.num),.c (.sl (Exp.rows e.kids)),.c (.sl (Exp.armRows e.arms)),.c (.int .i64 e.ty.kind),.c (.str e.ty.name),.c (.int .i64 e.ty.id),.c (.int .i64 e.ty.home),.c (.sl (Ty.rows e.ty.args))]:=by rw [Exp.row_eq];rfl
 have hzl:(Za4 e.arms (cs.drop e.kids.length)).length=e.arms.length:=by rw [armsW_len,List.length_drop];omega
 have hfit:Zbv 11 (Exp.rows cs)=true:=by rw [Exp.rows_map];exact Zip Exp.row_len cs
 have htk:(Exp.rows cs).take e.kids.length=Exp.rows (cs.take e.kids.length):=by simp [Exp.rows_map,List.map_take]
 have hcl:(cs.take e.kids.length).length=e.kids.length:=by rw [List.length_take];omega
 unfold v92
 simp (maxSteps:=4000000) (disch:=first|omega|(simp;done)|(simp;omega)) [h,hrow,hfit,htk,hcl,-getElem?_pos]
 refine Zaz (fun i=>⟨[(1,exsV cs),(4,.sc (.ptr 128 0)),(5,intV e.kids.length),(6,.sc (.ptr 1152 0)),(7,intV i)],
  [(128,some (.box [zi,zi,zs,zi,.nil,.nil,zi,zs,zi,zi,.nil])),(1152,some (.box [.c (.int .i64 e.kind),.c (.int .i64 e.pos),.c (.str e.name),.c (.int .i64 e.num),.arr 1472 e.kids.length,.arr 1664 e.arms.length,.c (.int .i64 e.ty.kind),.c (.str e.ty.name),.c (.int .i64 e.ty.id),.c (.int .i64 e.ty.home),.c (.sl (Ty.rows e.ty.args))])),
    (1472,some (.arr 11 (wr (Exp.rows (cs.take e.kids.length))) 0)),(1664,some (.arr 14 (wr (Exp.armRows ((Za4 e.arms (cs.drop e.kids.length)).take i++e.arms.drop i))) 0))]⟩) e.arms.length ?_ ?_ ?_
 ·simp
 ·intro i hi
  obtain ⟨a,ha⟩:=Zaa hi
  obtain ⟨c,hc⟩:=Zaa (l:=cs) (i:=e.kids.length+i) (by omega)
  have hz:(Za4 e.arms (cs.drop e.kids.length))[i]?=some (a.1,c):=by
   unfold Za4
   rw [List.getElem?_zipWith,ha,List.getElem?_drop,hc]
  have hg:=Zcz hzl hi
  rw [ha] at hg
  have hs:=Zcg hzl hz
  have hln:=ZcA (i:=i) hzl
  rw [←hs]
  generalize (Za4 e.arms (cs.drop e.kids.length)).take i++e.arms.drop i=zz at hg hln ⊢
  have hset:=Zdv zz i (a.1,c)
  have hsp:=ZhJ a c
  have hnb:Zal (intV ((e.kids.length:Int)+i)) cs.length=some (e.kids.length+i):=natBelow_cast (k:=.i64) (n:=e.kids.length+i) (by omega)
  unfold Ztj
  simp (maxSteps:=4000000) (disch:=first|omega|(simp;done)|(simp;omega)) [hi,hg,hln,hc,hnb,hsp,hset,Zbi,-getElem?_pos]
 ·have ht:(Za4 e.arms (cs.drop e.kids.length)).take e.arms.length++e.arms.drop e.arms.length=Za4 e.arms (cs.drop e.kids.length):=by
   rw [List.drop_length,List.append_nil,List.take_of_length_le (by omega)]
  rw [ht]
  unfold Ztj
  simp (maxSteps:=4000000) (disch:=first|omega|(simp;done)|(simp;omega)) [hzl,-getElem?_pos]
theorem Zkn {n:Nat}(hI:Zmp A n)(p nu:Int)(nm:Str)(k0 k1:Exp)(ty:Ty)(x:Str)(b:Exp)(hn:(Exp.mk 6 p nm nu [k0,k1] [] ty).weight≤n+1)(hl:(Exp.mk 6 p nm nu [k0,k1] [] ty).weight≤100000)(hs:shp (.mk 6 p nm nu [k0,k1] [] ty))(hb:b.wf)(hbw:b.weight≤100000) :
 (K A).call 36 [expV (.mk 6 p nm nu [k0,k1] [] ty),strV x,expV b] []=some (expV (refS (n+1) (.mk 6 p nm nu [k0,k1] [] ty) x b),[]):=by
 refine Zan (vf:=v36) (by kernel_rfl) rfl (by simp) ?_
 rw [Zpy]
 have hrow0:=ZaU (.mk 6 p nm nu [k0,k1] [] ty)
 have hm0:k0∈(Exp.mk 6 p nm nu [k0,k1] [] ty).children:=by simp [Exp.children,Exp.kids]
 have hm1:k1∈(Exp.mk 6 p nm nu [k0,k1] [] ty).children:=by simp [Exp.children,Exp.kids]
 have c0:=Exp.child_lt hm0
 have c1:=Exp.child_lt hm1
 have s0:=hs.child hm0
 have s1:=hs.child hm1
 have r0:=hI k0 x b (by omega) (by omega) s0 hb hbw
 have r1:=hI k1 x b (by omega) (by omega) s1 hb hbw
 have hcl:=Zj8 (A:=A) nm x b k1 hb s1.wf (by omega) (by omega)
 have hfree:=Zi3 (A:=A) b hb (by omega)
 rw [ZdZ b hb] at hfree
 have hfl:=ZbY b
 have hall:=Ztg (A:=A) (.mk 6 p nm nu [k0,k1] [] ty) (by omega)
 have hal:=ZdD (.mk 6 p nm nu [k0,k1] [] ty)
 have hun:=Zis (A:=A) (Zaf b++ZbK (.mk 6 p nm nu [k0,k1] [] ty)++[x]) (by simp;omega)
 have hto:ZaK 0 (Zaf b++ZbK (.mk 6 p nm nu [k0,k1] [] ty)++[x])=newR x b (.mk 6 p nm nu [k0,k1] [] ty):=rfl
 rw [hto] at hun
 have hnot:newR x b (.mk 6 p nm nu [k0,k1] [] ty)∉allP k1:=fun q=>ZlA (x:=x) (b:=b) hs.wf (ZaA.2 (.inr ⟨1,k1,rfl,.inr q⟩))
 generalize newR x b (.mk 6 p nm nu [k0,k1] [] ty)=to at *
 generalize ZbK (.mk 6 p nm nu [k0,k1] [] ty)=R at *
 obtain ⟨v1,v2⟩:=ZkI (n:=n) (f:=nm) s1 (by omega) hnot
 have hren:=Zf8 hI k1 nm to (by omega) (by omega) s1
 have r2:=hI (refS n k1 nm (varX to)) x b (by omega) (by omega) v1 hb hbw
 generalize refS n k1 nm (varX to)=k2 at *
 have hx0:=ZaU (refS n k0 x b)
 generalize refS n k0 x b=z0 at *
 generalize refS n k1 x b=z1 at *
 generalize refS n k2 x b=z2 at *
 have hxr:∀ (nm':Str) (y:Exp),wc (Exp.mk 6 p nm' nu [z0,y] [] ty).row=[.c (.int .i64 6),.c (.int .i64 p),.c (.str nm'),.c (.int .i64 nu),.c (.sl [z0.row,y.row]),.c (.sl []),.c (.int .i64 ty.kind),.c (.str ty.name),.c (.int .i64 ty.id),.c (.int .i64 ty.home),.c (.sl (Ty.rows ty.args))]:=by
  intro nm' y
  rw [Exp.row_eq]
  simp [Exp.rows,Exp.armRows,Exp.kind,Exp.pos,Exp.name,Exp.num,Exp.kids,Exp.arms,Exp.ty,wc]
 have hxe:wc (Exp.mk 6 p nm nu [k0,k1] [] ty).row=[.c (.int .i64 6),.c (.int .i64 p),.c (.str nm),.c (.int .i64 nu),.c (.sl [k0.row,k1.row]),.c (.sl []),.c (.int .i64 ty.kind),.c (.str ty.name),.c (.int .i64 ty.id),.c (.int .i64 ty.home),.c (.sl (Ty.rows ty.args))]:=by
  rw [Exp.row_eq]
  simp [Exp.rows,Exp.armRows,Exp.kind,Exp.pos,Exp.name,Exp.num,Exp.kids,Exp.arms,Exp.ty,wc]
 simp only [expV,hxe] at hall ⊢
 generalize Zaf b=P at *
 simp only [List.append_assoc] at hun
 have hi0:([k0.row,k1.row]:List (List Cell))[0]?=some k0.row:=rfl
 have hi1:([k0.row,k1.row]:List (List Cell))[1]?=some k1.row:=rfl
 have hfold:wr (Zag (P++R))++[[W.c (.str x)]]=wr (Zag (P++(R++[x]))):=by simp [Zag,ZdG,wr,wc]
 unfold v36
 by_cases hx:nm=x
 ·rw [if_pos hx]
  simp (maxSteps:=4000000) (disch:=first|omega|(simp;done)|(simp;omega)) [hx,hi0,hi1,r0,hxr,-getElem?_pos]
 ·rw [if_neg hx]
  by_cases hh:nm∈P∧x∈Zaf k1
  ·rw [if_pos hh]
   simp (maxSteps:=4000000) (disch:=first|omega|(simp;done)|(simp;omega)) [hx,hi0,hi1,r0,r2,hcl,hh,hfree,hall,hun,hfold,Nat.add_assoc,hren,hxr,-getElem?_pos]
  ·rw [if_neg hh]
   simp (maxSteps:=4000000) (disch:=first|omega|(simp;done)|(simp;omega)) [hx,hi0,hi1,r0,r1,hcl,hh,hxr,-getElem?_pos]
theorem Zjo {n:Nat}(hI:Zmp A n)(e:Exp)(x:Str)(b:Exp)(hn:e.weight≤n+1)(hl:e.weight≤100000)(hs:shp e)(hb:b.wf)(hbw:b.weight≤100000)(k1:e.kind≠1)(k4:¬(e.kind=4∨e.kind=6∨e.kind=7)) :
 (K A).call 36 [expV e,strV x,expV b] []=some (expV (refS (n+1) e x b),[]):=by
 refine Zan (vf:=v36) (by kernel_rfl) rfl (by simp) ?_
 rw [Zok k1 k4 hs hn]
 have hrow0:=ZaU e
 have q4:¬e.kind=4:=fun h=>k4 (.inl h)
 have q6:¬e.kind=6:=fun h=>k4 (.inr (.inl h))
 have q7:¬e.kind=7:=fun h=>k4 (.inr (.inr h))
 have hle:=e.children_le
 rw [e.children_len] at hle
 have hc:=ZcE (A:=A) e (by omega)
 have hkid:∀ (i:Nat) k,e.kids[i]?=some k→(K A).call 36 [expV k,strV x,expV b] []=some (expV (refS n k x b),[])∧(e.kids.map fun k=>refS n k x b)[i]?=some (refS n k x b):=by
  intro i k h
  have hm:=ZcS (List.mem_of_getElem? h)
  have:=Exp.child_lt hm
  exact ⟨hI k x b (by omega) (by omega) (hs.child hm) hb hbw,by rw [List.getElem?_map,h];rfl⟩
 have harm:∀ (i:Nat) a,e.arms[i]?=some a→(K A).call 91 [armV a,strV x,expV b] []=some (armV (Zb1 n x b a),[])∧(e.arms.map (Zb1 n x b))[i]?=some (Zb1 n x b a):=by
  intro i a h
  have hm:=List.mem_of_getElem? h
  have h1:=Exp.child_lt (Zca hm)
  have h2:=Exp.vars_le hm
  exact ⟨arm91 hI x b hb hbw a (hs.child (Zca hm)) (by omega) (by omega) (by omega),by rw [List.getElem?_map,h];rfl⟩
 have hkl:(e.kids.map fun k=>refS n k x b).length=e.kids.length:=by simp
 have hal:(e.arms.map (Zb1 n x b)).length=e.arms.length:=by simp
 generalize (e.kids.map fun k=>refS n k x b)=ks at *
 generalize e.arms.map (Zb1 n x b)=am at *
 have hw:=Zsi (A:=A) (.mk e.kind e.pos e.name e.num e.kids am e.ty) (ks++am.map (·.2)) (by simp only [Zeu,ZcZ,List.length_append,List.length_map];omega) (by simp only [Zeu,ZcZ];omega)
 have hrow1:=ZaU (.mk e.kind e.pos e.name e.num e.kids am e.ty)
 have hrow2:=ZaU (.mk e.kind e.pos e.name e.num ks am e.ty)
 have htk:(ks++am.map (·.2)).take e.kids.length=ks:=by rw [List.take_append_of_le_length (by omega),List.take_of_length_le (by omega)]
 have hdk:Za4 am ((ks++am.map (·.2)).drop e.kids.length)=am:=by
  rw [List.drop_append_of_le_length (by omega),List.drop_of_length_le (by omega),List.nil_append]
  unfold Za4
  rw [List.zipWith_map_right,List.zipWith_self]
  simp
 have hcl:(ks++am.map (·.2)).length=e.children.length:=by rw [e.children_len,List.length_append,List.length_map];omega
 simp only [Zeu,ZcZ,Zku,Zrt,Zj3,Zq6,ty_mk,htk,hdk] at hw hrow1 hrow2
 simp only [expV,hrow1] at hw
 have hchl:=e.children_len
 rw [hrow0] at hc
 unfold v36
 simp (maxSteps:=4000000) (disch:=first|omega|(simp;done)|(simp;omega)) [k1,q4,q6,q7,hrow0,hc,-getElem?_pos]
 refine Zaz (fun i=>⟨[(1,strV x),(5,.sc (.ptr 128 0)),(6,.sc (.ptr 192 0)),(16,.sc (.arr 11040 e.children.length)),(17,intV e.kids.length),(18,.sc (.ptr 11456 0)),(19,intV i)],
  [(128,some (.box (wc b.row))),(192,some (.box [zi,zi,zs,zi,.nil,.nil,zi,zs,zi,zi,.nil])),(11040,some (.arr 11 (wr (Exp.rows ((ks++am.map (·.2)).take i++e.children.drop i))) 0)),
    (11456,some (.box [.c (.int .i64 e.kind),.c (.int .i64 e.pos),.c (.str e.name),.c (.int .i64 e.num),.c (.sl (Exp.rows e.kids)),.arr 11712 e.arms.length,.c (.int .i64 e.ty.kind),.c (.str e.ty.name),.c (.int .i64 e.ty.id),.c (.int .i64 e.ty.home),.c (.sl (Ty.rows e.ty.args))])),
    (11712,some (.arr 14 (wr (Exp.armRows (am.take (i-e.kids.length)++e.arms.drop (i-e.kids.length)))) 0))]⟩) e.children.length ?_ ?_ ?_
 ·simp
 ·intro i hi
  obtain ⟨c,hci⟩:=Zaa hi
  have hg:=Zcz hcl hi
  rw [hci] at hg
  have hln:=ZcA (i:=i) hcl
  by_cases hik:i<e.kids.length
  ·have hkk:e.kids[i]?=some c:=by
    unfold Exp.children at hci
    rw [List.getElem?_append_left hik] at hci
    exact hci
   obtain ⟨hr,hz0⟩:=hkid i c hkk
   have hz:(ks++am.map (·.2))[i]?=some (refS n c x b):=by rw [List.getElem?_append_left (by omega)];exact hz0
   have hst:=Zcg hcl hz
   have hi0:i-e.kids.length=0:=by omega
   have hi1:i+1-e.kids.length=0:=by omega
   rw [←hst,hi0,hi1]
   generalize (ks++am.map (·.2)).take i++e.children.drop i=zz at hg hln ⊢
   have hset:=Zd7 zz i (refS n c x b)
   have hkI:(i:Int)<e.kids.length:=by omega
   have hiC:(i:Int)<(e.kids.length:Int)+e.arms.length:=by omega
   rw [e.children_len] at hln hi
   unfold ZqW
   simp (maxSteps:=4000000) (disch:=first|omega|(simp;done)|(simp;omega)) [hi,hik,hkI,hiC,hg,hln,hr,hset,Zbi,-getElem?_pos]
  ·obtain ⟨j,rfl⟩:∃ j,i=e.kids.length+j:=⟨i-e.kids.length,by omega⟩
   have hj:j<e.arms.length:=by omega
   obtain ⟨a,ha⟩:=Zaa hj
   obtain ⟨hr,hz1⟩:=harm j a ha
   generalize Zb1 n x b a=a1 at *
   have hz:(ks++am.map (·.2))[e.kids.length+j]?=some a1.2:=by
    rw [List.getElem?_append_right (by omega),hkl,Nat.add_sub_cancel_left,List.getElem?_map,hz1]
    rfl
   have hst:=Zcg hcl hz
   have hj0:e.kids.length+j-e.kids.length=j:=by omega
   have hj1:e.kids.length+j+1-e.kids.length=j+1:=by omega
   have hstA:=Zcg hal hz1
   have hgA:=Zcz hal hj
   rw [ha] at hgA
   have hlnA:=ZcA (i:=j) hal
   rw [←hst,hj0,hj1,←hstA]
   generalize (ks++am.map (·.2)).take (e.kids.length+j)++e.children.drop (e.kids.length+j)=zz at hg hln ⊢
   generalize am.take j++e.arms.drop j=za at hgA hlnA ⊢
   have hset:=Zd7 zz (e.kids.length+j) a1.2
   have hsetA:=Zdv za j a1
   have hgs:(za.set j a1)[j]?=some a1:=by rw [List.getElem?_set,if_pos rfl,if_pos (by omega)]
   have hsp:splice (wc (Zao a)) 0 (wc (Zao a1))=some (wc (Zao a1)):=by rw [Zao,Zao,Exp.row_eq a.2,Exp.row_eq a1.2];rfl
   have hcu:cut (wc (Zao a1)) 3 11=some (wc a1.2.row):=by rw [Zao,Exp.row_eq a1.2];rfl
   have hsub:(e.kids.length:Int)+j-e.kids.length=j:=by omega
   have hkI:¬(e.kids.length:Int)+j<e.kids.length:=by omega
   have hiC:(e.kids.length:Int)+j<(e.kids.length:Int)+e.arms.length:=by omega
   have hnb:Zal (intV ((e.kids.length:Int)+j)) (e.kids.length+e.arms.length)=some (e.kids.length+j):=natBelow_cast (k:=.i64) (n:=e.kids.length+j) (by omega)
   rw [e.children_len] at hln hi
   have hjI:(j:Int)<e.arms.length:=by omega
   unfold ZqW
   simp (maxSteps:=4000000) (disch:=first|omega|(simp;done)|(simp;omega)) [hi,hj,hjI,hkI,hiC,hnb,hsub,hg,hln,hgA,hlnA,hr,hset,hsetA,hgs,hsp,hcu,Zbi,-getElem?_pos]
 ·have e0:e.children.length-e.kids.length=e.arms.length:=by omega
  have e1:(ks++am.map (·.2)).take e.children.length++e.children.drop e.children.length=ks++am.map (·.2):=by rw [List.drop_length,List.append_nil,List.take_of_length_le (by omega)]
  have e2:am.take e.arms.length++e.arms.drop e.arms.length=am:=by rw [List.drop_length,List.append_nil,List.take_of_length_le (by omega)]
  rw [e0,e1,e2]
  generalize ks++am.map (·.2)=cs at *
  rw [e.children_len] at hcl
  unfold ZqW
  simp (maxSteps:=4000000) (disch:=first|omega|(simp;done)|(simp;omega)) [hw,hcl,hal,hkl,hrow2,-getElem?_pos]
theorem ZkB:∀ n,Zmp A n
 | 0=>fun e _ _ h=>by have:=e.weight_pos;omega
 | n+1=>fun e x b hn hl hs hb hbw=>by
  have hI:=ZkB n
  by_cases k1:e.kind=1
  ·exact ZkM e x b k1
  by_cases k6:e.kind=6
  ·obtain ⟨k,p,nm,nu,ks,am,ty⟩:=e
   cases (show k=6 from k6)
   have ha:=hs.one.1.2.1 (show ¬(6:Int)=8 by decide)
   cases (show am=[] from ha)
   have hk:ks.length=2:=hs.one.2.2
   obtain ⟨y0,y1,rfl⟩:∃ y0 y1,ks=[y0,y1]:=by
    cases ks with
    | nil=>simp at hk
    | cons y0 l =>
     cases l with
     | nil=>simp at hk
     | cons y1 l =>
      cases l with
      | nil=>exact ⟨y0,y1,rfl⟩
      | cons _ _=>simp at hk
   exact Zkn hI p nu nm y0 y1 ty x b hn hl hs hb hbw
  by_cases k4:e.kind=4∨e.kind=7
  ·exact Zhh hI e x b hn hl hs hb hbw k4
  ·exact Zjo hI e x b hn hl hs hb hbw k1 (by omega)
end Go.Vs.Tryz
