/- All names, and renaming, by the program, walked. (Parts of one proof, put together.) -/
import Derived.Test.YtlcncicmkkelcaaGreatDoorREb
import Derived.Test.YtlcncicmkkelcaaGreatDoorRAb
set_option linter.unusedSimpArgs false
set_option linter.unusedVariables false
set_option linter.deprecated false
set_option maxHeartbeats 16000000
set_option maxRecDepth 10000
namespace Go.Vs.Tryz
open Go Go.Vs
variable {A:Zac}
def ZdJ (e:Exp):Nat→List Str
 | 0=>[e.name]
 | i+1=>ZdJ e i++(match e.children[i]? with | some x=>e.bound i++allP x | none=>[])
theorem ZfK {e x:Exp}{i:Nat}(h:e.children[i]?=some x):ZdJ e (i+1)=ZdJ e i++e.bound i++allP x:=by
 simp only [ZdJ,h,List.append_assoc]
theorem Zhc (e:Exp):ZdJ e e.children.length=allP e:=by
 have key:∀ i,i≤e.children.length→ZdJ e i=e.name::(((e.children.map allP).zipIdx.take i).map fun p=>e.bound p.2++p.1).flatten:=by
  intro i
  induction i with
  | zero=>intro _;rfl
  | succ i ih =>
   intro hi
   obtain ⟨x,hx⟩:=Zaa (l:=e.children) (i:=i) (by omega)
   have hz:((e.children.map allP).zipIdx)[i]?=some (allP x,i):=by simp [hx]
   rw [ZfK hx,ih (by omega),Zat hz]
   simp
 rw [key _ (Nat.le_refl _),List.take_of_length_le (by simp),ZoA]
def ZiL (e:Exp):Nat→Nat
 | 0=>0
 | i+1=>ZiL e i+(e.bound i).length
theorem Zk8 (e:Exp)(hw:e.wf1)(hk:e.kind=8):∀ i,i≤e.arms.length→ZiL e (i+1)≤((e.arms.take i).map fun a=>a.1.vars.length).sum
 | 0,_=>by
  simp only [ZiL]
  rw [ZaD,if_neg (by omega),if_neg (by omega)]
  simp
 | i+1,hi=>by
  obtain ⟨a,ha⟩:=Zaa (l:=e.arms) (i:=i) (by omega)
  have h:=Zk8 e hw hk i (by omega)
  have hb:(e.bound (i+1)).length=a.1.vars.length:=by
   rw [ZaD,if_neg (by omega),if_pos ⟨hk,by omega⟩,Nat.add_sub_cancel,ha]
   rfl
  rw [ZiL,hb,Zat ha]
  simp only [List.map_append,List.sum_append,List.map_cons,List.map_nil,List.sum_cons,List.sum_nil]
  omega
theorem ZgU (e:Exp)(hk:e.kind≠8):∀ i,ZiL e i≤i
 | 0=>Nat.le_refl _
 | i+1=>by
  have h:=ZgU e hk i
  simp only [ZiL]
  rcases Zpq hk i with hb|hb<;>rw [hb]<;>simp<;>omega
theorem Zfa (e:Exp):e.wf→(allP e).length+1≤2*e.weight:=by
 induction e using Exp.ind with
 | h e ih =>
  intro hw
  have key:∀ i,i≤e.children.length→(ZdJ e i).length+i≤1+ZiL e i+2*((e.children.take i).map Exp.weight).sum:=by
   intro i
   induction i with
   | zero=>intro _;simp [ZdJ,ZiL]
   | succ i ihi =>
    intro hi
    obtain ⟨x,hx⟩:=Zaa (l:=e.children) (i:=i) (by omega)
    have h1:=ihi (by omega)
    have h2:=ih x (List.mem_of_getElem? hx) (hw.child (List.mem_of_getElem? hx))
    rw [ZfK hx,Zat hx]
    simp only [List.length_append,List.map_append,List.sum_append,List.map_cons,List.map_nil,List.sum_cons,List.sum_nil,ZiL]
    omega
  have h:=key _ (Nat.le_refl _)
  rw [Zhc,List.take_of_length_le (Nat.le_refl _)] at h
  rw [e.weight_eq]
  by_cases hk:e.kind=8
  ·have h1:=hw.one.1 hk
   have h2:=Zk8 e hw.one hk e.arms.length (Nat.le_refl _)
   rw [List.take_of_length_le (Nat.le_refl _)] at h2
   rw [e.children_len,h1,Nat.add_comm 1] at h
   omega
  ·have h2:=ZgU e hk e.children.length
   omega
theorem Znz {e:Exp}(hw:e.wf):∀ i,i≤e.children.length→(ZdJ e i).length≤(allP e).length:=by
 intro i hi
 rw [←Zhc]
 have:∀ k,(ZdJ e i).length≤(ZdJ e (i+k)).length:=by
  intro k
  induction k with
  | zero=>exact Nat.le_refl _
  | succ k ih =>
   refine Nat.le_trans ih ?_
   show _≤(ZdJ e (i+k)++_).length
   rw [List.length_append]
   omega
 have h:=this (e.children.length-i)
 rwa [show i+(e.children.length-i)=e.children.length by omega] at h
def nmL (e:Exp):Prop:=∀ s∈allP e,s.length≤1000
theorem nmL.child {e x:Exp}{i:Nat}(h:nmL e)(hx:e.children[i]?=some x):nmL x:=fun s hs=>h s (ZaA.2 (.inr ⟨i,x,hx,.inr hs⟩))
theorem nmL.bound {e x:Exp}{i:Nat}(h:nmL e)(hx:e.children[i]?=some x):∀ s∈e.bound i,s.length≤1000:=fun s hs=>h s (ZaA.2 (.inr ⟨i,x,hx,.inl hs⟩))
theorem ZpU (frm to:Str)(e:Exp):∀ s∈allP (repl frm to e),s∈allP e∨s=to:=by
 induction e using Exp.ind with
 | h e ih =>
  intro s hs
  by_cases hk:e.kind=1
  ·rw [ZcT hk] at hs
   by_cases hf:e.name=frm
   ·rw [if_pos hf] at hs
    rcases ZaA.1 hs with h|⟨i,x,hx,h⟩
    ·exact .inr h
    ·refine .inl (ZaA.2 (.inr ⟨i,x,hx,h.imp (fun h => ?_) id⟩))
     rw [Zea,if_neg (by omega)] at h
     rw [ZaD,if_neg (by omega)]
     exact h
   ·rw [if_neg hf] at hs
    exact .inl hs
  ·rw [ZdN hk] at hs
   rcases ZaA.1 hs with h|⟨i,y,hy,h⟩
   ·exact .inl (ZaA.2 (.inl h))
   ·rw [(Zbe (replC_len frm to e)).2.2.1] at hy
    rw [Zfs (replC_len frm to e)] at h
    obtain ⟨x,hx⟩:=Zaa (l:=e.children) (i:=i) (by have:=(List.getElem?_eq_some_iff.1 hy).1;rw [replC_len,←e.children_len] at this;exact this)
    rw [ZbX hx] at hy
    cases hy
    rcases h with h|h
    ·exact .inl (ZaA.2 (.inr ⟨i,x,hx,.inl h⟩))
    ·split at h
     ·exact .inl (ZaA.2 (.inr ⟨i,x,hx,.inr h⟩))
     ·exact (ih x (List.mem_of_getElem? hx) s h).imp (fun h=>ZaA.2 (.inr ⟨i,x,hx,.inr h⟩)) id
theorem Zll {frm to:Str}{e:Exp}(h:nmL e)(ht:to.length≤1000):nmL (repl frm to e):=fun s hs=>(ZpU frm to e s hs).elim (h s) fun q=>q▸ht
theorem Zi5 (n:Nat)(taken:List Str)(h:n+taken.length≤1073741824):(ZaK n taken).length≤1000:=by
 have h1:=Zgo n taken
 have h2:=ZeN (ZaJ n taken) 10 (by omega) (by omega)
 unfold ZaK Za1
 rw [List.length_cons]
 omega
theorem ZkY (taken:List Str)(ht:taken.length≤536870912)(hs:∀ s∈taken,s.length≤1000):(K A).call 207 [Za3 taken] []=some (strV (ZaK 0 taken),[]):=by
 refine Zan (vf:=v207) (by kernel_rfl) rfl (by simp) ?_
 have h:=ZsQ (A:=A) 0 0 (by omega) (by omega) taken (by omega) ht (fun s h=>by have:=hs s h;omega)
 unfold v207
 simp (maxSteps:=4000000) (disch:=first|omega|(simp;done)|(simp;omega)) [h,-getElem?_pos]
theorem Zrk (e:Exp):e.wf→e.weight≤268435456→(K A).call 208 [expV e] []=some (.sc (.arr 0 (allP e).length),[.arr 1 (wr (Zag (allP e))) 0]):=by
 induction e using Exp.ind with
 | h e ih =>
 intro hwf hl
 refine Zan (vf:=v208) (by kernel_rfl) rfl (by simp) ?_
 have hle:=e.children_le
 rw [e.children_len] at hle
 have hpl:=Zfa e hwf
 have hend:=Zhc e
 by_cases hkids:e.kids=[]
 ·have harms:e.arms=[]:=Classical.byContradiction fun h=>by
   have h8:e.kind=8:=Classical.byContradiction fun h8=>h (hwf.one.2.1 h8)
   have:=hwf.one.1 h8
   rw [hkids] at this
   simp at this
  have hc:=ZbU (A:=A) e hkids harms
  have hch:e.children=[]:=by simp [Exp.children,hkids,harms]
  rw [hch] at hend
  simp only [List.length_nil,ZdJ] at hend
  rw [←hend]
  have hr:wr (Zag [e.name])=[[W.c (.str e.name)]]:=rfl
  unfold v208
  simp (maxSteps:=4000000) (disch:=first|omega|(simp;done)|(simp;omega)) [hc,hr,-getElem?_pos]
  refine Zaz (fun i=>⟨[(1,.sc (.ptr 64 0)),(3,.sc (.arr 320 1)),(10,.sc (.full [])),(11,intV 0),(12,intV i)],[(64,some (.box (wc e.row))),(320,some (.arr 1 [[W.c (.str e.name)]] 0))]⟩) 0 ?_ (fun i hi=>by omega) ?_
  ·simp
  ·unfold ZlK
   simp (maxSteps:=4000000) (disch:=first|omega|(simp;done)|(simp;omega)) [hr,-getElem?_pos]
 ·have hc:=ZbR (A:=A) e hkids (by omega)
  rw [e.children_len] at hc hend
  have h0:ZdJ e 0=[e.name]:=rfl
  have hr:wr (Zag [e.name])=[[W.c (.str e.name)]]:=rfl
  unfold v208
  simp (maxSteps:=4000000) (disch:=first|omega|(simp;done)|(simp;omega)) [hc,-getElem?_pos]
  refine Zaz (fun i=>⟨[(1,.sc (.ptr 64 0)),(3,.sc (.arr 320 (ZdJ e i).length)),(10,.sc (.arr 544 (e.kids.length+e.arms.length))),(11,intV ((e.kids.length:Int)+e.arms.length)),(12,intV i)],
   [(64,some (.box (wc e.row))),(320,some (.arr 1 (wr (Zag (ZdJ e i))) 0)),(544,some (.arr 11 (wr (Exp.rows e.children)) 0))]⟩) (e.kids.length+e.arms.length) ?_ ?_ ?_
  ·simp [h0,hr]
  ·intro i hi
   have hi1:i<e.children.length:=by rw [e.children_len];exact hi
   obtain ⟨x,hx⟩:=Zaa hi1
   have hm:=List.mem_of_getElem? hx
   have hrec:=ih x hm (hwf.child hm) (by have:=Exp.child_lt hm;omega)
   have hb:=Zgf (A:=A) e i hwf.one hi1 (by omega)
   have hs:=ZfK hx
   have hlen:=Znz hwf (i+1) hi1
   rw [hs] at hlen
   rw [hs]
   simp only [List.length_append] at hlen
   have hi2:(i:Int)<(e.kids.length:Int)+e.arms.length:=by omega
   generalize ZdJ e i=ai at *
   generalize e.bound i=bi at *
   generalize allP x=ax at *
   unfold ZlK
   simp (maxSteps:=4000000) (disch:=first|omega|(simp;done)|(simp;omega)) [hi,hi2,hx,hb,hrec,Nat.add_assoc,-getElem?_pos]
  ·rw [hend]
   unfold ZlK
   simp (maxSteps:=4000000) (disch:=first|omega|(simp;done)|(simp;omega)) [-getElem?_pos]
theorem Zhr (frm to:Str)(e:Exp):e.wf→e.weight≤1073741824→(K A).call 209 [expV e,strV frm,strV to] []=some (expV (repl frm to e),[]):=by
 induction e using Exp.ind with
 | h e ih =>
 intro hwf hl
 refine Zan (vf:=v209) (by kernel_rfl) rfl (by simp) ?_
 have hle:=e.children_le
 rw [e.children_len] at hle
 by_cases hk:e.kind=1
 ·have hrow:wc (Exp.mk e.kind e.pos to e.num e.kids e.arms e.ty).row=[.c (.int .i64 e.kind),.c (.int .i64 e.pos),.c (.str to),.c (.int .i64 e.num),.c (.sl (Exp.rows e.kids)),.c (.sl (Exp.armRows e.arms)),.c (.int .i64 e.ty.kind),.c (.str e.ty.name),.c (.int .i64 e.ty.id),.c (.int .i64 e.ty.home),.c (.sl (Ty.rows e.ty.args))]:=by rw [Exp.row_eq];rfl
  have hrow0:wc e.row=[.c (.int .i64 e.kind),.c (.int .i64 e.pos),.c (.str e.name),.c (.int .i64 e.num),.c (.sl (Exp.rows e.kids)),.c (.sl (Exp.armRows e.arms)),.c (.int .i64 e.ty.kind),.c (.str e.ty.name),.c (.int .i64 e.ty.id),.c (.int .i64 e.ty.home),.c (.sl (Ty.rows e.ty.args))]:=by rw [Exp.row_eq];rfl
  rw [ZcT hk]
  unfold v209
  by_cases hf:e.name=frm
  ·rw [if_pos hf]
   rw [hk] at hrow hrow0 ⊢
   simp (maxSteps:=4000000) (disch:=first|omega|(simp;done)|(simp;omega)) [hk,hf,hrow,hrow0,-getElem?_pos]
  ·rw [if_neg hf]
   simp (maxSteps:=4000000) (disch:=first|omega|(simp;done)|(simp;omega)) [hk,hf,-getElem?_pos]
 ·rw [ZdN hk]
  have hCl:=replC_len frm to e
  have hcg:=fun {i:Nat} {x:Exp} (h:e.children[i]?=some x)=>ZbX (frm:=frm) (to:=to) h
  have hw:=Zgn (A:=A) e (Zey frm to e) hCl (by omega)
  by_cases hkids:e.kids=[]
  ·have harms:e.arms=[]:=Classical.byContradiction fun h=>by
    have h8:e.kind=8:=Classical.byContradiction fun h8=>h (hwf.one.2.1 h8)
    have:=hwf.one.1 h8
    rw [hkids] at this
    simp at this
   have hc:=ZbU (A:=A) e hkids harms
   have hC0:Zey frm to e=[]:=List.length_eq_zero_iff.1 (by rw [hCl,hkids,harms];rfl)
   rw [hC0] at hw ⊢
   have hr1:Exp.rows []=[]:=by rw [Exp.rows]
   have hr2:Exp.armRows []=[]:=by rw [Exp.armRows]
   have hz:Za4 [] []=[]:=rfl
   have hrow:wc (Zbm e []).row=[.c (.int .i64 e.kind),.c (.int .i64 e.pos),.c (.str e.name),.c (.int .i64 e.num),.c (.sl []),.c (.sl []),.c (.int .i64 e.ty.kind),.c (.str e.ty.name),.c (.int .i64 e.ty.id),.c (.int .i64 e.ty.home),.c (.sl (Ty.rows e.ty.args))]:=by
    rw [Exp.row_eq]
    simp [Zbm,harms,Za4,hr1,hr2,Exp.kind,Exp.pos,Exp.name,Exp.num,Exp.kids,Exp.arms,Exp.ty,wc]
   simp only [exsV,hr1,hkids,harms,List.length_nil,List.take_nil,List.drop_nil,hz,hr2] at hw
   unfold v209
   simp (maxSteps:=4000000) (disch:=first|omega|(simp;done)|(simp;omega)) [hk,hc,-getElem?_pos]
   refine Zaz (fun i=>⟨[(1,strV frm),(2,strV to),(3,.sc (.ptr 64 0)),(6,.sc (.ptr 128 0)),(7,.sc (.full [])),(22,.sc (.full [])),(23,intV 0),(24,intV i)],[(64,some (.box (wc e.row))),(128,some Zej)]⟩) 0 ?_ (fun i hi=>by omega) ?_
   ·simp
   ·unfold Zls
    simp (maxSteps:=4000000) (disch:=first|omega|(simp;done)|(simp;omega)) [hw,hrow,-getElem?_pos]
  ·have hc:=ZbR (A:=A) e hkids (by omega)
   rw [e.children_len] at hc
   have hC2:(Zey frm to e).length=e.children.length:=by rw [hCl,e.children_len]
   have hkl:((Zey frm to e).take e.kids.length).length=e.kids.length:=by rw [List.length_take,hCl];omega
   have hal:(Za4 e.arms ((Zey frm to e).drop e.kids.length)).length=e.arms.length:=by rw [armsW_len,List.length_drop,hCl];omega
   have hrow:wc (Zbm e (Zey frm to e)).row=[.c (.int .i64 e.kind),.c (.int .i64 e.pos),.c (.str e.name),.c (.int .i64 e.num),.c (.sl (Exp.rows ((Zey frm to e).take e.kids.length))),.c (.sl (Exp.armRows (Za4 e.arms ((Zey frm to e).drop e.kids.length)))),.c (.int .i64 e.ty.kind),.c (.str e.ty.name),.c (.int .i64 e.ty.id),.c (.int .i64 e.ty.home),.c (.sl (Ty.rows e.ty.args))]:=by rw [Exp.row_eq];rfl
   generalize Zbm e (Zey frm to e)=we at *
   generalize Zey frm to e=cc at *
   unfold v209
   simp (maxSteps:=4000000) (disch:=first|omega|(simp;done)|(simp;omega)) [hk,hc,-getElem?_pos]
   refine Zaz (fun i=>⟨[(1,strV frm),(2,strV to),(3,.sc (.ptr 64 0)),(6,.sc (.ptr 128 0)),(7,.sc (.arr 1056 (e.kids.length+e.arms.length))),(22,.sc (.arr 1056 (e.kids.length+e.arms.length))),(23,intV ((e.kids.length:Int)+e.arms.length)),(24,intV i)],
    [(64,some (.box (wc e.row))),(128,some Zej),(1056,some (.arr 11 (wr (Exp.rows (cc.take i++e.children.drop i))) 0))]⟩) (e.kids.length+e.arms.length) ?_ ?_ ?_
   ·simp
   ·intro i hi
    have hi1:i<e.children.length:=by rw [e.children_len];exact hi
    obtain ⟨x,hx⟩:=Zaa hi1
    have hm:=List.mem_of_getElem? hx
    have hrec:=ih x hm (hwf.child hm) (by have:=Exp.child_lt hm;omega)
    have hb:=Zgf (A:=A) e i hwf.one hi1 (by omega)
    have hbl:=Nat.le_trans (e.bound_le i) hl
    have hco:=Zby (A:=A) (e.bound i) frm (by omega)
    have hcx:=hcg hx
    have hg:=Zcz (i:=i) hC2 hi1
    rw [hx] at hg
    have hst:=Zcg hC2 hcx
    have hln:=ZcA (i:=i) hC2
    rw [e.children_len] at hln
    have hi2:(i:Int)<(e.kids.length:Int)+e.arms.length:=by omega
    have hset:=fun y=>Zd7 (cc.take i++e.children.drop i) i y
    rw [←hst]
    generalize cc.take i++e.children.drop i=zr at *
    unfold Zls
    by_cases hf:frm∈e.bound i
    ·have hsame:zr.set i x=zr:=by
      refine List.ext_getElem? fun m => ?_
      rw [List.getElem?_set]
      split
      ·rename_i h
       subst h
       rw [hg]
       split
       ·rfl
       ·omega
      ·rfl
     rw [if_pos hf,hsame]
     simp (maxSteps:=4000000) (disch:=first|omega|(simp;done)|(simp;omega)) [hi,hi2,hg,hln,hb,hco,hf,Zbi,-getElem?_pos]
    ·rw [if_neg hf]
     simp (maxSteps:=4000000) (disch:=first|omega|(simp;done)|(simp;omega)) [hi,hi2,hg,hln,hb,hco,hf,hrec,hset,Zbi,-getElem?_pos]
   ·have htk:cc.take (e.kids.length+e.arms.length)++e.children.drop (e.kids.length+e.arms.length)=cc:=by
     rw [List.drop_of_length_le (by rw [e.children_len];omega),List.append_nil,List.take_of_length_le (by omega)]
    rw [htk]
    unfold Zls
    simp (maxSteps:=4000000) (disch:=first|omega|(simp;done)|(simp;omega)) [hw,hrow,hkl,hal,hCl,-getElem?_pos]
end Go.Vs.Tryz
namespace Go.Vs
open Go
section
variable {L:Nat→Option Obj}
@[simp] theorem toC_vw {d k N lo n:Nat}:W.toC L (d+1) (.vw k N lo n)=arrK (L k) fun _ rows _=>bif rows.length == N && Nat.ble (lo+n) N then (Zae (Zae (W.toC L d)) ((rows.drop lo).take n)).map .sl else none:=by
 simp only [W.toC,arrK]
 cases L k with
 | none=>rfl
 | some o=>cases o<;>rfl
@[simp] theorem ids_vw {d k N lo n:Nat}:W.ids L (d+1) (.vw k N lo n)=k::(match L k with | some (.arr _ rows _)=>rows.flatMap (·.flatMap (W.ids L d)) | _=>[]):=rfl
end
theorem ZnA (rows:List (List Cell))(i n:Nat)(h:n=rows.length):((wr rows).drop i).take (n-i)=wr (rows.drop i):=by
 subst h
 unfold wr
 rw [←List.map_drop,List.take_of_length_le (by simp)]
end Go.Vs
namespace Go.Vs.Tryz
open Go Go.Vs
variable {A:Zac}
abbrev Zb7 (x:Str)(b:Exp)(free:List Str):List W:=[.c (.str x),.c (.int .i64 b.kind),.c (.int .i64 b.pos),.c (.str b.name),.c (.int .i64 b.num),.c (.sl (Exp.rows b.kids)),.c (.sl (Exp.armRows b.arms)),.c (.int .i64 b.ty.kind),.c (.str b.ty.name),.c (.int .i64 b.ty.id),.c (.int .i64 b.ty.home),.c (.sl (Ty.rows b.ty.args)),.c (.sl (Zag free))]
theorem hit246 (x:Str)(b:Exp)(free:List Str)(e:Exp)(hw:e.wf)(hl:e.weight≤1073741824):(K A).call 246 [expV e,.sc (.ptr 0 0)] [.box (Zb7 x b free)]=some (Zah (decide (x∈Zaf e)),[.box (Zb7 x b free)]):=by
 refine Zan (vf:=v246) (by kernel_rfl) rfl (by simp) ?_
 have h1:=Zrc (A:=A) e hw hl
 have h2:=Zby (A:=A) (Zaf e) x (by have:=ZbY e;omega)
 unfold v246
 simp (maxSteps:=4000000) (disch:=first|omega|(simp;done)|(simp;omega)) [h1,h2,-getElem?_pos]
theorem Zqe (x:Str)(b:Exp)(free:List Str)(l:List Exp)(hn:l.length≤1073741824)(hw:∀ e∈l,e.wf∧e.weight≤1073741824) :
 ∃ r,(∃ z:Int,(0≤z↔∃ e∈l,x∈Zaf e)∧r=(intV z,[Obj.box (Zb7 x b free)]))∧(K A).call 164 [exsV l,.sc (.clo 246 [true] [[.ptr 0 0]])] [.box (Zb7 x b free)]=some r:=by
 refine ZcI _ (vf:=v164) (by kernel_rfl) rfl (by simp) ?_
 unfold v164
 simp (disch:=first|omega|(simp;done)|(simp;omega))
 refine Zam (fun i s=>(∀ (j:Nat) e,j<i→l[j]?=some e→x∉Zaf e)∧s=⟨[(0,exsV l),(1,.sc (.clo 246 [true] [[.ptr 0 0]])),(7,intV l.length),(8,intV i)],[(0,some (.box (Zb7 x b free)))]⟩) l.length ⟨by omega,by simp⟩ ?_ ?_
 ·rintro i s hi ⟨hs,rfl⟩
  obtain ⟨e,he⟩:=Zaa hi
  have hm:=List.mem_of_getElem? he
  have hc:=hit246 (A:=A) x b free e (hw e hm).1 (hw e hm).2
  unfold Zpa
  by_cases hx:x∈Zaf e
  ·simp (maxSteps:=4000000) (disch:=first|omega|(simp;done)|(simp;omega)) [hi,he,hc,hx,-getElem?_pos]
   exact ⟨e,hm,hx⟩
  ·simp (maxSteps:=4000000) (disch:=first|omega|(simp;done)|(simp;omega)) [hi,he,hc,hx,-getElem?_pos]
   intro j e' hj he'
   by_cases hji:j=i
   ·subst hji
    rw [he] at he'
    cases he'
    exact hx
   ·exact hs j e' (by omega) he'
 ·rintro s ⟨hs,rfl⟩
  unfold Zpa
  simp (maxSteps:=4000000) (disch:=first|omega|(simp;done)|(simp;omega)) [-getElem?_pos]
  intro e he
  obtain ⟨j,hj⟩:=List.mem_iff_getElem?.1 he
  exact hs j e (List.getElem?_eq_some_iff.1 hj).1 hj
theorem Zj9 (x:Str)(b:Exp)(free:List Str)(l:List Exp)(hn:l.length≤1073741824)(hw:∀ e∈l,e.wf∧e.weight≤1073741824) :
 (K A).call 117 [exsV l,.sc (.clo 246 [true] [[.ptr 0 0]])] [.box (Zb7 x b free)]=some (Zah (decide (∃ e∈l,x∈Zaf e)),[.box (Zb7 x b free)]):=by
 refine Zan (vf:=v117) (by kernel_rfl) rfl (by simp) ?_
 obtain ⟨_,⟨z,hz,rfl⟩,hc⟩:=Zqe (A:=A) x b free l hn hw
 have hd:decide (∃ e∈l,x∈Zaf e)=decide (0≤z):=by rw [decide_eq_decide];exact hz.symm
 rw [hd]
 unfold v117
 simp (maxSteps:=4000000) (disch:=first|omega|(simp;done)|(simp;omega)) [hc,-getElem?_pos]
theorem Zrv (x:Str)(b:Exp)(free:List Str)(n:Str)(l:List Exp)(hf:free.length≤4294967296)(hn:l.length≤1073741824)(hw:∀ e∈l,e.wf∧e.weight≤1073741824) :
 (K A).call 206 [.ag (Zb7 x b free),strV n,exsV l] []=some (Zah (decide (hitP x free n l)),[]):=by
 refine Zan (vf:=v206) (by kernel_rfl) rfl (by simp) ?_
 have h1:=Zby (A:=A) free n hf
 have h2:=Zj9 (A:=A) x b free l hn hw
 unfold v206
 by_cases hm:n∈free
 ·have hd:decide (hitP x free n l)=decide (∃ e∈l,x∈Zaf e):=by
   rw [decide_eq_decide]
   exact ⟨fun h=>h.2,fun h=>⟨hm,h⟩⟩
  rw [hd]
  generalize decide (∃ e∈l,x∈Zaf e)=v at *
  simp (maxSteps:=4000000) (disch:=first|omega|(simp;done)|(simp;omega)) [h1,h2,hm,-getElem?_pos]
 ·have hd:decide (hitP x free n l)=false:=by
   rw [decide_eq_false_iff_not]
   exact fun h=>hm h.1
  rw [hd]
  simp (maxSteps:=4000000) (disch:=first|omega|(simp;done)|(simp;omega)) [h1,hm,-getElem?_pos]
def Zi7 (x:Str)(free:List Str)(e:Exp):List Exp:=e.kids.zipIdx.map fun p=>if p.2<Zap e then p.1 else repl e.name (ZaK 0 (allP e++free++[x])) p.1
theorem Zou (x:Str)(b:Exp)(free:List Str)(e:Exp)(hs:shp e)(hk:e.kind=4∨e.kind=6∨e.kind=7)(hl:e.weight≤67108864)(hfl:free.length≤67108864)(hn:nmL e)(hnf:∀ s∈free,s.length≤1000)(hx:x.length≤1000) :
 (K A).call 143 [.ag (Zb7 x b free),expV e] []=some (expV (Zcq x free e),[]):=by
 refine Zan (vf:=v143) (by kernel_rfl) rfl (by simp) ?_
 obtain ⟨ha,hch⟩:=ZaT (by omega) hs.one
 have hkl:Zap e<e.kids.length∧e.kids.length≤2:=by
  have h:=hs.one.2.2
  unfold Zjy at h
  unfold Zap
  rcases hk with k|k|k
  ·rw [if_neg (by omega),if_pos (by omega)] at h
   rw [if_neg (by omega),h]
   decide
  ·rw [if_pos (by omega)] at h
   rw [if_pos (by omega),h]
   decide
  ·rw [if_pos (by omega)] at h
   rw [if_neg (by omega),h]
   decide
 obtain ⟨hk1,hk2⟩:=hkl
 have hkw:∀ y∈e.kids,y.wf∧y.weight≤67108864:=fun y hy=>⟨(hs.child (ZcS hy)).wf,by have:=Exp.child_lt (ZcS hy);omega⟩
 have hkne:e.kids≠[]:=fun h=>by rw [h] at hk1;simp at hk1
 have hc:=ZmL (A:=A) e.kids hkne (by omega)
 have hhit:=Zrv (A:=A) x b free e.name (e.kids.drop (Zap e)) (by omega) (by rw [List.length_drop];omega) (fun y hy=>by have:=hkw y (List.mem_of_mem_drop hy);exact ⟨this.1,by omega⟩)
 have hall:=Zrk (A:=A) e hs.wf (by omega)
 have hal:=Zfa e hs.wf
 have hfr:=ZkY (A:=A) (allP e++free++[x]) (by simp;omega) (fun s h=>by
  simp only [List.mem_append,List.mem_singleton] at h
  rcases h with (h|h)|h
  ·exact hn s h
  ·exact hnf s h
  ·exact h▸hx)
 have hrow0:wc e.row=[.c (.int .i64 e.kind),.c (.int .i64 e.pos),.c (.str e.name),.c (.int .i64 e.num),.c (.sl (Exp.rows e.kids)),.c (.sl (Exp.armRows e.arms)),.c (.int .i64 e.ty.kind),.c (.str e.ty.name),.c (.int .i64 e.ty.id),.c (.int .i64 e.ty.home),.c (.sl (Ty.rows e.ty.args))]:=by rw [Exp.row_eq];rfl
 have hvw:∀ i,((wr (Exp.rows e.kids)).drop i).take (e.kids.length-i)=wr (Exp.rows (e.kids.drop i)):=fun i=>by
  rw [ZnA _ _ _ (by simp),Exp.rows_map,Exp.rows_map,List.map_drop]
 have hbin:Zcq x free e=if e.name=x∨¬hitP x free e.name (e.kids.drop (Zap e)) then e else .mk e.kind e.pos (ZaK 0 (allP e++free++[x])) e.num (Zi7 x free e) e.arms e.ty:=by
  unfold Zcq
  by_cases h1:e.name=x
  ·rw [if_pos (.inl h1),if_pos (.inl h1)]
  ·by_cases h2:hitP x free e.name (e.kids.drop (Zap e))
   ·rw [if_neg (fun q=>q.elim h1 fun q=>q.elim (fun q=>by omega) fun q=>q h2),if_neg (fun q=>q.elim h1 fun q=>q h2)]
    rfl
   ·rw [if_pos (.inr (.inr h2)),if_pos (.inr h2)]
 have hsc:(Zap e:Int)=if e.kind=6 then 1 else 0:=by unfold Zap;split<;>rfl
 have hge:¬(e.kids.length:Int)≤Zap e:=by omega
 have hKl:(Zi7 x free e).length=e.kids.length:=by simp [Zi7]
 have hKg:∀ (i:Nat) y,e.kids[i]?=some y→(Zi7 x free e)[i]?=some (if i<Zap e then y else repl e.name (ZaK 0 (allP e++free++[x])) y):=fun i y h=>by simp [Zi7,h]
 have hK0:(Zi7 x free e).take (Zap e)++e.kids.drop (Zap e)=e.kids:=by
  refine List.ext_getElem? fun i => ?_
  by_cases hi:i<Zap e
  ·obtain ⟨y,hy⟩:=Zaa (l:=e.kids) (i:=i) (by omega)
   rw [List.getElem?_append_left (by rw [List.length_take];omega),List.getElem?_take,if_pos hi,hKg i y hy,if_pos hi,hy]
  ·rw [List.getElem?_append_right (by rw [List.length_take];omega),List.length_take,List.getElem?_drop,show Zap e+(i-min (Zap e) (Zi7 x free e).length)=i by omega]
 have hrowR:∀ to ks,wc (Exp.mk e.kind e.pos to e.num ks e.arms e.ty).row=[.c (.int .i64 e.kind),.c (.int .i64 e.pos),.c (.str to),.c (.int .i64 e.num),.c (.sl (Exp.rows ks)),.c (.sl (Exp.armRows e.arms)),.c (.int .i64 e.ty.kind),.c (.str e.ty.name),.c (.int .i64 e.ty.id),.c (.int .i64 e.ty.home),.c (.sl (Ty.rows e.ty.args))]:=fun to ks=>by rw [Exp.row_eq];rfl
 rw [hbin]
 clear hbin
 have hv0:=hvw 0
 have hv1:=hvw 1
 simp only [Nat.sub_zero,List.drop_zero] at hv0
 generalize hS:Zap e=sc at *
 unfold v143
 refine Zex ⟨[(2,.sc (.ptr 64 0)),(3,.sc (.ptr 128 0)),(4,.sc (.ptr 192 0))],[(64,some (.box (Zb7 x b free))),(128,some (.box (wc e.row))),(192,some Zej)]⟩ (by simp) ?_
 refine Zex ⟨[(2,.sc (.ptr 64 0)),(3,.sc (.ptr 128 0)),(4,.sc (.ptr 192 0)),(5,.sc (.arr 416 e.kids.length))],[(64,some (.box (Zb7 x b free))),(128,some (.box (wc e.row))),(192,some Zej),(416,some (.arr 11 (wr (Exp.rows e.kids)) 0))]⟩ (by simp (disch:=first|omega|(simp;done)|(simp;omega)) [hc]) ?_
 refine Zex ⟨[(2,.sc (.ptr 64 0)),(3,.sc (.ptr 128 0)),(4,.sc (.ptr 192 0)),(5,.sc (.arr 416 e.kids.length)),(6,intV 0)],[(64,some (.box (Zb7 x b free))),(128,some (.box (wc e.row))),(192,some Zej),(416,some (.arr 11 (wr (Exp.rows e.kids)) 0))]⟩ (by simp) ?_
 by_cases h1:e.name=x
 ·rw [if_pos (.inl h1)]
  subst h1
  by_cases h6:e.kind=6
  ·simp (maxSteps:=4000000) (disch:=first|omega|(simp;done)|(simp;omega)) [h6,hrow0,-getElem?_pos]
  ·simp (maxSteps:=4000000) (disch:=first|omega|(simp;done)|(simp;omega)) [h6,hrow0,-getElem?_pos]
 ·by_cases h2:hitP x free e.name (e.kids.drop sc)
  ·rw [if_neg (fun q=>q.elim h1 fun q=>q h2)]
   refine Zlq ⟨[(2,.sc (.ptr 64 0)),(3,.sc (.ptr 128 0)),(4,.sc (.ptr 192 0)),(5,.sc (.arr 416 e.kids.length)),(6,intV (sc:Int)),(35,Zah false)],[(64,some (.box (Zb7 x b free))),(128,some (.box (wc e.row))),(192,some Zej),(416,some (.arr 11 (wr (Exp.rows e.kids)) 0))]⟩ (by
    by_cases h6:e.kind=6
    ·rw [if_pos h6] at hsc
     have hsc1:sc=1:=by omega
     subst hsc1
     have hg1:¬(e.kids.length:Int)≤1:=by omega
     have hsl:∀ L:Nat→Option Obj,Zbl L 11 (.sc (.arr 416 e.kids.length)) (some (.sc (.c (.int .i64 1)))) none none=arrK (L 416) fun s' rows _=>bif rows.length == e.kids.length && s' == 11 then some (.sc (.vw 416 e.kids.length 1 (e.kids.length-1)),[]) else none:=fun L=>slice_arr_from (i:=1) (by omega)
     have hle1:1+(e.kids.length-1)=e.kids.length:=by omega
     simp (maxSteps:=4000000) (disch:=first|omega|(simp;done)|(simp;omega)) [h1,h2,h6,hg1,hsl,hle1,hkne,hhit,hv1,-List.drop_one,-getElem?_pos]
    ·rw [if_neg h6] at hsc
     have hsc0:sc=0:=by omega
     subst hsc0
     rw [List.drop_zero] at hhit h2
     have hsl:∀ L:Nat→Option Obj,Zbl L 11 (.sc (.arr 416 e.kids.length)) (some (.sc (.c (.int .i64 0)))) none none=arrK (L 416) fun s' rows _=>bif rows.length == e.kids.length && s' == 11 then some (.sc (.vw 416 e.kids.length 0 (e.kids.length-0)),[]) else none:=fun L=>slice_arr_from (i:=0) (by omega)
     simp (maxSteps:=4000000) (disch:=first|omega|(simp;done)|(simp;omega)) [h1,h2,h6,hsl,hkne,hhit,hv0,-getElem?_pos]) ?_
   generalize allP e=ap at *
   generalize ZaK 0 (ap++free++[x])=to at *
   generalize Zi7 x free e=kr at *
   rw [List.append_assoc] at hfr
   simp (maxSteps:=4000000) (disch:=first|omega|(simp;done)|(simp;omega)) [hall,hfr,Nat.add_assoc,-getElem?_pos]
   refine Zaz (fun j=>⟨[(3,.sc (.ptr 128 0)),(4,.sc (.ptr 192 0)),(5,.sc (.arr 416 e.kids.length)),(7,strV to),(8,intV ((sc+j:Nat):Int))],[(128,some (.box (wc e.row))),(192,some Zej),(416,some (.arr 11 (wr (Exp.rows (kr.take (sc+j)++e.kids.drop (sc+j)))) 0)),(2400,some (.arr 1 (wr (Zag (ap++(free++[x])))) 0))]⟩) (e.kids.length-sc) ?_ ?_ ?_
   ·simp [hK0]
   ·intro j hj
    obtain ⟨y,hy⟩:=Zaa (l:=e.kids) (i:=sc+j) (by omega)
    have hyw:=hkw y (List.mem_of_getElem? hy)
    have hz:=hKg (sc+j) y hy
    rw [if_neg (by omega)] at hz
    have hg:=Zcz (i:=sc+j) hKl (by omega)
    rw [hy] at hg
    have hst:=Zcg hKl hz
    have hln:=ZcA (i:=sc+j) hKl
    have hrep:=Zhr (A:=A) e.name to y hyw.1 (by omega)
    rw [show sc+(j+1)=sc+j+1 from rfl,←hst]
    generalize kr.take (sc+j)++e.kids.drop (sc+j)=zr at *
    have hset:=Zd7 zr (sc+j) (repl e.name to y)
    have hlt:((sc+j:Nat):Int)<e.kids.length:=by omega
    have hltn:sc+j<e.kids.length:=by omega
    have hcast:((sc+j+1:Nat):Int)=((sc+j:Nat):Int)+1:=by omega
    rw [hcast]
    generalize sc+j=q at *
    unfold Znj
    simp (maxSteps:=4000000) (disch:=first|omega|(simp;done)|(simp;omega)) [hlt,hltn,hg,hln,hrep,hset,Zbi,-getElem?_pos]
   ·have htk:kr.take (sc+(e.kids.length-sc))++e.kids.drop (sc+(e.kids.length-sc))=kr:=by
     rw [show sc+(e.kids.length-sc)=e.kids.length by omega,List.drop_of_length_le (by omega),List.append_nil,List.take_of_length_le (by omega)]
    have hlt:¬((sc+(e.kids.length-sc):Nat):Int)<e.kids.length:=by omega
    rw [htk]
    generalize sc+(e.kids.length-sc)=q at *
    unfold Znj
    simp (maxSteps:=4000000) (disch:=first|omega|(simp;done)|(simp;omega)) [hlt,hrow0,hrowR,hKl,Zbi,-getElem?_pos]
  ·rw [if_pos (.inr h2)]
   by_cases h6:e.kind=6
   ·rw [if_pos h6] at hsc
    have hsc1:sc=1:=by omega
    subst hsc1
    have hg1:¬(e.kids.length:Int)≤1:=by omega
    have hsl:∀ L:Nat→Option Obj,Zbl L 11 (.sc (.arr 416 e.kids.length)) (some (.sc (.c (.int .i64 1)))) none none=arrK (L 416) fun s' rows _=>bif rows.length == e.kids.length && s' == 11 then some (.sc (.vw 416 e.kids.length 1 (e.kids.length-1)),[]) else none:=fun L=>slice_arr_from (i:=1) (by omega)
    have hle1:1+(e.kids.length-1)=e.kids.length:=by omega
    simp (maxSteps:=4000000) (disch:=first|omega|(simp;done)|(simp;omega)) [h1,h2,h6,hg1,hsl,hle1,hkne,hhit,hv1,-List.drop_one,hrow0,-getElem?_pos]
   ·rw [if_neg h6] at hsc
    have hsc0:sc=0:=by omega
    subst hsc0
    rw [List.drop_zero] at hhit h2
    have hsl:∀ L:Nat→Option Obj,Zbl L 11 (.sc (.arr 416 e.kids.length)) (some (.sc (.c (.int .i64 0)))) none none=arrK (L 416) fun s' rows _=>bif rows.length == e.kids.length && s' == 11 then some (.sc (.vw 416 e.kids.length 0 (e.kids.length-0)),[]) else none:=fun L=>slice_arr_from (i:=0) (by omega)
    simp (maxSteps:=4000000) (disch:=first|omega|(simp;done)|(simp;omega)) [h1,h2,h6,hsl,hkne,hhit,hv0,hrow0,-getElem?_pos]
variable {A:Zac}
theorem Zge {x:Str}{free vars:List Str}{b:Exp}(hn:inj vars)(hx:x∉vars)(hs:shp b)(hp:properP b)(hl:b.weight+vars.length+free.length≤134217728)(hb:nmL b)(hv:∀ s∈vars,s.length≤1000) :
 ∀ k,k≤vars.length→nmL (Zc7 x free vars b k).2∧∀ s∈(Zc7 x free vars b k).1,s.length≤1000
 | 0,_=>⟨hb,hv⟩
 | k+1,hk=>by
  obtain ⟨h1,h2⟩:=Zge (free:=free) hn hx hs hp hl hb hv k (by omega)
  have ho:=ZeK (free:=free) hn hx hs hp k (by omega)
  rw [Zdg]
  generalize Zc7 x free vars b k=p at *
  obtain ⟨vs,bk⟩:=p
  simp only at *
  unfold Zdq
  simp only
  cases hv2:vs[k]? with
  | none=>exact ⟨h1,h2⟩
  | some v =>
   simp only
   split
   ·exact ⟨h1,h2⟩
   ·have hal:=Zfa bk ho.shape.wf
    have hf:=Zi5 0 (allP bk++vs++free++[x]) (by have:=ho.weight;have:=ho.len;simp;omega)
    refine ⟨Zll h1 hf,fun s hs => ?_⟩
    rcases Zh7 hs with hs|hs
    ·exact h2 s hs
    ·exact hs▸hf
theorem arm145 (x:Str)(b:Exp)(free:List Str)(a:ArmH × Exp)(hi:inj a.1.vars)(hs:shp a.2)(hp:properP a.2)(hl:a.2.weight+a.1.vars.length+free.length≤134217728)(hn:nmL a.2)(hv:∀ s∈a.1.vars,s.length≤1000)(hnf:∀ s∈free,s.length≤1000)(hxl:x.length≤1000) :
 (K A).call 145 [.ag (Zb7 x b free),armV a] []=some (armV (armP x free a),[]):=by
 refine Zan (vf:=v145) (by kernel_rfl) rfl (by simp) ?_
 have hc0:=Zby (A:=A) a.1.vars x (by omega)
 unfold armP
 unfold v145
 by_cases hx:x∈a.1.vars
 ·rw [if_pos hx]
  have hrow:wc (Zao a)=[.c (.int .i64 a.1.pos),.c (.str a.1.con),.c (.sl (Zag a.1.vars)),.c (.int .i64 a.2.kind),.c (.int .i64 a.2.pos),.c (.str a.2.name),.c (.int .i64 a.2.num),.c (.sl (Exp.rows a.2.kids)),.c (.sl (Exp.armRows a.2.arms)),.c (.int .i64 a.2.ty.kind),.c (.str a.2.ty.name),.c (.int .i64 a.2.ty.id),.c (.int .i64 a.2.ty.home),.c (.sl (Ty.rows a.2.ty.args))]:=by rw [Zao,Exp.row_eq];rfl
  simp (maxSteps:=4000000) (disch:=first|omega|(simp;done)|(simp;omega)) [hc0,hx,hrow,-getElem?_pos]
 ·rw [if_neg hx]
  have hok:=ZeK (free:=free) hi hx hs hp
  have hnm:=Zge (free:=free) hi hx hs hp hl hn hv
  have hst:=Zdg x free a.1.vars a.2
  have h0:Zc7 x free a.1.vars a.2 0=(a.1.vars,a.2):=rfl
  have hcl:=ZtO (A:=A) a.1.vars (by omega)
  obtain ⟨⟨ap,ac,vars⟩,ab⟩:=a
  simp only at *
  have hsp0:splice (wc (Zao ((⟨ap,ac,vars⟩:ArmH),ab))) 2 [W.arr 864 vars.length]=some (W.c (.int .i64 ap)::W.c (.str ac)::W.arr 864 vars.length::wc ab.row):=by
   rw [Zao,Exp.row_eq ab]
   rfl
  have hcu2:∀ y:Exp,cut (W.c (.int .i64 ap)::W.c (.str ac)::W.arr 864 vars.length::wc y.row) 2 1=some [W.arr 864 vars.length]:=by
   intro y
   rw [Exp.row_eq y]
   rfl
  have hcu3:∀ y:Exp,cut (W.c (.int .i64 ap)::W.c (.str ac)::W.arr 864 vars.length::wc y.row) 3 11=some (wc y.row):=by
   intro y
   rw [Exp.row_eq y]
   rfl
  have hsp3:∀ y z:Exp,splice (W.c (.int .i64 ap)::W.c (.str ac)::W.arr 864 vars.length::wc y.row) 3 (wc z.row)=some (W.c (.int .i64 ap)::W.c (.str ac)::W.arr 864 vars.length::wc z.row):=by
   intro y z
   rw [Exp.row_eq y,Exp.row_eq z]
   rfl
  simp (maxSteps:=4000000) (disch:=first|omega|(simp;done)|(simp;omega)) [hc0,hx,hcl,hsp0,hcu2,-getElem?_pos]
  refine Zaz (fun k=>⟨[(2,.sc (.ptr 64 0)),(3,.sc (.ptr 128 0)),(4,.sc (.ptr 192 0)),(19,.sc (.arr 864 vars.length)),(20,intV vars.length),(21,intV k)],
   [(64,some (.box (Zb7 x b free))),(128,some (.box (W.c (.int .i64 ap)::W.c (.str ac)::W.arr 864 vars.length::wc (Zc7 x free vars ab k).2.row))),(192,some (.box [zi,zs,.nil,zi,zi,zs,zi,.nil,.nil,zi,zs,zi,zi,.nil])),(864,some (.arr 1 (wr (Zag (Zc7 x free vars ab k).1)) 0))]⟩) vars.length ?_ ?_ ?_
  ·simp [h0]
  ·intro k hk
   have ho:=hok k (by omega)
   obtain ⟨hn1,hn2⟩:=hnm k (by omega)
   rw [hst k]
   generalize Zc7 x free vars ab k=p at *
   obtain ⟨vs,bk⟩:=p
   simp only at *
   have hvl:=ho.len
   have hw:=ho.weight
   obtain ⟨v,hvk⟩:=Zaa (l:=vs) (i:=k) (by omega)
   have hct:=Zby (A:=A) (vs.drop (k+1)) v (by rw [List.length_drop];omega)
   have hhit:=Zrv (A:=A) x b free v [bk] (by omega) (by simp) (fun y hy=>by rw [List.mem_singleton.1 hy];exact ⟨ho.shape.wf,by omega⟩)
   have hex:Exp.rows [bk]=[bk.row]:=by rw [Exp.rows,Exp.rows]
   simp only [exsV,hex] at hhit
   have hall:=Zrk (A:=A) bk ho.shape.wf (by omega)
   have hal:=Zfa bk ho.shape.wf
   have hfr:=ZkY (A:=A) (allP bk++vs++free++[x]) (by simp;omega) (fun s h=>by
    simp only [List.mem_append,List.mem_singleton] at h
    rcases h with ((h|h)|h)|h
    ·exact hn1 s h
    ·exact hn2 s h
    ·exact hnf s h
    ·exact h▸hxl)
   have hkI:(k:Int)<vars.length:=by omega
   have hsl:∀ L:Nat→Option Obj,Zbl L 1 (.sc (.arr 864 vars.length)) (some (.sc (.c (.int .i64 ((k:Int)+1))))) none none=arrK (L 864) fun s' rows _=>bif rows.length == vars.length && s' == 1 then some (.sc (.vw 864 vars.length (k+1) (vars.length-(k+1))),[]) else none:=fun L=>slice_arr_from (i:=k+1) (by omega)
   have hvw:((wr (Zag vs)).drop (k+1)).take (vars.length-(k+1))=wr (Zag (vs.drop (k+1))):=by
    rw [ZnA _ _ _ (by simp;omega)]
    simp [Zag]
   have hkle:k+1+(vars.length-(k+1))=vars.length:=by omega
   unfold Zdq
   simp only [hvk]
   have wbk:∀ L d,Zae (W.toC L d) (wc bk.row)=some bk.row:=fun L d=>by simp
   unfold Znu
   by_cases hd:v∈vs.drop (k+1)
   ·rw [if_pos (.inl hd)]
    simp (maxSteps:=4000000) (disch:=first|omega|(simp;done)|(simp;omega)) [hkI,hvk,hvl,hcu2,hsl,hvw,hkle,hct,hd,-getElem?_pos]
   ·by_cases hh:hitP x free v [bk]
    ·rw [if_neg (fun q=>q.elim hd fun q=>q hh)]
     have hrep:=fun to=>Zhr (A:=A) v to bk ho.shape.wf (by omega)
     generalize allP bk=al at *
     generalize ZaK 0 (al++vs++free++[x])=to at *
     simp only [List.append_assoc] at hfr
     have hset:=Zg2 vs k to
     simp (maxSteps:=4000000) (disch:=first|omega|(simp;done)|(simp;omega)) [hk,hkI,hvk,hvl,hcu2,hcu3,hsp3,hsl,hvw,hkle,hct,hd,hhit,hh,hall,hfr,hrep,hset,Nat.add_assoc,-getElem?_pos]
    ·rw [if_pos (.inr hh)]
     simp (maxSteps:=4000000) (disch:=first|omega|(simp;done)|(simp;omega)) [hkI,hvk,hvl,hcu2,hcu3,hsl,hvw,hkle,hct,hd,hhit,hh,-getElem?_pos]
  ·have ho:=hok vars.length (Nat.le_refl _)
   generalize Zc7 x free vars ab vars.length=p at *
   obtain ⟨vs,bk⟩:=p
   simp only at *
   have hvl:=ho.len
   have hrow:wc (Zao ((⟨ap,ac,vs⟩:ArmH),bk))=[.c (.int .i64 ap),.c (.str ac),.c (.sl (Zag vs)),.c (.int .i64 bk.kind),.c (.int .i64 bk.pos),.c (.str bk.name),.c (.int .i64 bk.num),.c (.sl (Exp.rows bk.kids)),.c (.sl (Exp.armRows bk.arms)),.c (.int .i64 bk.ty.kind),.c (.str bk.ty.name),.c (.int .i64 bk.ty.id),.c (.int .i64 bk.ty.home),.c (.sl (Ty.rows bk.ty.args))]:=by rw [Zao,Exp.row_eq];rfl
   have hrowb:wc bk.row=[.c (.int .i64 bk.kind),.c (.int .i64 bk.pos),.c (.str bk.name),.c (.int .i64 bk.num),.c (.sl (Exp.rows bk.kids)),.c (.sl (Exp.armRows bk.arms)),.c (.int .i64 bk.ty.kind),.c (.str bk.ty.name),.c (.int .i64 bk.ty.id),.c (.int .i64 bk.ty.home),.c (.sl (Ty.rows bk.ty.args))]:=by rw [Exp.row_eq];rfl
   unfold Znu
   simp (maxSteps:=4000000) (disch:=first|omega|(simp;done)|(simp;omega)) [hrow,hrowb,hvl,-getElem?_pos]
end Go.Vs.Tryz
