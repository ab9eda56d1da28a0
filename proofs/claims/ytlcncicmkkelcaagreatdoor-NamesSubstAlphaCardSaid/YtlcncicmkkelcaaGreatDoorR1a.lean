/- The free variables by the program, walked. (Parts of one proof, put together.) -/
import Derived.Test.YtlcncicmkkelcaaGreatDoorR0a
import Derived.Test.YtlcncicmkkelcaaGreatDoorM6a
set_option linter.unusedSimpArgs false
set_option linter.unusedVariables false
set_option linter.deprecated false
set_option maxHeartbeats 2000000
namespace Go.Vs.Tryz
open Go Go.Vs
variable {A:Zac}
def Za1 (hidden out:List Str)(s:Str):List Str:=if s∈hidden∨s∈out then out else out++[s]
def ZdK (e:Exp)(out:List Str)(p:List Str × Nat):List Str:=p.1.foldl (Za1 (e.bound p.2)) out
def Zag (e:Exp):List Str:=e.fold fun e l=>if e.kind=1 then [e.name] else l.zipIdx.foldl (ZdK e) []
theorem Zbz (e:Exp):Zag e=if e.kind=1 then [e.name] else (e.children.map Zag).zipIdx.foldl (ZdK e) []:=Exp.fold_eq _ e
theorem Zmv (h out:List Str)(s:Str):(Za1 h out s).length≤out.length+1:=by
 unfold Za1
 split<;>simp
theorem ZeE (h:List Str):∀ (l out:List Str),(l.foldl (Za1 h) out).length≤out.length+l.length
 | [],out=>by simp
 | s::l,out=>by
  have h1:=Zmv h out s
  have h2:=ZeE h l (Za1 h out s)
  simp only [List.foldl_cons,List.length_cons]
  omega
theorem ZeP (e:Exp):∀ (l:List (List Str × Nat))(out:List Str),(l.foldl (ZdK e) out).length≤out.length+(l.map fun p=>p.1.length).sum
 | [],out=>by simp
 | p::l,out=>by
  have h1:(ZdK e out p).length≤out.length+p.1.length:=ZeE _ _ _
  have h2:=ZeP e l (ZdK e out p)
  simp only [List.foldl_cons,List.map_cons,List.sum_cons]
  omega
theorem Zit {l:List Nat}{i:Nat}:(l.take i).sum≤l.sum:=by
 have:l.sum=(l.take i).sum+(l.drop i).sum:=by rw [←List.sum_append,List.take_append_drop]
 omega
theorem Zh5 (l:List (List Str)):(l.zipIdx.map fun p=>p.1.length)=l.map List.length:=by
 rw [show (fun p:List Str × Nat=>p.1.length)=List.length ∘ Prod.fst from rfl,←List.map_map,List.zipIdx_map_fst]
theorem ZjE {α:Type}{f g:α→Nat}:∀ {l:List α},(∀ x∈l,f x≤g x)→(l.map f).sum≤(l.map g).sum
 | [],_=>by simp
 | a::l,h=>by
  have h1:=h a (by simp)
  have h2:=ZjE (l:=l) fun x hx=>h x (by simp [hx])
  simp only [List.map_cons,List.sum_cons]
  omega
theorem ZcK (e:Exp):(Zag e).length≤e.weight:=by
 induction e using Exp.ind with
 | h e ih =>
  rw [Zbz]
  split
  ·exact e.weight_pos
  ·have h1:=ZeP e (e.children.map Zag).zipIdx []
   rw [Zh5,List.map_map] at h1
   have h2:(e.children.map (List.length ∘ Zag)).sum≤(e.children.map Exp.weight).sum:=ZjE ih
   rw [e.weight_eq]
   simp only [List.length_nil] at h1
   omega
def outP (e:Exp)(i:Nat):List Str:=((e.children.map Zag).zipIdx.take i).foldl (ZdK e) []
theorem Zqf (e:Exp)(i:Nat):(outP e i).length≤e.weight:=by
 have h1:=ZeP e ((e.children.map Zag).zipIdx.take i) []
 have h2:(((e.children.map Zag).zipIdx.take i).map fun p=>p.1.length).sum≤(e.children.map Exp.weight).sum:=by
  rw [List.map_take,Zh5,List.map_map]
  exact Nat.le_trans Zit (ZjE fun x _=>ZcK x)
 unfold outP
 rw [e.weight_eq]
 simp only [List.length_nil] at h1
 omega
theorem Zg3 {e x:Exp}{i:Nat}(hx:e.children[i]?=some x):outP e (i+1)=(Zag x).foldl (Za1 (e.bound i)) (outP e i):=by
 have h:(e.children.map Zag).zipIdx[i]?=some (Zag x,i):=by simp [List.getElem?_zipIdx,hx]
 unfold outP
 rw [ZaC h,List.foldl_append]
 rfl
theorem ZiH (e:Exp):outP e e.children.length=(e.children.map Zag).zipIdx.foldl (ZdK e) []:=by
 unfold outP
 rw [List.take_of_length_le (by simp)]
theorem Zq4 (e:Exp)(hw:e.wf)(hl:e.weight≤1073741824):(K A).call 30 [expV e] []=some (ZaB (Zag e),[]):=by
 induction e using Exp.ind with
 | h e ih =>
 refine Zas (vf:=v30) (by kernel_rfl) rfl (by decide) ?_
 have hle:=e.children_le
 rw [e.children_len] at hle
 have h1:∀ s:Str,Zaf [s]=[[.str s]]:=fun _=>rfl
 have hn:Zaf []=[]:=rfl
 by_cases hk:e.kind=1
 ·unfold v30
  simp [hk,Zbz,h1]
 ·by_cases hkids:e.kids=[]
  ·have harms:e.arms=[]:=by
    by_cases h8:e.kind=8
    ·have:=hw.one.1 h8
     rw [hkids] at this
     simp at this
    ·exact hw.one.2.1 h8
   have hc:=Zb5 (A:=A) e hkids harms
   have hch:e.children=[]:=by simp [Exp.children,hkids,harms]
   unfold v30
   simp (disch:=first|omega|(simp;done)|(simp;omega)) [hk,hc]
   refine Zaz (fun i=>⟨[(1,.sc (.ptr 64 0)),(3,.sc (.arr 641 0)),(16,.sc (.full [])),(17,intV 0),(18,intV i)],[(64,some (.box (wc e.row))),(641,some (.arr 1 [] 0))]⟩) 0 ?_ ?_ ?_
   ·simp
   ·intro i hi;omega
   ·unfold Zqi
    simp [Zbz,hk,hch,hn]
  ·have hc:=ZbR (A:=A) e hkids hl
   unfold v30
   simp (disch:=first|omega|(simp;done)|(simp;omega)) [hk,hc]
   refine Zaz (fun i=>⟨[(1,.sc (.ptr 64 0)),(3,.sc (.arr 641 (outP e i).length)),(16,.sc (.arr 800 e.children.length)),(17,intV e.children.length),(18,intV i)],[(64,some (.box (wc e.row))),(641,some (.arr 1 (wr (Zaf (outP e i))) 0)),(800,some (.arr 11 (wr (Exp.rows e.children)) 0))]⟩) e.children.length ?_ ?_ ?_
   ·simp [outP,hn]
   ·intro i hi
    obtain ⟨x,hx⟩:=Zaa hi
    have hmem:x∈e.children:=List.mem_of_getElem? hx
    have h19:=ih x hmem (hw.child hmem) (by have:=Exp.child_lt hmem;omega)
    have h52:=Zhk (A:=A) e i hw.one hi hl
    have hfl:=ZcK x
    have hol:=Zqf e i
    have hbl:=e.bound_le i
    have hxl:=Exp.child_lt hmem
    rw [e.children_len] at hi
    have hi':(i:Int)<(e.kids.length:Int)+e.arms.length:=by omega
    unfold Zqi
    simp (disch:=first|omega|(simp;done)|(simp;omega)) [hi',hx,h52,h19,-getElem?_pos]
    refine Zaz (fun j=>⟨[(1,.sc (.ptr 64 0)),(3,.sc (.arr 641 (((Zag x).take j).foldl (Za1 (e.bound i)) (outP e i)).length)),(16,.sc (.arr 800 e.children.length)),(17,intV e.children.length),(18,intV i),(6,ZaB (e.bound i)),(27,ZaB (Zag x)),(28,intV (Zag x).length),(29,intV j)],
     [(64,some (.box (wc e.row))),(641,some (.arr 1 (wr (Zaf (((Zag x).take j).foldl (Za1 (e.bound i)) (outP e i)))) 0)),(800,some (.arr 11 (wr (Exp.rows e.children)) 0)),(1216,some (.box (wc x.row)))]⟩) (Zag x).length ?_ ?_ ?_
    ·simp
    ·intro j hj
     obtain ⟨s,hs⟩:=Zaa hj
     rw [ZaC hs,List.foldl_append,List.foldl_cons,List.foldl_nil]
     have hjl:=ZeE (e.bound i) ((Zag x).take j) (outP e i)
     have hjl2:((Zag x).take j).length≤(Zag x).length:=by simp;omega
     generalize ((Zag x).take j).foldl (Za1 (e.bound i)) (outP e i)=out at hjl ⊢
     have hc1:=ZbA (A:=A) (e.bound i) s (by omega)
     have hc2:=ZbA (A:=A) out s (by omega)
     unfold ZsS
     by_cases hb:s∈e.bound i
     ·simp (disch:=first|omega|(simp;done)|(simp;omega)) [hj,hs,hc1,hb,Za1,-getElem?_pos]
     ·by_cases ho:s∈out
      ·simp (disch:=first|omega|(simp;done)|(simp;omega)) [hj,hs,hc1,hc2,hb,ho,Za1,-getElem?_pos]
      ·simp (disch:=first|omega|(simp;done)|(simp;omega)) [hj,hs,hc1,hc2,hb,ho,Za1,-getElem?_pos]
    ·unfold ZsS
     simp (disch:=first|omega|(simp;done)|(simp;omega)) [Zg3 hx,-getElem?_pos]
   ·unfold Zqi
    have he:=ZiH e
    rw [e.children_len] at he
    simp (disch:=first|omega|(simp;done)|(simp;omega)) [Zbz,hk,he]
variable {A:Zac}
def ZcT (e:Exp)(bound out:List Str):List Str:=if e.kind=1∧e.name∉bound∧e.name∉out then out++[e.name] else out
def ZqJ (e:Exp)(bound:List Str)(out:List Str)(p:(List Str→List Str→List Str) × Nat):List Str:=p.1 (bound++e.bound p.2) out
def ZdO (e:Exp):List Str→List Str→List Str:=e.fold fun e l bound out=>l.zipIdx.foldl (ZqJ e bound) (ZcT e bound out)
theorem ZlO (e:Exp)(bound out:List Str):ZdO e bound out=(e.children.map ZdO).zipIdx.foldl (ZqJ e bound) (ZcT e bound out):=by
 unfold ZdO
 rw [Exp.fold_eq]
def outR (e:Exp)(bound out:List Str)(i:Nat):List Str:=((e.children.map ZdO).zipIdx.take i).foldl (ZqJ e bound) (ZcT e bound out)
theorem Ze7 {e x:Exp}{bound out:List Str}{i:Nat}(hx:e.children[i]?=some x):outR e bound out (i+1)=ZdO x (bound++e.bound i) (outR e bound out i):=by
 have h:(e.children.map ZdO).zipIdx[i]?=some (ZdO x,i):=by simp [List.getElem?_zipIdx,hx]
 unfold outR
 rw [ZaC h,List.foldl_append]
 rfl
theorem ZiF (e:Exp)(bound out:List Str):outR e bound out e.children.length=ZdO e bound out:=by
 rw [ZlO]
 unfold outR
 rw [List.take_of_length_le (by simp)]
theorem ZfN (e:Exp)(bound out:List Str):(ZcT e bound out).length≤out.length+1:=by
 unfold ZcT
 split<;>simp
theorem Zkx {e:Exp}{i:Nat}:((e.children.take i).map Exp.weight).sum≤(e.children.map Exp.weight).sum:=by
 rw [List.map_take]
 exact Zit
theorem ZjU (e:Exp):∀ bound out:List Str,(ZdO e bound out).length≤out.length+e.weight:=by
 induction e using Exp.ind with
 | h e ih =>
  intro bound out
  have key:∀ i,i≤e.children.length→(outR e bound out i).length≤out.length+1+((e.children.take i).map Exp.weight).sum:=by
   intro i
   induction i with
   | zero =>
    intro _
    have:=ZfN e bound out
    simpa [outR] using this
   | succ i ihi =>
    intro hi
    obtain ⟨x,hx⟩:=Zaa (l:=e.children) (i:=i) (by omega)
    have h1:=ih x (List.mem_of_getElem? hx) (bound++e.bound i) (outR e bound out i)
    have h2:=ihi (by omega)
    rw [Ze7 hx,ZaC hx,List.map_append,List.sum_append]
    simp only [List.map_cons,List.map_nil,List.sum_cons,List.sum_nil]
    omega
  have h1:=key _ (Nat.le_refl _)
  rw [ZiF,List.take_length] at h1
  rw [e.weight_eq]
  omega
theorem Zp1 (e:Exp):∀ bound out:List Str,out.length≤(ZdO e bound out).length:=by
 induction e using Exp.ind with
 | h e ih =>
  intro bound out
  have key:∀ i,i≤e.children.length→out.length≤(outR e bound out i).length:=by
   intro i
   induction i with
   | zero =>
    intro _
    simp only [outR,List.take_zero,List.foldl_nil,ZcT]
    split<;>simp
   | succ i ihi =>
    intro hi
    obtain ⟨x,hx⟩:=Zaa (l:=e.children) (i:=i) (by omega)
    rw [Ze7 hx]
    exact Nat.le_trans (ihi (by omega)) (ih x (List.mem_of_getElem? hx) _ _)
  have:=key _ (Nat.le_refl _)
  rwa [ZiF] at this
theorem ZpJ {e:Exp}{bound out:List Str}:∀ i,i≤e.children.length→(outR e bound out i).length≤out.length+1+((e.children.take i).map Exp.weight).sum:=by
 intro i
 induction i with
 | zero =>
  intro _
  have:=ZfN e bound out
  simpa [outR] using this
 | succ i ihi =>
  intro hi
  obtain ⟨x,hx⟩:=Zaa (l:=e.children) (i:=i) (by omega)
  have h1:=ZjU x (bound++e.bound i) (outR e bound out i)
  have h2:=ihi (by omega)
  rw [Ze7 hx,ZaC hx,List.map_append,List.sum_append]
  simp only [List.map_cons,List.map_nil,List.sum_cons,List.sum_nil]
  omega
theorem Zmw {e x:Exp}{bound out:List Str}{i:Nat}(hx:e.children[i]?=some x):(outR e bound out i).length+x.weight≤out.length+e.weight:=by
 have hi:i<e.children.length:=(List.getElem?_eq_some_iff.1 hx).1
 have h1:=ZpJ (e:=e) (bound:=bound) (out:=out) i (by omega)
 have h2:=Zkx (e:=e) (i:=i+1)
 rw [ZaC hx,List.map_append,List.sum_append] at h2
 simp only [List.map_cons,List.map_nil,List.sum_cons,List.sum_nil] at h2
 rw [e.weight_eq]
 omega
theorem ZcR {e x:Exp}{i:Nat}(hx:e.children[i]?=some x):(e.bound i).length+x.weight≤e.weight:=by
 have h1:=Zhd (f:=Exp.weight) (List.mem_of_getElem? hx)
 have h2:(e.bound i).length≤1+(e.arms.map fun a=>a.1.vars.length).sum:=by
  unfold Exp.bound
  split
  ·simp
  ·split
   ·cases h:e.arms[i-1]? with
    | none=>simp
    | some a =>
     have:=Zhd (f:=fun a:ArmH × Exp=>a.1.vars.length) (List.mem_of_getElem? h)
     simp only [Option.map_some,Option.getD_some]
     omega
   ·simp
 rw [e.weight_eq]
 omega
theorem free54 (e:Exp):∀ (bound out:List Str),e.wf→bound.length+e.weight≤1073741824→out.length+e.weight≤1073741824 →
 (K A).call 83 [.sc (.arr 0 out.length),ZaB bound,expV e] [.arr 1 (wr (Zaf out)) 0]=some (.sc (.arr 0 (ZdO e bound out).length),[.arr 1 (wr (Zaf (ZdO e bound out))) 0]):=by
 induction e using Exp.ind with
 | h e ih =>
 intro bound out hw hbl hol
 refine Zas (vf:=v83) (by kernel_rfl) rfl (by simp) ?_
 have hle:=e.children_le
 have hc:=ZcJ (A:=A) e (by rw [e.children_len] at hle;omega)
 have hb1:=Zpx (A:=A) bound e.name (by omega)
 have hb2:=Zpx (A:=A) out e.name (by omega)
 have hsl:=ZfN e bound out
 have hwp:=e.weight_pos
 unfold v83
 refine ZfQ ⟨[(0,.sc (.arr 0 out.length)),(1,ZaB bound),(5,.sc (.ptr 64 0))],[(0,some (.arr 1 (wr (Zaf out)) 0)),(64,some (.box (wc e.row)))]⟩ (by simp) ?_
 refine ZlS ⟨[(0,.sc (.arr 0 (ZcT e bound out).length)),(1,ZaB bound),(5,.sc (.ptr 64 0)),(7,.sc (.arr 1760 e.children.length))],[(0,some (.arr 1 (wr (Zaf (ZcT e bound out))) 0)),(64,some (.box (wc e.row))),(1760,some (.arr 11 (wr (Exp.rows e.children)) 0))]⟩ ?_ ?_
 ·by_cases hk:e.kind=1
  ·by_cases h1:e.name∈bound
   ·simp (disch:=first|omega|(simp;done)|(simp;omega)) [hk,h1,hb1,ZcT,hc]
   ·by_cases h2:e.name∈out
    ·simp (disch:=first|omega|(simp;done)|(simp;omega)) [hk,h1,h2,hb1,hb2,ZcT,hc]
    ·simp (disch:=first|omega|(simp;done)|(simp;omega)) [hk,h1,h2,hb1,hb2,ZcT,hc]
  ·simp (disch:=first|omega|(simp;done)|(simp;omega)) [hk,ZcT,hc]
 ·simp (disch:=first|omega|(simp;done)|(simp;omega))
  refine Zaz (fun i=>⟨[(0,.sc (.arr 0 (outR e bound out i).length)),(1,ZaB bound),(5,.sc (.ptr 64 0)),(7,.sc (.arr 1760 e.children.length)),(8,intV i)],[(0,some (.arr 1 (wr (Zaf (outR e bound out i))) 0)),(64,some (.box (wc e.row))),(1760,some (.arr 11 (wr (Exp.rows e.children)) 0))]⟩) e.children.length ?_ ?_ ?_
  ·simp [outR]
  ·intro i hi
   obtain ⟨x,hx⟩:=Zaa hi
   have hmem:x∈e.children:=List.mem_of_getElem? hx
   have ho:=Zmw (bound:=bound) (out:=out) hx
   have hb:=ZcR hx
   have hxp:=x.weight_pos
   have h54:=ih x hmem (bound++e.bound i) (outR e bound out i) (hw.child hmem) (by simp;omega) (by omega)
   have h91:=Zir (A:=A) e i hw.one hi (by omega)
   rw [e.children_len] at hi hle
   have hi':(i:Int)<(e.kids.length:Int)+e.arms.length:=by omega
   have hlen:(outR e bound out i).length≤(ZdO x (bound++e.bound i) (outR e bound out i)).length:=Zp1 x _ _
   unfold ZrN
   simp (disch:=first|omega|(simp;done)|(simp;omega)) [hi',hx,h54,h91,Ze7 hx,hlen,-getElem?_pos]
  ·have he:=ZiF e bound out
   rw [e.children_len] at he
   unfold ZrN
   simp (disch:=first|omega|(simp;done)|(simp;omega)) [he]
theorem Zrc (e:Exp)(hw:e.wf)(hl:e.weight≤1073741824):(K A).call 32 [expV e] []=some (ZaB (ZdO e [] []),[]):=by
 refine Zas (vf:=v32) (by kernel_rfl) rfl (by simp) ?_
 have h:=free54 (A:=A) e [] [] hw (by simpa using hl) (by simpa using hl)
 have hn:Zaf []=[]:=rfl
 simp [ZaB,hn] at h
 unfold v32
 simp [h,hn]
theorem Zmr {b out:List Str}{s t:Str}:t∈Za1 b out s↔t∈out∨(t=s∧s∉b):=by
 unfold Za1
 split
 ·rename_i h
  constructor
  ·exact .inl
  ·rintro (h1|⟨rfl,h1⟩)
   ·exact h1
   ·exact h.resolve_left h1
 ·rename_i h
  have:s∉b:=fun h1=>h (.inl h1)
  simp [this]
theorem ZdB {b:List Str}:∀ {l out:List Str}{t:Str},t∈l.foldl (Za1 b) out↔t∈out∨(t∈l∧t∉b)
 | [],out,t=>by simp
 | s::l,out,t=>by
  rw [List.foldl_cons,ZdB,Zmr,List.mem_cons]
  constructor
  ·rintro ((h|⟨rfl,h⟩)|⟨h1,h2⟩)
   ·exact .inl h
   ·exact .inr ⟨.inl rfl,h⟩
   ·exact .inr ⟨.inr h1,h2⟩
  ·rintro (h|⟨rfl|h1,h2⟩)
   ·exact .inl (.inl h)
   ·exact .inl (.inr ⟨rfl,h2⟩)
   ·exact .inr ⟨h1,h2⟩
theorem ZbT {b out:List Str}{s:Str}(h:s∈b∨s∈out):Za1 b out s=out:=if_pos h
theorem Zen {b out:List Str}{s:Str}(h:¬(s∈b∨s∈out)):Za1 b out s=out++[s]:=if_neg h
theorem Zi1 {bound b:List Str}:∀ (l acc out:List Str),(l.foldl (Za1 b) acc).foldl (Za1 bound) out=l.foldl (Za1 (bound++b)) (acc.foldl (Za1 bound) out)
 | [],acc,out=>rfl
 | s::l,acc,out=>by
  rw [List.foldl_cons,List.foldl_cons,Zi1 l]
  congr 1
  by_cases hb:s∈b
  ·rw [ZbT (.inl hb),ZbT (.inl (by simp [hb]))]
  ·by_cases ha:s∈acc
   ·rw [ZbT (.inr ha)]
    by_cases h:s∈bound
    ·rw [ZbT (.inl (by simp [h]))]
    ·rw [ZbT (.inr (ZdB.2 (.inr ⟨ha,h⟩)))]
   ·rw [Zen (b:=b) (fun h=>h.elim hb ha),List.foldl_append,List.foldl_cons,List.foldl_nil]
    by_cases h:s∈bound∨s∈acc.foldl (Za1 bound) out
    ·rw [ZbT h,ZbT (h.imp (fun h=>by simp [h]) id)]
    ·rw [Zen h,Zen]
     rintro (h3|h3)
     ·exact (List.mem_append.1 h3).elim (fun h4=>h (.inl h4)) hb
     ·exact h (.inr h3)
theorem Zl7 (e:Exp):e.wf→∀ bound out:List Str,ZdO e bound out=(Zag e).foldl (Za1 bound) out:=by
 induction e using Exp.ind with
 | h e ih =>
  intro hw bound out
  rw [ZlO,Zbz]
  by_cases hk:e.kind=1
  ·have hch:e.children=[]:=by
    have h1:=hw.one.2.2 hk
    have h2:=hw.one.2.1 (by rw [hk];decide)
    simp [Exp.children,h1,h2]
   rw [if_pos hk,hch]
   simp only [List.map_nil,List.zipIdx_nil,List.foldl_nil,List.foldl_cons,ZcT,hk,true_and]
   by_cases h:e.name∈bound∨e.name∈out
   ·rw [ZbT h,if_neg (fun h1=>h.elim h1.1 h1.2)]
   ·rw [Zen h,if_pos ⟨fun h1=>h (.inl h1),fun h1=>h (.inr h1)⟩]
  ·rw [if_neg hk]
   have hs:ZcT e bound out=out:=by
    unfold ZcT
    rw [if_neg (fun h=>hk h.1)]
   rw [hs]
   have key:∀ (l:List Exp) (i:Nat) (acc:List Str),(∀ x∈l,x∈e.children)→((l.map ZdO).zipIdx i).foldl (ZqJ e bound) (acc.foldl (Za1 bound) out)=(((l.map Zag).zipIdx i).foldl (ZdK e) acc).foldl (Za1 bound) out:=by
    intro l
    induction l with
    | nil=>intro i acc _;rfl
    | cons x l ihl =>
     intro i acc hmem
     rw [List.map_cons,List.map_cons,List.zipIdx_cons,List.zipIdx_cons,List.foldl_cons,List.foldl_cons,←ihl (i+1) _ fun y hy=>hmem y (List.mem_cons_of_mem _ hy)]
     congr 1
     have hx:=hmem x (by simp)
     show ZdO x (bound++e.bound i) _=((Zag x).foldl (Za1 (e.bound i)) acc).foldl (Za1 bound) out
     rw [ih x hx (hw.child hx),Zi1]
   exact key e.children 0 [] fun x hx=>hx
theorem Zjz {b out:List Str}{s:Str}(h:out.Nodup):(Za1 b out s).Nodup:=by
 unfold Za1
 split
 ·exact h
 ·rename_i hn
  rw [List.nodup_append]
  refine ⟨h,by simp,?_⟩
  intro x hx y hy
  simp only [List.mem_singleton] at hy
  subst hy
  rintro rfl
  exact hn (.inr hx)
theorem Zfw {b:List Str}:∀ {l out:List Str},out.Nodup→(l.foldl (Za1 b) out).Nodup
 | [],_,h=>h
 | _::l,_,h=>Zfw (l:=l) (Zjz h)
theorem Zfb {e:Exp}:∀ {l:List (List Str × Nat)}{out:List Str},out.Nodup→(l.foldl (ZdK e) out).Nodup
 | [],_,h=>h
 | _::l,_,h=>Zfb (l:=l) (Zfw h)
theorem Zkb (e:Exp):(Zag e).Nodup:=by
 rw [Zbz]
 split
 ·simp
 ·exact Zfb List.nodup_nil
theorem ZhF:∀ {l out:List Str},(out++l).Nodup→l.foldl (Za1 []) out=out++l
 | [],out,_=>by simp
 | s::l,out,h=>by
  have hs:s∉out:=by
   rw [List.nodup_append] at h
   exact fun hs=>h.2.2 s hs s (by simp) rfl
  have he:Za1 [] out s=out++[s]:=by
   unfold Za1
   rw [if_neg (by simpa using hs)]
  rw [List.foldl_cons,he,ZhF (by simpa using h)]
  simp
theorem ZiY (e:Exp)(hw:e.wf):ZdO e [] []=Zag e:=by
 rw [Zl7 e hw,ZhF (by simpa using Zkb e)]
 simp
variable {A:Zac}
theorem ZcD {f:FuncId}{vf:VFun}{args:List V}{objs:List Obj}(P:V × List Obj→Prop)(hT:T2 f=some vf)(hn:args.length=vf.nparams)(ho:objs.length≤64)
 (h:wp (K A) vf.body (ZfW vf.keep objs.length vf.results P) ⟨Zbc 0 args,Zbc 0 (objs.map some)⟩):∃ r,P r∧(K A).call f args objs=some r:=Zsj P hT hn ho h
def Zbd (l:List Int):List (List Cell):=l.map Zh4
@[simp] theorem intRows_len (l:List Int):(Zbd l).length=l.length:=by simp [Zbd]
@[simp] theorem intRows_get (l:List Int) (i:Nat):(Zbd l)[i]?=(l[i]?).map Zh4:=by simp [Zbd]
@[simp] theorem cut_i (n:Int):cut (Zh4 n) 0 1=some [.int .i64 n]:=rfl
abbrev Zbi (L:List Int)(I:Nat):Obj:=.box [.c (.sl (Zbd L)),.c (.int .i64 I)]
abbrev ZaS (ds:List DataD):V:=.sc (.c (.sl (Zax ds)))
abbrev tyV (t:Ty):V:=.ag (wc t.row)
theorem mod10 (a m:Int)(hm:0<m)(hb:m≤1073741824):∃ k:Nat,(k:Int)<m∧(K A).call 27 [intV a,intV m] []=some (intV k,[]):=by
 have h1:¬m<1:=by omega
 have h0:m≠0:=by omega
 have hlt:a.tmod m<m:=Int.tmod_lt_of_pos a (by omega)
 have hgt:-m<a.tmod m:=Int.lt_tmod_of_pos a (by omega)
 by_cases hneg:a.tmod m<0
 ·refine ⟨(a.tmod m+m).toNat,by omega,?_⟩
  have hw:((a.tmod m+m).toNat:Int)=a.tmod m+m:=by omega
  rw [hw]
  refine Zas (vf:=v27) (by kernel_rfl) rfl (by simp) ?_
  unfold v27
  simp (disch:=first|omega|(simp;done)|(simp;omega)) [h1,h0,hneg]
 ·refine ⟨(a.tmod m).toNat,by omega,?_⟩
  have hw:((a.tmod m).toNat:Int)=a.tmod m:=by omega
  rw [hw]
  refine Zas (vf:=v27) (by kernel_rfl) rfl (by simp) ?_
  unfold v27
  simp (disch:=first|omega|(simp;done)|(simp;omega)) [h1,h0,hneg]
theorem ZeA (L:List Int)(I:Nat)(n:Int)(hI:I≤L.length)(hL:L.length≤1073741824)(hn:0<n)(hb:n≤1073741824) :
 ∃ k J:Nat,(k:Int)<n∧J≤L.length∧(K A).call 53 [.sc (.ptr 0 0),intV n] [Zbi L I]=some (intV k,[Zbi L J]):=by
 by_cases h:I<L.length
 ·obtain ⟨a,ha⟩:=Zaa h
  obtain ⟨k,hk,hc⟩:=mod10 (A:=A) a n hn hb
  refine ⟨k,I+1,hk,h,?_⟩
  refine Zas (vf:=v53) (by kernel_rfl) rfl (by simp) ?_
  have h1:¬L.length≤I:=by omega
  unfold v53
  simp (disch:=first|omega|(simp;done)|(simp;omega)) [h1,ha,hc,-getElem?_pos]
 ·refine ⟨0,I,hn,hI,?_⟩
  refine Zas (vf:=v53) (by kernel_rfl) rfl (by simp) ?_
  have h1:L.length≤I:=by omega
  unfold v53
  simp (disch:=first|omega|(simp;done)|(simp;omega)) [h1,-getElem?_pos]
def Za8:List Str:=[[120],[121],[122],[102],[103],[118,49],[118,50],[105,100]]
theorem ZcI (L:List Int)(I:Nat)(hI:I≤L.length)(hL:L.length≤1073741824) :
 ∃ s J,s∈Za8∧J≤L.length∧(K A).call 34 [.sc (.ptr 0 0)] [Zbi L I]=some (strV s,[Zbi L J]):=by
 obtain ⟨k,J,hk,hJ,hc⟩:=ZeA (A:=A) L I 8 hI hL (by omega) (by omega)
 obtain ⟨s,hs⟩:=Zaa (l:=Za8) (i:=k) (by simp only [Za8,List.length_cons,List.length_nil];omega)
 refine ⟨s,J,List.mem_of_getElem? hs,hJ,?_⟩
 refine Zas (vf:=v34) (by kernel_rfl) rfl (by simp) ?_
 have hr:(wr (Zaf Za8))[k]?=some [.c (.str s)]:=by simp [hs]
 have hw:wr (Zaf Za8)=[[.c (.str [120])],[.c (.str [121])],[.c (.str [122])],[.c (.str [102])],[.c (.str [103])],[.c (.str [118,49])],[.c (.str [118,50])],[.c (.str [105,100])]]:=rfl
 rw [hw] at hr
 unfold v34
 simp (disch:=first|omega|(simp;done)|(simp;omega)) [hc,hr,-getElem?_pos]
theorem Zts (s:Str)(l:List Ty)(hl:l.length≤1073741824):(K A).call 100 [strV s,.sc (.c (.sl (Ty.rows l)))] []=some (tyV (.mk 4 s 0 0 l),[]):=by
 refine Zas (vf:=v100) (by kernel_rfl) rfl (by simp) ?_
 unfold v100
 cases l with
 | nil =>
  have hn:Ty.rows []=[]:=by rw [Ty.rows]
  simp (disch:=first|omega|(simp;done)|(simp;omega)) [hn,Ty.row]
 | cons t l =>
  have hn:Ty.rows (t::l)=t.row::Ty.rows l:=by rw [Ty.rows]
  have hok:=okRows_ty (t::l)
  rw [hn,wr_cons] at hok
  simp only [List.length_cons] at hl
  simp (disch:=first|omega|(simp;done)|(simp;omega)) [hn,hok,Ty.row]
theorem int29:(K A).call 47 [] []=some (tyV (.mk 4 [73,110,116] 0 0 []),[]):=by
 refine Zas (vf:=v47) (by kernel_rfl) rfl (by simp) ?_
 have hn:Ty.rows []=[]:=by rw [Ty.rows]
 have h:=Zts (A:=A) [73,110,116] [] (by simp)
 simp [hn] at h
 unfold v47
 simp (disch:=first|omega|(simp;done)|(simp;omega)) [h]
theorem ZsO (a b:Ty):(K A).call 128 [tyV a,tyV b] []=some (tyV (.mk 4 [45,62] 0 0 [a,b]),[]):=by
 refine Zas (vf:=v128) (by kernel_rfl) rfl (by simp) ?_
 have hn:Ty.rows [a,b]=[a.row,b.row]:=by simp [Ty.rows]
 have h:=Zts (A:=A) [45,62] [a,b] (by simp)
 rw [hn] at h
 unfold v128
 simp (disch:=first|omega|(simp;done)|(simp;omega)) [h]
def ZkG (d:DataD):Prop:=d.params.length≤4∧1≤d.cons.length∧d.cons.length≤6∧∀ c∈d.cons,c.fields.length≤4
def ZhC (ds:List DataD):Prop:=ds.length≤100∧∀ d∈ds,ZkG d
def TypeP (L:List Int)(r:V × List Obj):Prop:=∃ t J,J≤L.length∧r=(tyV t,[Zbi L J])
def TypeI (L:List Int)(ds:List DataD)(dd:DataD)(d i:Nat)(s:St):Prop:=∃ tys J,tys.length=i∧J≤L.length ∧
 s=⟨[(0,.sc (.ptr 0 0)),(1,ZaS ds),(2,.sc (.c (.sl []))),(3,intV (d+1)),(8,.sc (.ptr 64 0)),(10,.sc (.ptr 3392 0)),(11,.sc (.arr 3521 i)),(12,intV i)],
  [(0,some (Zbi L J)),(64,some (.box [zi,zs,zi,zi,.nil])),(3392,some (.box (wc (ZaJ dd)))),(3521,some (.arr 5 (wr (Ty.rows tys)) 0))]⟩
variable {A:Zac}
def tz:Ty:=.mk 0 [] 0 0 []
@[simp] theorem strRows0:Zaf []=[]:=rfl
@[simp] theorem rows0:Exp.rows []=[]:=by rw [Exp.rows]
@[simp] theorem rows1 (x:Exp):Exp.rows [x]=[x.row]:=by rw [Exp.rows,Exp.rows]
@[simp] theorem rows2 (x y:Exp):Exp.rows [x,y]=[x.row,y.row]:=by rw [Exp.rows,Exp.rows,Exp.rows]
@[simp] theorem armRows0:Exp.armRows []=[]:=by rw [Exp.armRows]
@[simp] theorem tyRows0:Ty.rows []=[]:=by rw [Ty.rows]
def RawP (L:List Int)(B:Nat)(r:V × List Obj):Prop:=∃ e J,e.wf∧e.weight≤B∧J≤L.length∧r=(expV e,[Zbi L J])
theorem ZbK (k p n m ks l t):(Exp.mk k p n m ks l t).weight=1+(l.map fun a=>a.1.vars.length).sum+((ks.map Exp.weight).sum+(l.map fun a=>a.2.weight).sum):=by
 rw [Exp.weight_eq]
 simp [Exp.children,Exp.arms,Exp.kids,List.map_map,Function.comp_def]
def ArmI (L:List Int)(ds:List DataD)(dd:DataD)(x:Exp)(B d i:Nat)(s:St):Prop:=∃ arms J,arms.length=i∧J≤L.length∧(∀ a∈arms,a.2.wf∧a.2.weight≤B∧a.1.vars.length≤4) ∧
 s=⟨[(0,.sc (.ptr 0 0)),(1,ZaS ds),(2,intV (d+1)),(6,.sc (.ptr 64 0)),(13,.sc (.ptr 10176 0)),(14,.sc (.ptr 10752 0)),(15,intV i)],
  [(0,some (Zbi L J)),(64,some (.box [zi,zi,zs,zi,.nil,.nil,zi,zs,zi,zi,.nil])),(10176,some (.box (wc (ZaJ dd)))),(10624,some (.arr 11 [wc x.row] 0)),
    (10752,some (.box [.c (.int .i64 8),zi,zs,zi,.arr 10624 1,.arr 10822 i,zi,zs,zi,zi,.nil])),(10822,some (.arr 14 (wr (Exp.armRows arms)) 0))]⟩
def VarI (L:List Int)(ds:List DataD)(dd:DataD)(x:Exp)(arms:List (ArmH × Exp))(con:Str)(d i j:Nat)(s:St):Prop:=∃ vars J,vars.length=j∧J≤L.length ∧
 s=⟨[(0,.sc (.ptr 0 0)),(1,ZaS ds),(2,intV (d+1)),(6,.sc (.ptr 64 0)),(13,.sc (.ptr 10176 0)),(14,.sc (.ptr 10752 0)),(15,intV i),(16,.sc (.ptr 11712 0)),(17,intV j)],
  [(0,some (Zbi L J)),(64,some (.box [zi,zi,zs,zi,.nil,.nil,zi,zs,zi,zi,.nil])),(10176,some (.box (wc (ZaJ dd)))),(10624,some (.arr 11 [wc x.row] 0)),
    (10752,some (.box [.c (.int .i64 8),zi,zs,zi,.arr 10624 1,.arr 10822 i,zi,zs,zi,zi,.nil])),(10822,some (.arr 14 (wr (Exp.armRows arms)) 0)),
    (11712,some (.box [zi,.c (.str con),.arr 11779 j,zi,zi,zs,zi,.nil,.nil,zi,zs,zi,zi,.nil])),(11779,some (.arr 1 (wr (Zaf vars)) 0))]⟩
theorem ZoE {C:Ctx}{a b c:VCode}{Q:Ex→St→Prop}{s:St}(s1:St)(h1:wp C a (fun e s=>e=.normal∧s=s1) s)(h2:wp C (.seq b c) Q s1):wp C (.seq (.seq a b) c) Q s:=by
 rw [wp_seq,wp_seq]
 refine wp_mono h1 ?_
 rintro e s' ⟨rfl,rfl⟩
 simp only [Zgd]
 rw [wp_seq] at h2
 exact h2
variable {A:Zac}
def Znk (ds7:List DataD)(r:V × List Obj):Prop:=∃ ds,(∀ d∈ds,d∈ds7)∧ZhC ds∧r=(ZaS ds,[])
def ZqY (bits:Int)(ds7:List DataD)(i:Nat)(s:St):Prop:=∃ ds:List DataD,ds.length≤i+1∧(∀ d∈ds,d∈ds7∧ZkG d) ∧
 s=⟨[(0,intV bits),(3,ZaS ds7),(4,.sc (.arr 257 ds.length)),(5,intV i)],[(257,some (.arr 4 (wr (Zax ds)) 0))]⟩
@[simp] theorem dataRows0:Zax []=[]:=rfl
@[simp] theorem dataRows1 (d:DataD):wr (Zax [d])=[wc (ZaJ d)]:=rfl
theorem Zox (bits:Int)(ds7:List DataD)(h7:ds7.length=7)(hg:∀ d∈ds7,ZkG d)(h55:(K A).call 71 [] []=some (ZaS ds7,[])) :
 ∃ r,Znk ds7 r∧(K A).call 23 [intV bits] []=some r:=by
 refine ZcD _ (vf:=v23) (by kernel_rfl) rfl (by simp) ?_
 obtain ⟨d1,hd1⟩:=Zaa (l:=ds7) (i:=1) (by omega)
 have hgd1:=hg d1 (List.mem_of_getElem? hd1)
 have fin:∀ s,ZqY bits ds7 0 s→wp (K A) (.loop ZqN) (ZcY 0 (Zgd (K A) (.seq (.region [] [o 44 (.mv (tv 4)),o 2 (.mv (tv 44))] [] [2]) .ret) (ZfW false 0 [.tmp 2] (Znk ds7)))) s:=by
  intro s hs
  refine Zal (ZqY bits ds7) 7 hs ?_ ?_
  ·rintro i s hi ⟨ds,hds1,hds2,rfl⟩
   obtain ⟨d,hd⟩:=Zaa (l:=ds7) (i:=i) (by omega)
   have hgd:=hg d (List.mem_of_getElem? hd)
   have hi2:(i:Int)<7:=by omega
   unfold ZqN
   by_cases hi1:i=1
   ·subst hi1
    simp (disch:=first|omega|(simp;done)|(simp;omega)) [h7,hd,-getElem?_pos]
    exact ⟨ds,by omega,hds2,by simp⟩
   ·have hi1':¬(i:Int)=1:=by omega
    by_cases hb:andI .i64 (shrI .i64 bits i) 1=1
    ·simp (disch:=first|omega|(simp;done)|(simp;omega)) [h7,hd,hi2,hi1',hb,-getElem?_pos]
     refine ⟨ds++[d],by simp;omega,?_,by simp⟩
     intro x hx
     rcases List.mem_append.1 hx with hx|hx
     ·exact hds2 x hx
     ·simp only [List.mem_singleton] at hx
      exact hx▸⟨List.mem_of_getElem? hd,hgd⟩
    ·simp (disch:=first|omega|(simp;done)|(simp;omega)) [h7,hd,hi2,hi1',hb,-getElem?_pos]
     exact ⟨ds,by omega,hds2,by simp⟩
  ·rintro s ⟨ds,hds1,hds2,rfl⟩
   unfold ZqN
   simp (disch:=first|omega|(simp;done)|(simp;omega)) [h7,-getElem?_pos]
   exact ⟨ds,fun d hd=>(hds2 d hd).1,⟨by omega,fun d hd=>(hds2 d hd).2⟩,rfl⟩
 unfold v23
 by_cases h1:andI .i64 bits 2=0
 ·by_cases h2:andI .i64 bits 64=0
  ·simp (disch:=first|omega|(simp;done)|(simp;omega)) [h55,h1,h2,-getElem?_pos]
   exact fin _ ⟨[],by simp,by simp,by simp⟩
  ·simp (disch:=first|omega|(simp;done)|(simp;omega)) [h55,h1,h2,h7,hd1,-getElem?_pos]
   exact fin _ ⟨[d1],by simp,by simp [hgd1,List.mem_of_getElem? hd1],by simp⟩
 ·simp (disch:=first|omega|(simp;done)|(simp;omega)) [h55,h1,h7,hd1,-getElem?_pos]
  exact fin _ ⟨[d1],by simp,by simp [hgd1,List.mem_of_getElem? hd1],by simp⟩
def MadeP (L:List Int)(r:V × List Obj):Prop:=∃ a b J,a.wf∧a.weight≤32 ^ 4∧b.wf∧b.weight≤32 ^ 3∧J≤L.length∧r=(.tu [expV a,expV b,.sc (.ptr 0 0)],[Zbi L J])
def BoolP (r:V × List Obj):Prop:=∃ b,r=(Zah b,[])
def numS (n:Nat):Str:=if h:n<10 then [UInt8.ofNat (48+n)] else numS (n / 10)++[UInt8.ofNat (48+n % 10)]
termination_by n
decreasing_by omega
theorem Zcv {n:Nat}(h:n<10):numS n=[UInt8.ofNat (48+n)]:=by rw [numS,dif_pos h]
theorem Zc9 {n:Nat}(h:¬n<10):numS n=numS (n / 10)++[UInt8.ofNat (48+n % 10)]:=by rw [numS,dif_neg h]
theorem Zgq (n:Nat):1≤(numS n).length:=by
 by_cases h:n<10
 ·simp [Zcv h]
 ·simp [Zc9 h]
theorem Zpo {a b:Nat}(ha:a<10)(hb:b<10)(h:UInt8.ofNat (48+a)=UInt8.ofNat (48+b)):a=b:=by
 have:=congrArg UInt8.toNat h
 simp [UInt8.toNat_ofNat'] at this
 omega
theorem Zp6:∀ (n m:Nat),numS n=numS m→n=m:=by
 intro n
 induction n using Nat.strongRecOn with
 | ind n ih =>
  intro m h
  by_cases hn:n<10
  ·by_cases hm:m<10
   ·rw [Zcv hn,Zcv hm] at h
    exact Zpo hn hm (by simpa using h)
   ·have:=congrArg List.length h
    rw [Zcv hn,Zc9 hm] at this
    have h2:=Zgq (m / 10)
    simp only [List.length_singleton,List.length_append] at this
    omega
  ·by_cases hm:m<10
   ·have:=congrArg List.length h
    rw [Zcv hm,Zc9 hn] at this
    have h2:=Zgq (n / 10)
    simp only [List.length_singleton,List.length_append] at this
    omega
   ·rw [Zc9 hn,Zc9 hm] at h
    obtain ⟨h1,h2⟩:=List.append_inj' h (by simp)
    have h3:=ih (n / 10) (by omega) _ h1
    have h4:=Zpo (Nat.mod_lt _ (by omega)) (Nat.mod_lt _ (by omega)) (by simpa using h2)
    omega
theorem Zei (n:Nat):∀ k,n<10 ^ k→1≤k→(numS n).length≤k:=by
 induction n using Nat.strongRecOn with
 | ind n ih =>
  intro k hk h1
  by_cases hn:n<10
  ·simp [Zcv hn];exact h1
  ·obtain ⟨k,rfl⟩:∃ j,k=j+1:=⟨k-1,by omega⟩
   have hk1:1≤k:=by
    rcases Nat.eq_zero_or_pos k with rfl|h
    ·simp at hk;omega
    ·exact h
   have:=ih (n / 10) (by omega) k (by rw [Nat.pow_succ] at hk;omega) hk1
   simp [Zc9 hn]
   omega
def ZbY (k:Nat):Str:=118::numS k
theorem ZjW {a b:Nat}(h:ZbY a=ZbY b):a=b:=Zp6 a b (by simpa [ZbY] using h)
noncomputable def ZcC (l:List Str)(k:Nat):Nat:=match l with
 | []=>0
 | s::r=>(open Classical in if ∃ j,k≤j∧s=ZbY j then 1 else 0)+ZcC r k
theorem Zd3 (l:List Str)(k:Nat):ZcC l k≤l.length:=by
 induction l with
 | nil=>simp [ZcC]
 | cons s r ih=>simp only [ZcC,List.length_cons];split<;>omega
theorem Zcg (l:List Str)(k:Nat):ZcC l (k+1)≤ZcC l k:=by
 induction l with
 | nil=>simp [ZcC]
 | cons s r ih =>
  simp only [ZcC]
  split
  ·rename_i h
   obtain ⟨j,h1,h2⟩:=h
   rw [if_pos ⟨j,by omega,h2⟩]
   omega
  ·split<;>omega
theorem ZdR {l:List Str}{k:Nat}(h:ZbY k∈l):ZcC l (k+1)<ZcC l k:=by
 induction l with
 | nil=>simp at h
 | cons s r ih =>
  have hm:=Zcg r k
  simp only [ZcC]
  rcases List.mem_cons.1 h with rfl|h
  ·rw [if_neg,if_pos ⟨k,Nat.le_refl _,rfl⟩]
   ·omega
   ·rintro ⟨j,h1,h2⟩
    have:=ZjW h2
    omega
  ·have:=ih h
   split
   ·rename_i h3
    obtain ⟨j,h1,h2⟩:=h3
    rw [if_pos ⟨j,by omega,h2⟩]
    omega
   ·split<;>omega
def ZbE (taken:List Str):Nat→Nat→Nat→Nat
 | 0,k,_=>k
 | f+1,k,n=>if ZbY k∈taken then ZbE taken f (k+1) n else if n=0 then k else ZbE taken f (k+1) (n-1)
theorem Zcp (taken:List Str):∀ f k n,k≤ZbE taken f k n
 | 0,k,n=>Nat.le_refl _
 | f+1,k,n=>by
  simp only [ZbE]
  split
  ·exact Nat.le_trans (by omega) (Zcp taken f (k+1) n)
  ·split
   ·exact Nat.le_refl _
   ·exact Nat.le_trans (by omega) (Zcp taken f (k+1) (n-1))
theorem ZgY (taken:List Str):∀ f k n,ZbE taken f k n≤k+f
 | 0,k,n=>by simp [ZbE]
 | f+1,k,n=>by
  simp only [ZbE]
  have h1:=ZgY taken f (k+1) n
  have h2:=ZgY taken f (k+1) (n-1)
  split
  ·omega
  ·split<;>omega
theorem ZfX (taken:List Str):∀ f k n,n+ZcC taken k<f→ZbY (ZbE taken f k n)∉taken
 | 0,k,n,h=>by omega
 | f+1,k,n,h=>by
  simp only [ZbE]
  split
  ·rename_i hm
   exact ZfX taken f (k+1) n (by have:=ZdR hm;omega)
  ·rename_i hm
   split
   ·exact hm
   ·exact ZfX taken f (k+1) (n-1) (by have:=Zcg taken k;omega)
theorem Zhg (taken:List Str):∀ f k n m,m+ZcC taken k<f→n<m→ZbE taken f k n<ZbE taken f k m
 | 0,k,n,m,h,_=>by omega
 | f+1,k,n,m,h,hnm=>by
  simp only [ZbE]
  split
  ·rename_i hm
   exact Zhg taken f (k+1) n m (by have:=ZdR hm;omega) hnm
  ·rename_i hm
   have hm0:m≠0:=by omega
   rw [if_neg hm0]
   have hc:=Zcg taken k
   split
   ·exact Nat.lt_of_lt_of_le (by omega) (Zcp taken f (k+1) (m-1))
   ·exact Zhg taken f (k+1) (n-1) (m-1) (by omega) (by omega)
theorem ZeL (taken:List Str):∀ f k n f',n+ZcC taken k<f→f≤f'→ZbE taken f' k n=ZbE taken f k n
 | 0,k,n,f',h,_=>by omega
 | f+1,k,n,f',h,hf=>by
  obtain ⟨f',rfl⟩:∃ j,f'=j+1:=⟨f'-1,by omega⟩
  simp only [ZbE]
  split
  ·rename_i hm
   exact ZeL taken f (k+1) n f' (by have:=ZdR hm;omega) (by omega)
  ·split
   ·rfl
   ·exact ZeL taken f (k+1) (n-1) f' (by have:=Zcg taken k;omega) (by omega)
def ZaU (n:Nat)(taken:List Str):Nat:=ZbE taken (n+taken.length+1) 1 n
def ZaX (n:Nat)(taken:List Str):Str:=ZbY (ZaU n taken)
theorem ZgD (n:Nat)(taken:List Str):ZaU n taken≤n+taken.length+2:=by
 have:=ZgY taken (n+taken.length+1) 1 n
 unfold ZaU
 omega
theorem Zdl (n:Nat)(taken:List Str):ZaX n taken∉taken:=ZfX taken _ _ _ (by have:=Zd3 taken 1;omega)
theorem ZjL {n m:Nat}(taken:List Str)(h:n<m):ZaU n taken<ZaU m taken:=by
 unfold ZaU
 rw [←ZeL taken (n+taken.length+1) 1 n (m+taken.length+1) (by have:=Zd3 taken 1;omega) (by omega)]
 exact Zhg taken _ _ _ _ (by have:=Zd3 taken 1;omega) h
theorem ZhW {n m:Nat}{taken:List Str}(h:ZaX n taken=ZaX m taken):n=m:=by
 have h1:=ZjW h
 rcases Nat.lt_trichotomy n m with h2|h2|h2
 ·have:=ZjL taken h2;omega
 ·exact h2
 ·have:=ZjL taken h2;omega
end Go.Vs.Tryz
