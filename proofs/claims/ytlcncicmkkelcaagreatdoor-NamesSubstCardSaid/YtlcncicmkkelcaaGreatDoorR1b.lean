/- The free variables by the program, walked. (Parts of one proof, put together.) -/
import Derived.Test.YtlcncicmkkelcaaGreatDoorR0b
import Derived.Test.YtlcncicmkkelcaaGreatDoorM6b
set_option linter.unusedSimpArgs false
set_option linter.unusedVariables false
set_option linter.deprecated false
set_option maxHeartbeats 2000000
namespace Go.Vs.Tryz
open Go Go.Vs
variable {A:Zac}
def ZaZ (hidden out:List Str)(s:Str):List Str:=if s∈hidden∨s∈out then out else out++[s]
def Zfm (e:Exp)(out:List Str)(p:List Str × Nat):List Str:=p.1.foldl (ZaZ (e.bound p.2)) out
def Zaf (e:Exp):List Str:=e.fold fun e l=>if e.kind=1 then [e.name] else l.zipIdx.foldl (Zfm e) []
theorem Zb4 (e:Exp):Zaf e=if e.kind=1 then [e.name] else (e.children.map Zaf).zipIdx.foldl (Zfm e) []:=Exp.fold_eq _ e
theorem Zms (h out:List Str)(s:Str):(ZaZ h out s).length≤out.length+1:=by
 unfold ZaZ
 split<;>simp
theorem Zes (h:List Str):∀ (l out:List Str),(l.foldl (ZaZ h) out).length≤out.length+l.length
 | [],out=>by simp
 | s::l,out=>by
  have h1:=Zms h out s
  have h2:=Zes h l (ZaZ h out s)
  simp only [List.foldl_cons,List.length_cons]
  omega
theorem ZeB (e:Exp):∀ (l:List (List Str × Nat))(out:List Str),(l.foldl (Zfm e) out).length≤out.length+(l.map fun p=>p.1.length).sum
 | [],out=>by simp
 | p::l,out=>by
  have h1:(Zfm e out p).length≤out.length+p.1.length:=Zes _ _ _
  have h2:=ZeB e l (Zfm e out p)
  simp only [List.foldl_cons,List.map_cons,List.sum_cons]
  omega
theorem ZiJ {l:List Nat}{i:Nat}:(l.take i).sum≤l.sum:=by
 have:l.sum=(l.take i).sum+(l.drop i).sum:=by rw [←List.sum_append,List.take_append_drop]
 omega
theorem ZhU (l:List (List Str)):(l.zipIdx.map fun p=>p.1.length)=l.map List.length:=by
 rw [show (fun p:List Str × Nat=>p.1.length)=List.length ∘ Prod.fst from rfl,←List.map_map,List.zipIdx_map_fst]
theorem Zjv {α:Type}{f g:α→Nat}:∀ {l:List α},(∀ x∈l,f x≤g x)→(l.map f).sum≤(l.map g).sum
 | [],_=>by simp
 | a::l,h=>by
  have h1:=h a (by simp)
  have h2:=Zjv (l:=l) fun x hx=>h x (by simp [hx])
  simp only [List.map_cons,List.sum_cons]
  omega
theorem ZbY (e:Exp):(Zaf e).length≤e.weight:=by
 induction e using Exp.ind with
 | h e ih =>
  rw [Zb4]
  split
  ·exact e.weight_pos
  ·have h1:=ZeB e (e.children.map Zaf).zipIdx []
   rw [ZhU,List.map_map] at h1
   have h2:(e.children.map (List.length ∘ Zaf)).sum≤(e.children.map Exp.weight).sum:=Zjv ih
   rw [e.weight_eq]
   simp only [List.length_nil] at h1
   omega
def outP (e:Exp)(i:Nat):List Str:=((e.children.map Zaf).zipIdx.take i).foldl (Zfm e) []
theorem Zpw (e:Exp)(i:Nat):(outP e i).length≤e.weight:=by
 have h1:=ZeB e ((e.children.map Zaf).zipIdx.take i) []
 have h2:(((e.children.map Zaf).zipIdx.take i).map fun p=>p.1.length).sum≤(e.children.map Exp.weight).sum:=by
  rw [List.map_take,ZhU,List.map_map]
  exact Nat.le_trans ZiJ (Zjv fun x _=>ZbY x)
 unfold outP
 rw [e.weight_eq]
 simp only [List.length_nil] at h1
 omega
theorem ZgM {e x:Exp}{i:Nat}(hx:e.children[i]?=some x):outP e (i+1)=(Zaf x).foldl (ZaZ (e.bound i)) (outP e i):=by
 have h:(e.children.map Zaf).zipIdx[i]?=some (Zaf x,i):=by simp [List.getElem?_zipIdx,hx]
 unfold outP
 rw [Zat h,List.foldl_append]
 rfl
theorem ZiQ (e:Exp):outP e e.children.length=(e.children.map Zaf).zipIdx.foldl (Zfm e) []:=by
 unfold outP
 rw [List.take_of_length_le (by simp)]
theorem Zrc (e:Exp)(hw:e.wf)(hl:e.weight≤1073741824):(K A).call 30 [expV e] []=some (Za3 (Zaf e),[]):=by
 induction e using Exp.ind with
 | h e ih =>
 refine Zan (vf:=v30) (by kernel_rfl) rfl (by decide) ?_
 have hle:=e.children_le
 rw [e.children_len] at hle
 have h1:∀ s:Str,Zag [s]=[[.str s]]:=fun _=>rfl
 have hn:Zag []=[]:=rfl
 by_cases hk:e.kind=1
 ·unfold v30
  simp [hk,Zb4,h1]
 ·by_cases hkids:e.kids=[]
  ·have harms:e.arms=[]:=by
    by_cases h8:e.kind=8
    ·have:=hw.one.1 h8
     rw [hkids] at this
     simp at this
    ·exact hw.one.2.1 h8
   have hc:=ZbU (A:=A) e hkids harms
   have hch:e.children=[]:=by simp [Exp.children,hkids,harms]
   unfold v30
   simp (disch:=first|omega|(simp;done)|(simp;omega)) [hk,hc]
   refine Zaz (fun i=>⟨[(1,.sc (.ptr 64 0)),(3,.sc (.arr 641 0)),(16,.sc (.full [])),(17,intV 0),(18,intV i)],[(64,some (.box (wc e.row))),(641,some (.arr 1 [] 0))]⟩) 0 ?_ ?_ ?_
   ·simp
   ·intro i hi;omega
   ·unfold Zqt
    simp [Zb4,hk,hch,hn]
  ·have hc:=ZbR (A:=A) e hkids hl
   unfold v30
   simp (disch:=first|omega|(simp;done)|(simp;omega)) [hk,hc]
   refine Zaz (fun i=>⟨[(1,.sc (.ptr 64 0)),(3,.sc (.arr 641 (outP e i).length)),(16,.sc (.arr 800 e.children.length)),(17,intV e.children.length),(18,intV i)],[(64,some (.box (wc e.row))),(641,some (.arr 1 (wr (Zag (outP e i))) 0)),(800,some (.arr 11 (wr (Exp.rows e.children)) 0))]⟩) e.children.length ?_ ?_ ?_
   ·simp [outP,hn]
   ·intro i hi
    obtain ⟨x,hx⟩:=Zaa hi
    have hmem:x∈e.children:=List.mem_of_getElem? hx
    have h19:=ih x hmem (hw.child hmem) (by have:=Exp.child_lt hmem;omega)
    have h52:=Zgf (A:=A) e i hw.one hi hl
    have hfl:=ZbY x
    have hol:=Zpw e i
    have hbl:=e.bound_le i
    have hxl:=Exp.child_lt hmem
    rw [e.children_len] at hi
    have hi':(i:Int)<(e.kids.length:Int)+e.arms.length:=by omega
    unfold Zqt
    simp (disch:=first|omega|(simp;done)|(simp;omega)) [hi',hx,h52,h19,-getElem?_pos]
    refine Zaz (fun j=>⟨[(1,.sc (.ptr 64 0)),(3,.sc (.arr 641 (((Zaf x).take j).foldl (ZaZ (e.bound i)) (outP e i)).length)),(16,.sc (.arr 800 e.children.length)),(17,intV e.children.length),(18,intV i),(6,Za3 (e.bound i)),(27,Za3 (Zaf x)),(28,intV (Zaf x).length),(29,intV j)],
     [(64,some (.box (wc e.row))),(641,some (.arr 1 (wr (Zag (((Zaf x).take j).foldl (ZaZ (e.bound i)) (outP e i)))) 0)),(800,some (.arr 11 (wr (Exp.rows e.children)) 0)),(1216,some (.box (wc x.row)))]⟩) (Zaf x).length ?_ ?_ ?_
    ·simp
    ·intro j hj
     obtain ⟨s,hs⟩:=Zaa hj
     rw [Zat hs,List.foldl_append,List.foldl_cons,List.foldl_nil]
     have hjl:=Zes (e.bound i) ((Zaf x).take j) (outP e i)
     have hjl2:((Zaf x).take j).length≤(Zaf x).length:=by simp;omega
     generalize ((Zaf x).take j).foldl (ZaZ (e.bound i)) (outP e i)=out at hjl ⊢
     have hc1:=Zby (A:=A) (e.bound i) s (by omega)
     have hc2:=Zby (A:=A) out s (by omega)
     unfold Ztp
     by_cases hb:s∈e.bound i
     ·simp (disch:=first|omega|(simp;done)|(simp;omega)) [hj,hs,hc1,hb,ZaZ,-getElem?_pos]
     ·by_cases ho:s∈out
      ·simp (disch:=first|omega|(simp;done)|(simp;omega)) [hj,hs,hc1,hc2,hb,ho,ZaZ,-getElem?_pos]
      ·simp (disch:=first|omega|(simp;done)|(simp;omega)) [hj,hs,hc1,hc2,hb,ho,ZaZ,-getElem?_pos]
    ·unfold Ztp
     simp (disch:=first|omega|(simp;done)|(simp;omega)) [ZgM hx,-getElem?_pos]
   ·unfold Zqt
    have he:=ZiQ e
    rw [e.children_len] at he
    simp (disch:=first|omega|(simp;done)|(simp;omega)) [Zb4,hk,he]
variable {A:Zac}
def ZcJ (e:Exp)(bound out:List Str):List Str:=if e.kind=1∧e.name∉bound∧e.name∉out then out++[e.name] else out
def Zqu (e:Exp)(bound:List Str)(out:List Str)(p:(List Str→List Str→List Str) × Nat):List Str:=p.1 (bound++e.bound p.2) out
def Zdk (e:Exp):List Str→List Str→List Str:=e.fold fun e l bound out=>l.zipIdx.foldl (Zqu e bound) (ZcJ e bound out)
theorem Zl0 (e:Exp)(bound out:List Str):Zdk e bound out=(e.children.map Zdk).zipIdx.foldl (Zqu e bound) (ZcJ e bound out):=by
 unfold Zdk
 rw [Exp.fold_eq]
def outR (e:Exp)(bound out:List Str)(i:Nat):List Str:=((e.children.map Zdk).zipIdx.take i).foldl (Zqu e bound) (ZcJ e bound out)
theorem ZeW {e x:Exp}{bound out:List Str}{i:Nat}(hx:e.children[i]?=some x):outR e bound out (i+1)=Zdk x (bound++e.bound i) (outR e bound out i):=by
 have h:(e.children.map Zdk).zipIdx[i]?=some (Zdk x,i):=by simp [List.getElem?_zipIdx,hx]
 unfold outR
 rw [Zat h,List.foldl_append]
 rfl
theorem ZiA (e:Exp)(bound out:List Str):outR e bound out e.children.length=Zdk e bound out:=by
 rw [Zl0]
 unfold outR
 rw [List.take_of_length_le (by simp)]
theorem ZfG (e:Exp)(bound out:List Str):(ZcJ e bound out).length≤out.length+1:=by
 unfold ZcJ
 split<;>simp
theorem Zg5 {e:Exp}{i:Nat}:((e.children.take i).map Exp.weight).sum≤(e.children.map Exp.weight).sum:=by
 rw [List.map_take]
 exact ZiJ
theorem ZnF (e:Exp):∀ bound out:List Str,(Zdk e bound out).length≤out.length+e.weight:=by
 induction e using Exp.ind with
 | h e ih =>
  intro bound out
  have key:∀ i,i≤e.children.length→(outR e bound out i).length≤out.length+1+((e.children.take i).map Exp.weight).sum:=by
   intro i
   induction i with
   | zero =>
    intro _
    have:=ZfG e bound out
    simpa [outR] using this
   | succ i ihi =>
    intro hi
    obtain ⟨x,hx⟩:=Zaa (l:=e.children) (i:=i) (by omega)
    have h1:=ih x (List.mem_of_getElem? hx) (bound++e.bound i) (outR e bound out i)
    have h2:=ihi (by omega)
    rw [ZeW hx,Zat hx,List.map_append,List.sum_append]
    simp only [List.map_cons,List.map_nil,List.sum_cons,List.sum_nil]
    omega
  have h1:=key _ (Nat.le_refl _)
  rw [ZiA,List.take_length] at h1
  rw [e.weight_eq]
  omega
theorem ZqV (e:Exp):∀ bound out:List Str,out.length≤(Zdk e bound out).length:=by
 induction e using Exp.ind with
 | h e ih =>
  intro bound out
  have key:∀ i,i≤e.children.length→out.length≤(outR e bound out i).length:=by
   intro i
   induction i with
   | zero =>
    intro _
    simp only [outR,List.take_zero,List.foldl_nil,ZcJ]
    split<;>simp
   | succ i ihi =>
    intro hi
    obtain ⟨x,hx⟩:=Zaa (l:=e.children) (i:=i) (by omega)
    rw [ZeW hx]
    exact Nat.le_trans (ihi (by omega)) (ih x (List.mem_of_getElem? hx) _ _)
  have:=key _ (Nat.le_refl _)
  rwa [ZiA] at this
theorem ZqT {e:Exp}{bound out:List Str}:∀ i,i≤e.children.length→(outR e bound out i).length≤out.length+1+((e.children.take i).map Exp.weight).sum:=by
 intro i
 induction i with
 | zero =>
  intro _
  have:=ZfG e bound out
  simpa [outR] using this
 | succ i ihi =>
  intro hi
  obtain ⟨x,hx⟩:=Zaa (l:=e.children) (i:=i) (by omega)
  have h1:=ZnF x (bound++e.bound i) (outR e bound out i)
  have h2:=ihi (by omega)
  rw [ZeW hx,Zat hx,List.map_append,List.sum_append]
  simp only [List.map_cons,List.map_nil,List.sum_cons,List.sum_nil]
  omega
theorem ZmI {e x:Exp}{bound out:List Str}{i:Nat}(hx:e.children[i]?=some x):(outR e bound out i).length+x.weight≤out.length+e.weight:=by
 have hi:i<e.children.length:=(List.getElem?_eq_some_iff.1 hx).1
 have h1:=ZqT (e:=e) (bound:=bound) (out:=out) i (by omega)
 have h2:=Zg5 (e:=e) (i:=i+1)
 rw [Zat hx,List.map_append,List.sum_append] at h2
 simp only [List.map_cons,List.map_nil,List.sum_cons,List.sum_nil] at h2
 rw [e.weight_eq]
 omega
theorem Zkx {e x:Exp}{i:Nat}(hx:e.children[i]?=some x):(e.bound i).length+x.weight≤e.weight:=by
 have h1:=Zgr (f:=Exp.weight) (List.mem_of_getElem? hx)
 have h2:(e.bound i).length≤1+(e.arms.map fun a=>a.1.vars.length).sum:=by
  unfold Exp.bound
  split
  ·simp
  ·split
   ·cases h:e.arms[i-1]? with
    | none=>simp
    | some a =>
     have:=Zgr (f:=fun a:ArmH × Exp=>a.1.vars.length) (List.mem_of_getElem? h)
     simp only [Option.map_some,Option.getD_some]
     omega
   ·simp
 rw [e.weight_eq]
 omega
theorem free54 (e:Exp):∀ (bound out:List Str),e.wf→bound.length+e.weight≤1073741824→out.length+e.weight≤1073741824 →
 (K A).call 83 [.sc (.arr 0 out.length),Za3 bound,expV e] [.arr 1 (wr (Zag out)) 0]=some (.sc (.arr 0 (Zdk e bound out).length),[.arr 1 (wr (Zag (Zdk e bound out))) 0]):=by
 induction e using Exp.ind with
 | h e ih =>
 intro bound out hw hbl hol
 refine Zan (vf:=v83) (by kernel_rfl) rfl (by simp) ?_
 have hle:=e.children_le
 have hc:=ZcE (A:=A) e (by rw [e.children_len] at hle;omega)
 have hb1:=ZjV (A:=A) bound e.name (by omega)
 have hb2:=ZjV (A:=A) out e.name (by omega)
 have hsl:=ZfG e bound out
 have hwp:=e.weight_pos
 unfold v83
 refine Zex ⟨[(0,.sc (.arr 0 out.length)),(1,Za3 bound),(5,.sc (.ptr 64 0))],[(0,some (.arr 1 (wr (Zag out)) 0)),(64,some (.box (wc e.row)))]⟩ (by simp) ?_
 refine Zlq ⟨[(0,.sc (.arr 0 (ZcJ e bound out).length)),(1,Za3 bound),(5,.sc (.ptr 64 0)),(7,.sc (.arr 1760 e.children.length))],[(0,some (.arr 1 (wr (Zag (ZcJ e bound out))) 0)),(64,some (.box (wc e.row))),(1760,some (.arr 11 (wr (Exp.rows e.children)) 0))]⟩ ?_ ?_
 ·by_cases hk:e.kind=1
  ·by_cases h1:e.name∈bound
   ·simp (disch:=first|omega|(simp;done)|(simp;omega)) [hk,h1,hb1,ZcJ,hc]
   ·by_cases h2:e.name∈out
    ·simp (disch:=first|omega|(simp;done)|(simp;omega)) [hk,h1,h2,hb1,hb2,ZcJ,hc]
    ·simp (disch:=first|omega|(simp;done)|(simp;omega)) [hk,h1,h2,hb1,hb2,ZcJ,hc]
  ·simp (disch:=first|omega|(simp;done)|(simp;omega)) [hk,ZcJ,hc]
 ·simp (disch:=first|omega|(simp;done)|(simp;omega))
  refine Zaz (fun i=>⟨[(0,.sc (.arr 0 (outR e bound out i).length)),(1,Za3 bound),(5,.sc (.ptr 64 0)),(7,.sc (.arr 1760 e.children.length)),(8,intV i)],[(0,some (.arr 1 (wr (Zag (outR e bound out i))) 0)),(64,some (.box (wc e.row))),(1760,some (.arr 11 (wr (Exp.rows e.children)) 0))]⟩) e.children.length ?_ ?_ ?_
  ·simp [outR]
  ·intro i hi
   obtain ⟨x,hx⟩:=Zaa hi
   have hmem:x∈e.children:=List.mem_of_getElem? hx
   have ho:=ZmI (bound:=bound) (out:=out) hx
   have hb:=Zkx hx
   have hxp:=x.weight_pos
   have h54:=ih x hmem (bound++e.bound i) (outR e bound out i) (hw.child hmem) (by simp;omega) (by omega)
   have h91:=Zsz (A:=A) e i hw.one hi (by omega)
   rw [e.children_len] at hi hle
   have hi':(i:Int)<(e.kids.length:Int)+e.arms.length:=by omega
   have hlen:(outR e bound out i).length≤(Zdk x (bound++e.bound i) (outR e bound out i)).length:=ZqV x _ _
   unfold Zr2
   simp (disch:=first|omega|(simp;done)|(simp;omega)) [hi',hx,h54,h91,ZeW hx,hlen,-getElem?_pos]
  ·have he:=ZiA e bound out
   rw [e.children_len] at he
   unfold Zr2
   simp (disch:=first|omega|(simp;done)|(simp;omega)) [he]
theorem Zi3 (e:Exp)(hw:e.wf)(hl:e.weight≤1073741824):(K A).call 32 [expV e] []=some (.sc (.arr 0 (Zdk e [] []).length),[.arr 1 (wr (Zag (Zdk e [] []))) 0]):=by
 refine Zan (vf:=v32) (by kernel_rfl) rfl (by simp) ?_
 have h:=free54 (A:=A) e [] [] hw (by simpa using hl) (by simpa using hl)
 have hn:Zag []=[]:=rfl
 simp [Za3,hn] at h
 unfold v32
 simp [h,hn]
theorem Zl6 {b out:List Str}{s t:Str}:t∈ZaZ b out s↔t∈out∨(t=s∧s∉b):=by
 unfold ZaZ
 split
 ·rename_i h
  constructor
  ·exact .inl
  ·rintro (h1|⟨rfl,h1⟩)
   ·exact h1
   ·exact h.resolve_left h1
 ·rename_i h
  have:s∉b:=fun h1=>h (.inl h1)
  simp [this]
theorem Zds {b:List Str}:∀ {l out:List Str}{t:Str},t∈l.foldl (ZaZ b) out↔t∈out∨(t∈l∧t∉b)
 | [],out,t=>by simp
 | s::l,out,t=>by
  rw [List.foldl_cons,Zds,Zl6,List.mem_cons]
  constructor
  ·rintro ((h|⟨rfl,h⟩)|⟨h1,h2⟩)
   ·exact .inl h
   ·exact .inr ⟨.inl rfl,h⟩
   ·exact .inr ⟨.inr h1,h2⟩
  ·rintro (h|⟨rfl|h1,h2⟩)
   ·exact .inl (.inl h)
   ·exact .inl (.inr ⟨rfl,h2⟩)
   ·exact .inr ⟨h1,h2⟩
theorem ZbQ {b out:List Str}{s:Str}(h:s∈b∨s∈out):ZaZ b out s=out:=if_pos h
theorem Zd5 {b out:List Str}{s:Str}(h:¬(s∈b∨s∈out)):ZaZ b out s=out++[s]:=if_neg h
theorem Zjp {bound b:List Str}:∀ (l acc out:List Str),(l.foldl (ZaZ b) acc).foldl (ZaZ bound) out=l.foldl (ZaZ (bound++b)) (acc.foldl (ZaZ bound) out)
 | [],acc,out=>rfl
 | s::l,acc,out=>by
  rw [List.foldl_cons,List.foldl_cons,Zjp l]
  congr 1
  by_cases hb:s∈b
  ·rw [ZbQ (.inl hb),ZbQ (.inl (by simp [hb]))]
  ·by_cases ha:s∈acc
   ·rw [ZbQ (.inr ha)]
    by_cases h:s∈bound
    ·rw [ZbQ (.inl (by simp [h]))]
    ·rw [ZbQ (.inr (Zds.2 (.inr ⟨ha,h⟩)))]
   ·rw [Zd5 (b:=b) (fun h=>h.elim hb ha),List.foldl_append,List.foldl_cons,List.foldl_nil]
    by_cases h:s∈bound∨s∈acc.foldl (ZaZ bound) out
    ·rw [ZbQ h,ZbQ (h.imp (fun h=>by simp [h]) id)]
    ·rw [Zd5 h,Zd5]
     rintro (h3|h3)
     ·exact (List.mem_append.1 h3).elim (fun h4=>h (.inl h4)) hb
     ·exact h (.inr h3)
theorem Zmo (e:Exp):e.wf→∀ bound out:List Str,Zdk e bound out=(Zaf e).foldl (ZaZ bound) out:=by
 induction e using Exp.ind with
 | h e ih =>
  intro hw bound out
  rw [Zl0,Zb4]
  by_cases hk:e.kind=1
  ·have hch:e.children=[]:=by
    have h1:=hw.one.2.2 hk
    have h2:=hw.one.2.1 (by rw [hk];decide)
    simp [Exp.children,h1,h2]
   rw [if_pos hk,hch]
   simp only [List.map_nil,List.zipIdx_nil,List.foldl_nil,List.foldl_cons,ZcJ,hk,true_and]
   by_cases h:e.name∈bound∨e.name∈out
   ·rw [ZbQ h,if_neg (fun h1=>h.elim h1.1 h1.2)]
   ·rw [Zd5 h,if_pos ⟨fun h1=>h (.inl h1),fun h1=>h (.inr h1)⟩]
  ·rw [if_neg hk]
   have hs:ZcJ e bound out=out:=by
    unfold ZcJ
    rw [if_neg (fun h=>hk h.1)]
   rw [hs]
   have key:∀ (l:List Exp) (i:Nat) (acc:List Str),(∀ x∈l,x∈e.children)→((l.map Zdk).zipIdx i).foldl (Zqu e bound) (acc.foldl (ZaZ bound) out)=(((l.map Zaf).zipIdx i).foldl (Zfm e) acc).foldl (ZaZ bound) out:=by
    intro l
    induction l with
    | nil=>intro i acc _;rfl
    | cons x l ihl =>
     intro i acc hmem
     rw [List.map_cons,List.map_cons,List.zipIdx_cons,List.zipIdx_cons,List.foldl_cons,List.foldl_cons,←ihl (i+1) _ fun y hy=>hmem y (List.mem_cons_of_mem _ hy)]
     congr 1
     have hx:=hmem x (by simp)
     show Zdk x (bound++e.bound i) _=((Zaf x).foldl (ZaZ (e.bound i)) acc).foldl (ZaZ bound) out
     rw [ih x hx (hw.child hx),Zjp]
   exact key e.children 0 [] fun x hx=>hx
theorem ZjA {b out:List Str}{s:Str}(h:out.Nodup):(ZaZ b out s).Nodup:=by
 unfold ZaZ
 split
 ·exact h
 ·rename_i hn
  rw [List.nodup_append]
  refine ⟨h,by simp,?_⟩
  intro x hx y hy
  simp only [List.mem_singleton] at hy
  subst hy
  rintro rfl
  exact hn (.inr hx)
theorem Ze7 {b:List Str}:∀ {l out:List Str},out.Nodup→(l.foldl (ZaZ b) out).Nodup
 | [],_,h=>h
 | _::l,_,h=>Ze7 (l:=l) (ZjA h)
theorem Zfh {e:Exp}:∀ {l:List (List Str × Nat)}{out:List Str},out.Nodup→(l.foldl (Zfm e) out).Nodup
 | [],_,h=>h
 | _::l,_,h=>Zfh (l:=l) (Ze7 h)
theorem Zkq (e:Exp):(Zaf e).Nodup:=by
 rw [Zb4]
 split
 ·simp
 ·exact Zfh List.nodup_nil
theorem Zh0:∀ {l out:List Str},(out++l).Nodup→l.foldl (ZaZ []) out=out++l
 | [],out,_=>by simp
 | s::l,out,h=>by
  have hs:s∉out:=by
   rw [List.nodup_append] at h
   exact fun hs=>h.2.2 s hs s (by simp) rfl
  have he:ZaZ [] out s=out++[s]:=by
   unfold ZaZ
   rw [if_neg (by simpa using hs)]
  rw [List.foldl_cons,he,Zh0 (by simpa using h)]
  simp
theorem ZdZ (e:Exp)(hw:e.wf):Zdk e [] []=Zaf e:=by
 rw [Zmo e hw,Zh0 (by simpa using Zkq e)]
 simp
variable {A:Zac}
theorem ZcI {f:FuncId}{vf:VFun}{args:List V}{objs:List Obj}(P:V × List Obj→Prop)(hT:T2 f=some vf)(hn:args.length=vf.nparams)(ho:objs.length≤64)
 (h:wp (K A) vf.body (Zfq vf.keep objs.length vf.results P) ⟨Zba 0 args,Zba 0 (objs.map some)⟩):∃ r,P r∧(K A).call f args objs=some r:=Zsp P hT hn ho h
def Zbg (l:List Int):List (List Cell):=l.map ZhN
@[simp] theorem intRows_len (l:List Int):(Zbg l).length=l.length:=by simp [Zbg]
@[simp] theorem intRows_get (l:List Int) (i:Nat):(Zbg l)[i]?=(l[i]?).map ZhN:=by simp [Zbg]
@[simp] theorem cut_i (n:Int):cut (ZhN n) 0 1=some [.int .i64 n]:=rfl
abbrev Zbo (L:List Int)(I:Nat):Obj:=.box [.c (.sl (Zbg L)),.c (.int .i64 I)]
abbrev ZaX (ds:List DataD):V:=.sc (.c (.sl (Zax ds)))
abbrev tyV (t:Ty):V:=.ag (wc t.row)
theorem mod10 (a m:Int)(hm:0<m)(hb:m≤1073741824):∃ k:Nat,(k:Int)<m∧(K A).call 27 [intV a,intV m] []=some (intV k,[]):=by
 have h1:¬m<1:=by omega
 have h0:m≠0:=by omega
 have hlt:a.tmod m<m:=Int.tmod_lt_of_pos a (by omega)
 have hgt:-m<a.tmod m:=Int.lt_tmod_of_pos a (by omega)
 by_cases hneg:a.tmod m<0
 ·refine ⟨(a.tmod m+m).toNat,by omega,?_⟩
  have hw:((a.tmod m+m).toNat:Int)=a.tmod m+m:=by omega
  rw [hw]
  refine Zan (vf:=v27) (by kernel_rfl) rfl (by simp) ?_
  unfold v27
  simp (disch:=first|omega|(simp;done)|(simp;omega)) [h1,h0,hneg]
 ·refine ⟨(a.tmod m).toNat,by omega,?_⟩
  have hw:((a.tmod m).toNat:Int)=a.tmod m:=by omega
  rw [hw]
  refine Zan (vf:=v27) (by kernel_rfl) rfl (by simp) ?_
  unfold v27
  simp (disch:=first|omega|(simp;done)|(simp;omega)) [h1,h0,hneg]
theorem Zen (L:List Int)(I:Nat)(n:Int)(hI:I≤L.length)(hL:L.length≤1073741824)(hn:0<n)(hb:n≤1073741824) :
 ∃ k J:Nat,(k:Int)<n∧J≤L.length∧(K A).call 53 [.sc (.ptr 0 0),intV n] [Zbo L I]=some (intV k,[Zbo L J]):=by
 by_cases h:I<L.length
 ·obtain ⟨a,ha⟩:=Zaa h
  obtain ⟨k,hk,hc⟩:=mod10 (A:=A) a n hn hb
  refine ⟨k,I+1,hk,h,?_⟩
  refine Zan (vf:=v53) (by kernel_rfl) rfl (by simp) ?_
  have h1:¬L.length≤I:=by omega
  unfold v53
  simp (disch:=first|omega|(simp;done)|(simp;omega)) [h1,ha,hc,-getElem?_pos]
 ·refine ⟨0,I,hn,hI,?_⟩
  refine Zan (vf:=v53) (by kernel_rfl) rfl (by simp) ?_
  have h1:L.length≤I:=by omega
  unfold v53
  simp (disch:=first|omega|(simp;done)|(simp;omega)) [h1,-getElem?_pos]
def Za8:List Str:=[[120],[121],[122],[102],[103],[118,49],[118,50],[105,100]]
theorem Zcc (L:List Int)(I:Nat)(hI:I≤L.length)(hL:L.length≤1073741824) :
 ∃ s J,s∈Za8∧J≤L.length∧(K A).call 34 [.sc (.ptr 0 0)] [Zbo L I]=some (strV s,[Zbo L J]):=by
 obtain ⟨k,J,hk,hJ,hc⟩:=Zen (A:=A) L I 8 hI hL (by omega) (by omega)
 obtain ⟨s,hs⟩:=Zaa (l:=Za8) (i:=k) (by simp only [Za8,List.length_cons,List.length_nil];omega)
 refine ⟨s,J,List.mem_of_getElem? hs,hJ,?_⟩
 refine Zan (vf:=v34) (by kernel_rfl) rfl (by simp) ?_
 have hr:(wr (Zag Za8))[k]?=some [.c (.str s)]:=by simp [hs]
 have hw:wr (Zag Za8)=[[.c (.str [120])],[.c (.str [121])],[.c (.str [122])],[.c (.str [102])],[.c (.str [103])],[.c (.str [118,49])],[.c (.str [118,50])],[.c (.str [105,100])]]:=rfl
 rw [hw] at hr
 unfold v34
 simp (disch:=first|omega|(simp;done)|(simp;omega)) [hc,hr,-getElem?_pos]
theorem Zr0 (s:Str)(l:List Ty)(hl:l.length≤1073741824):(K A).call 100 [strV s,.sc (.c (.sl (Ty.rows l)))] []=some (tyV (.mk 4 s 0 0 l),[]):=by
 refine Zan (vf:=v100) (by kernel_rfl) rfl (by simp) ?_
 unfold v100
 cases l with
 | nil =>
  have hn:Ty.rows []=[]:=by rw [Ty.rows]
  simp (disch:=first|omega|(simp;done)|(simp;omega)) [hn,Ty.row]
 | cons t l =>
  have hn:Ty.rows (t::l)=t.row::Ty.rows l:=by rw [Ty.rows]
  have hok:=okRows_ty (t::l)
  rw [hn,wr_cons] at hok
  simp only [List.length_cons] at hl
  simp (disch:=first|omega|(simp;done)|(simp;omega)) [hn,hok,Ty.row]
theorem int29:(K A).call 47 [] []=some (tyV (.mk 4 [73,110,116] 0 0 []),[]):=by
 refine Zan (vf:=v47) (by kernel_rfl) rfl (by simp) ?_
 have hn:Ty.rows []=[]:=by rw [Ty.rows]
 have h:=Zr0 (A:=A) [73,110,116] [] (by simp)
 simp [hn] at h
 unfold v47
 simp (disch:=first|omega|(simp;done)|(simp;omega)) [h]
theorem Zsm (a b:Ty):(K A).call 128 [tyV a,tyV b] []=some (tyV (.mk 4 [45,62] 0 0 [a,b]),[]):=by
 refine Zan (vf:=v128) (by kernel_rfl) rfl (by simp) ?_
 have hn:Ty.rows [a,b]=[a.row,b.row]:=by simp [Ty.rows]
 have h:=Zr0 (A:=A) [45,62] [a,b] (by simp)
 rw [hn] at h
 unfold v128
 simp (disch:=first|omega|(simp;done)|(simp;omega)) [h]
def ZjX (d:DataD):Prop:=d.params.length≤4∧1≤d.cons.length∧d.cons.length≤6∧∀ c∈d.cons,c.fields.length≤4
def ZhP (ds:List DataD):Prop:=ds.length≤100∧∀ d∈ds,ZjX d
def TypeP (L:List Int)(r:V × List Obj):Prop:=∃ t J,J≤L.length∧r=(tyV t,[Zbo L J])
def TypeI (L:List Int)(ds:List DataD)(dd:DataD)(d i:Nat)(s:St):Prop:=∃ tys J,tys.length=i∧J≤L.length ∧
 s=⟨[(0,.sc (.ptr 0 0)),(1,ZaX ds),(2,.sc (.c (.sl []))),(3,intV (d+1)),(8,.sc (.ptr 64 0)),(10,.sc (.ptr 3392 0)),(11,.sc (.arr 3521 i)),(12,intV i)],
  [(0,some (Zbo L J)),(64,some (.box [zi,zs,zi,zi,.nil])),(3392,some (.box (wc (ZaM dd)))),(3521,some (.arr 5 (wr (Ty.rows tys)) 0))]⟩
variable {A:Zac}
def tz:Ty:=.mk 0 [] 0 0 []
@[simp] theorem strRows0:Zag []=[]:=rfl
@[simp] theorem rows0:Exp.rows []=[]:=by rw [Exp.rows]
@[simp] theorem rows1 (x:Exp):Exp.rows [x]=[x.row]:=by rw [Exp.rows,Exp.rows]
@[simp] theorem rows2 (x y:Exp):Exp.rows [x,y]=[x.row,y.row]:=by rw [Exp.rows,Exp.rows,Exp.rows]
@[simp] theorem armRows0:Exp.armRows []=[]:=by rw [Exp.armRows]
@[simp] theorem tyRows0:Ty.rows []=[]:=by rw [Ty.rows]
def RawP (L:List Int)(B:Nat)(r:V × List Obj):Prop:=∃ e J,e.wf∧e.weight≤B∧J≤L.length∧r=(expV e,[Zbo L J])
theorem ZbE (k p n m ks l t):(Exp.mk k p n m ks l t).weight=1+(l.map fun a=>a.1.vars.length).sum+((ks.map Exp.weight).sum+(l.map fun a=>a.2.weight).sum):=by
 rw [Exp.weight_eq]
 simp [Exp.children,Exp.arms,Exp.kids,List.map_map,Function.comp_def]
def ArmI (L:List Int)(ds:List DataD)(dd:DataD)(x:Exp)(B d i:Nat)(s:St):Prop:=∃ arms J,arms.length=i∧J≤L.length∧(∀ a∈arms,a.2.wf∧a.2.weight≤B∧a.1.vars.length≤4) ∧
 s=⟨[(0,.sc (.ptr 0 0)),(1,ZaX ds),(2,intV (d+1)),(6,.sc (.ptr 64 0)),(13,.sc (.ptr 10176 0)),(14,.sc (.ptr 10752 0)),(15,intV i)],
  [(0,some (Zbo L J)),(64,some (.box [zi,zi,zs,zi,.nil,.nil,zi,zs,zi,zi,.nil])),(10176,some (.box (wc (ZaM dd)))),(10624,some (.arr 11 [wc x.row] 0)),
    (10752,some (.box [.c (.int .i64 8),zi,zs,zi,.arr 10624 1,.arr 10822 i,zi,zs,zi,zi,.nil])),(10822,some (.arr 14 (wr (Exp.armRows arms)) 0))]⟩
def VarI (L:List Int)(ds:List DataD)(dd:DataD)(x:Exp)(arms:List (ArmH × Exp))(con:Str)(d i j:Nat)(s:St):Prop:=∃ vars J,vars.length=j∧J≤L.length ∧
 s=⟨[(0,.sc (.ptr 0 0)),(1,ZaX ds),(2,intV (d+1)),(6,.sc (.ptr 64 0)),(13,.sc (.ptr 10176 0)),(14,.sc (.ptr 10752 0)),(15,intV i),(16,.sc (.ptr 11712 0)),(17,intV j)],
  [(0,some (Zbo L J)),(64,some (.box [zi,zi,zs,zi,.nil,.nil,zi,zs,zi,zi,.nil])),(10176,some (.box (wc (ZaM dd)))),(10624,some (.arr 11 [wc x.row] 0)),
    (10752,some (.box [.c (.int .i64 8),zi,zs,zi,.arr 10624 1,.arr 10822 i,zi,zs,zi,zi,.nil])),(10822,some (.arr 14 (wr (Exp.armRows arms)) 0)),
    (11712,some (.box [zi,.c (.str con),.arr 11779 j,zi,zi,zs,zi,.nil,.nil,zi,zs,zi,zi,.nil])),(11779,some (.arr 1 (wr (Zag vars)) 0))]⟩
theorem Zo0 {C:Ctx}{a b c:VCode}{Q:Ex→St→Prop}{s:St}(s1:St)(h1:wp C a (fun e s=>e=.normal∧s=s1) s)(h2:wp C (.seq b c) Q s1):wp C (.seq (.seq a b) c) Q s:=by
 rw [wp_seq,wp_seq]
 refine wp_mono h1 ?_
 rintro e s' ⟨rfl,rfl⟩
 simp only [ZfD]
 rw [wp_seq] at h2
 exact h2
variable {A:Zac}
def ZoC (ds7:List DataD)(r:V × List Obj):Prop:=∃ ds,(∀ d∈ds,d∈ds7)∧ZhP ds∧r=(ZaX ds,[])
def Zrp (bits:Int)(ds7:List DataD)(i:Nat)(s:St):Prop:=∃ ds:List DataD,ds.length≤i+1∧(∀ d∈ds,d∈ds7∧ZjX d) ∧
 s=⟨[(0,intV bits),(3,ZaX ds7),(4,.sc (.arr 257 ds.length)),(5,intV i)],[(257,some (.arr 4 (wr (Zax ds)) 0))]⟩
@[simp] theorem dataRows0:Zax []=[]:=rfl
@[simp] theorem dataRows1 (d:DataD):wr (Zax [d])=[wc (ZaM d)]:=rfl
theorem Zsr (bits:Int)(ds7:List DataD)(h7:ds7.length=7)(hg:∀ d∈ds7,ZjX d)(h55:(K A).call 71 [] []=some (ZaX ds7,[])) :
 ∃ r,ZoC ds7 r∧(K A).call 23 [intV bits] []=some r:=by
 refine ZcI _ (vf:=v23) (by kernel_rfl) rfl (by simp) ?_
 obtain ⟨d1,hd1⟩:=Zaa (l:=ds7) (i:=1) (by omega)
 have hgd1:=hg d1 (List.mem_of_getElem? hd1)
 have fin:∀ s,Zrp bits ds7 0 s→wp (K A) (.loop ZpJ) (Zdd 0 (ZfD (K A) (.seq (.region [] [o 44 (.mv (tv 4)),o 2 (.mv (tv 44))] [] [2]) .ret) (Zfq false 0 [.tmp 2] (ZoC ds7)))) s:=by
  intro s hs
  refine Zam (Zrp bits ds7) 7 hs ?_ ?_
  ·rintro i s hi ⟨ds,hds1,hds2,rfl⟩
   obtain ⟨d,hd⟩:=Zaa (l:=ds7) (i:=i) (by omega)
   have hgd:=hg d (List.mem_of_getElem? hd)
   have hi2:(i:Int)<7:=by omega
   unfold ZpJ
   by_cases hi1:i=1
   ·subst hi1
    simp (disch:=first|omega|(simp;done)|(simp;omega)) [h7,hd,-getElem?_pos]
    exact ⟨ds,by omega,hds2,by simp⟩
   ·have hi1':¬(i:Int)=1:=by omega
    by_cases hb:andI .i64 (shrI .i64 bits i) 1=1
    ·simp (disch:=first|omega|(simp;done)|(simp;omega)) [h7,hd,hi2,hi1',hb,-getElem?_pos]
     refine ⟨ds++[d],by simp;omega,?_,by simp⟩
     intro x hx
     rcases List.mem_append.1 hx with hx|hx
     ·exact hds2 x hx
     ·simp only [List.mem_singleton] at hx
      exact hx▸⟨List.mem_of_getElem? hd,hgd⟩
    ·simp (disch:=first|omega|(simp;done)|(simp;omega)) [h7,hd,hi2,hi1',hb,-getElem?_pos]
     exact ⟨ds,by omega,hds2,by simp⟩
  ·rintro s ⟨ds,hds1,hds2,rfl⟩
   unfold ZpJ
   simp (disch:=first|omega|(simp;done)|(simp;omega)) [h7,-getElem?_pos]
   exact ⟨ds,fun d hd=>(hds2 d hd).1,⟨by omega,fun d hd=>(hds2 d hd).2⟩,rfl⟩
 unfold v23
 by_cases h1:andI .i64 bits 2=0
 ·by_cases h2:andI .i64 bits 64=0
  ·simp (disch:=first|omega|(simp;done)|(simp;omega)) [h55,h1,h2,-getElem?_pos]
   exact fin _ ⟨[],by simp,by simp,by simp⟩
  ·simp (disch:=first|omega|(simp;done)|(simp;omega)) [h55,h1,h2,h7,hd1,-getElem?_pos]
   exact fin _ ⟨[d1],by simp,by simp [hgd1,List.mem_of_getElem? hd1],by simp⟩
 ·simp (disch:=first|omega|(simp;done)|(simp;omega)) [h55,h1,h7,hd1,-getElem?_pos]
  exact fin _ ⟨[d1],by simp,by simp [hgd1,List.mem_of_getElem? hd1],by simp⟩
def MadeP (L:List Int)(r:V × List Obj):Prop:=∃ a b J,a.wf∧a.weight≤32 ^ 4∧b.wf∧b.weight≤32 ^ 3∧J≤L.length∧r=(.tu [expV a,expV b,.sc (.ptr 0 0)],[Zbo L J])
def BoolP (r:V × List Obj):Prop:=∃ b,r=(Zah b,[])
def numS (n:Nat):Str:=if h:n<10 then [UInt8.ofNat (48+n)] else numS (n / 10)++[UInt8.ofNat (48+n % 10)]
termination_by n
decreasing_by omega
theorem Zcs {n:Nat}(h:n<10):numS n=[UInt8.ofNat (48+n)]:=by rw [numS,dif_pos h]
theorem Zc1 {n:Nat}(h:¬n<10):numS n=numS (n / 10)++[UInt8.ofNat (48+n % 10)]:=by rw [numS,dif_neg h]
theorem Zf9 (n:Nat):1≤(numS n).length:=by
 by_cases h:n<10
 ·simp [Zcs h]
 ·simp [Zc1 h]
theorem Zm0 {a b:Nat}(ha:a<10)(hb:b<10)(h:UInt8.ofNat (48+a)=UInt8.ofNat (48+b)):a=b:=by
 have:=congrArg UInt8.toNat h
 simp [UInt8.toNat_ofNat'] at this
 omega
theorem ZpZ:∀ (n m:Nat),numS n=numS m→n=m:=by
 intro n
 induction n using Nat.strongRecOn with
 | ind n ih =>
  intro m h
  by_cases hn:n<10
  ·by_cases hm:m<10
   ·rw [Zcs hn,Zcs hm] at h
    exact Zm0 hn hm (by simpa using h)
   ·have:=congrArg List.length h
    rw [Zcs hn,Zc1 hm] at this
    have h2:=Zf9 (m / 10)
    simp only [List.length_singleton,List.length_append] at this
    omega
  ·by_cases hm:m<10
   ·have:=congrArg List.length h
    rw [Zcs hm,Zc1 hn] at this
    have h2:=Zf9 (n / 10)
    simp only [List.length_singleton,List.length_append] at this
    omega
   ·rw [Zc1 hn,Zc1 hm] at h
    obtain ⟨h1,h2⟩:=List.append_inj' h (by simp)
    have h3:=ih (n / 10) (by omega) _ h1
    have h4:=Zm0 (Nat.mod_lt _ (by omega)) (Nat.mod_lt _ (by omega)) (by simpa using h2)
    omega
theorem ZeN (n:Nat):∀ k,n<10 ^ k→1≤k→(numS n).length≤k:=by
 induction n using Nat.strongRecOn with
 | ind n ih =>
  intro k hk h1
  by_cases hn:n<10
  ·simp [Zcs hn];exact h1
  ·obtain ⟨k,rfl⟩:∃ j,k=j+1:=⟨k-1,by omega⟩
   have hk1:1≤k:=by
    rcases Nat.eq_zero_or_pos k with rfl|h
    ·simp at hk;omega
    ·exact h
   have:=ih (n / 10) (by omega) k (by rw [Nat.pow_succ] at hk;omega) hk1
   simp [Zc1 hn]
   omega
def Za1 (k:Nat):Str:=118::numS k
theorem ZmP {a b:Nat}(h:Za1 a=Za1 b):a=b:=ZpZ a b (by simpa [Za1] using h)
noncomputable def ZcP (l:List Str)(k:Nat):Nat:=match l with
 | []=>0
 | s::r=>(open Classical in if ∃ j,k≤j∧s=Za1 j then 1 else 0)+ZcP r k
theorem Ze3 (l:List Str)(k:Nat):ZcP l k≤l.length:=by
 induction l with
 | nil=>simp [ZcP]
 | cons s r ih=>simp only [ZcP,List.length_cons];split<;>omega
theorem Zdw (l:List Str)(k:Nat):ZcP l (k+1)≤ZcP l k:=by
 induction l with
 | nil=>simp [ZcP]
 | cons s r ih =>
  simp only [ZcP]
  split
  ·rename_i h
   obtain ⟨j,h1,h2⟩:=h
   rw [if_pos ⟨j,by omega,h2⟩]
   omega
  ·split<;>omega
theorem ZgY {l:List Str}{k:Nat}(h:Za1 k∈l):ZcP l (k+1)<ZcP l k:=by
 induction l with
 | nil=>simp at h
 | cons s r ih =>
  have hm:=Zdw r k
  simp only [ZcP]
  rcases List.mem_cons.1 h with rfl|h
  ·rw [if_neg,if_pos ⟨k,Nat.le_refl _,rfl⟩]
   ·omega
   ·rintro ⟨j,h1,h2⟩
    have:=ZmP h2
    omega
  ·have:=ih h
   split
   ·rename_i h3
    obtain ⟨j,h1,h2⟩:=h3
    rw [if_pos ⟨j,by omega,h2⟩]
    omega
   ·split<;>omega
def Zcu (taken:List Str):Nat→Nat→Nat→Nat
 | 0,k,_=>k
 | f+1,k,n=>if Za1 k∈taken then Zcu taken f (k+1) n else if n=0 then k else Zcu taken f (k+1) (n-1)
theorem Zcj (taken:List Str):∀ f k n,k≤Zcu taken f k n
 | 0,k,n=>Nat.le_refl _
 | f+1,k,n=>by
  simp only [Zcu]
  split
  ·exact Nat.le_trans (by omega) (Zcj taken f (k+1) n)
  ·split
   ·exact Nat.le_refl _
   ·exact Nat.le_trans (by omega) (Zcj taken f (k+1) (n-1))
theorem Zhb (taken:List Str):∀ f k n,Zcu taken f k n≤k+f
 | 0,k,n=>by simp [Zcu]
 | f+1,k,n=>by
  simp only [Zcu]
  have h1:=Zhb taken f (k+1) n
  have h2:=Zhb taken f (k+1) (n-1)
  split
  ·omega
  ·split<;>omega
theorem ZfB (taken:List Str):∀ f k n,n+ZcP taken k<f→Za1 (Zcu taken f k n)∉taken
 | 0,k,n,h=>by omega
 | f+1,k,n,h=>by
  simp only [Zcu]
  split
  ·rename_i hm
   exact ZfB taken f (k+1) n (by have:=ZgY hm;omega)
  ·rename_i hm
   split
   ·exact hm
   ·exact ZfB taken f (k+1) (n-1) (by have:=Zdw taken k;omega)
def ZaJ (n:Nat)(taken:List Str):Nat:=Zcu taken (n+taken.length+1) 1 n
def ZaK (n:Nat)(taken:List Str):Str:=Za1 (ZaJ n taken)
theorem Zgo (n:Nat)(taken:List Str):ZaJ n taken≤n+taken.length+2:=by
 have:=Zhb taken (n+taken.length+1) 1 n
 unfold ZaJ
 omega
theorem Zbc (n:Nat)(taken:List Str):ZaK n taken∉taken:=ZfB taken _ _ _ (by have:=Ze3 taken 1;omega)
end Go.Vs.Tryz
