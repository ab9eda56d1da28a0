/- The free variables by the program, walked. (Parts of one proof, put together.) -/
import Derived.Test.YtlcncicmkkelcaaGreatDoorR0f
import Derived.Test.YtlcncicmkkelcaaGreatDoorM6f
set_option linter.unusedSimpArgs false
set_option linter.unusedVariables false
set_option linter.deprecated false
set_option maxHeartbeats 2000000
namespace Go.Vs.Tryz
open Go Go.Vs
variable {A:Oracle}
def addNew (hidden out:List Str)(s:Str):List Str:=if s∈hidden∨s∈out then out else out++[s]
def addAll (e:Exp)(out:List Str)(p:List Str × Nat):List Str:=p.1.foldl (addNew (e.bound p.2)) out
def freeP (e:Exp):List Str:=e.fold fun e l=>if e.kind=1 then [e.name] else l.zipIdx.foldl (addAll e) []
theorem freeP_eq (e:Exp):freeP e=if e.kind=1 then [e.name] else (e.children.map freeP).zipIdx.foldl (addAll e) []:=Exp.fold_eq _ e
theorem addNew_len (h out:List Str)(s:Str):(addNew h out s).length≤out.length+1:=by
 unfold addNew
 split<;>simp
theorem foldNew_len (h:List Str):∀ (l out:List Str),(l.foldl (addNew h) out).length≤out.length+l.length
 | [],out=>by simp
 | s::l,out=>by
  have h1:=addNew_len h out s
  have h2:=foldNew_len h l (addNew h out s)
  simp only [List.foldl_cons,List.length_cons]
  omega
theorem foldAll_len (e:Exp):∀ (l:List (List Str × Nat))(out:List Str),(l.foldl (addAll e) out).length≤out.length+(l.map fun p=>p.1.length).sum
 | [],out=>by simp
 | p::l,out=>by
  have h1:(addAll e out p).length≤out.length+p.1.length:=foldNew_len _ _ _
  have h2:=foldAll_len e l (addAll e out p)
  simp only [List.foldl_cons,List.map_cons,List.sum_cons]
  omega
theorem sum_take {l:List Nat}{i:Nat}:(l.take i).sum≤l.sum:=by
 have:l.sum=(l.take i).sum+(l.drop i).sum:=by rw [←List.sum_append,List.take_append_drop]
 omega
theorem zipIdx_fst (l:List (List Str)):(l.zipIdx.map fun p=>p.1.length)=l.map List.length:=by
 rw [show (fun p:List Str × Nat=>p.1.length)=List.length ∘ Prod.fst from rfl,←List.map_map,List.zipIdx_map_fst]
theorem sum_le {α:Type}{f g:α→Nat}:∀ {l:List α},(∀ x∈l,f x≤g x)→(l.map f).sum≤(l.map g).sum
 | [],_=>by simp
 | a::l,h=>by
  have h1:=h a (by simp)
  have h2:=sum_le (l:=l) fun x hx=>h x (by simp [hx])
  simp only [List.map_cons,List.sum_cons]
  omega
theorem freeP_len (e:Exp):(freeP e).length≤e.weight:=by
 induction e using Exp.ind with
 | h e ih =>
  rw [freeP_eq]
  split
  ·exact e.weight_pos
  ·have h1:=foldAll_len e (e.children.map freeP).zipIdx []
   rw [zipIdx_fst,List.map_map] at h1
   have h2:(e.children.map (List.length ∘ freeP)).sum≤(e.children.map Exp.weight).sum:=sum_le ih
   rw [e.weight_eq]
   simp only [List.length_nil] at h1
   omega
def outP (e:Exp)(i:Nat):List Str:=((e.children.map freeP).zipIdx.take i).foldl (addAll e) []
theorem outP_len (e:Exp)(i:Nat):(outP e i).length≤e.weight:=by
 have h1:=foldAll_len e ((e.children.map freeP).zipIdx.take i) []
 have h2:(((e.children.map freeP).zipIdx.take i).map fun p=>p.1.length).sum≤(e.children.map Exp.weight).sum:=by
  rw [List.map_take,zipIdx_fst,List.map_map]
  exact Nat.le_trans sum_take (sum_le fun x _=>freeP_len x)
 unfold outP
 rw [e.weight_eq]
 simp only [List.length_nil] at h1
 omega
theorem outP_succ {e x:Exp}{i:Nat}(hx:e.children[i]?=some x):outP e (i+1)=(freeP x).foldl (addNew (e.bound i)) (outP e i):=by
 have h:(e.children.map freeP).zipIdx[i]?=some (freeP x,i):=by simp [List.getElem?_zipIdx,hx]
 unfold outP
 rw [take_next h,List.foldl_append]
 rfl
theorem outP_end (e:Exp):outP e e.children.length=(e.children.map freeP).zipIdx.foldl (addAll e) []:=by
 unfold outP
 rw [List.take_of_length_le (by simp)]
theorem free19 (e:Exp)(hw:e.wf)(hl:e.weight≤1073741824):(K A).call 30 [expV e] []=some (strsV (freeP e),[]):=by
 induction e using Exp.ind with
 | h e ih =>
 refine fn_of (vf:=v30) (by kernel_rfl) rfl (by decide) ?_
 have hle:=e.children_le
 rw [e.children_len] at hle
 have h1:∀ s:Str,strRows [s]=[[.str s]]:=fun _=>rfl
 have hn:strRows []=[]:=rfl
 by_cases hk:e.kind=1
 ·unfold v30
  simp [hk,freeP_eq,h1]
 ·by_cases hkids:e.kids=[]
  ·have harms:e.arms=[]:=by
    by_cases h8:e.kind=8
    ·have:=hw.one.1 h8
     rw [hkids] at this
     simp at this
    ·exact hw.one.2.1 h8
   have hc:=children51_leaf (A:=A) e hkids harms
   have hch:e.children=[]:=by simp [Exp.children,hkids,harms]
   unfold v30
   simp (disch:=first|omega|(simp;done)|(simp;omega)) [hk,hc]
   refine wp_loop (fun i=>⟨[(1,.sc (.ptr 64 0)),(3,.sc (.arr 641 0)),(16,.sc (.full [])),(17,intV 0),(18,intV i)],[(64,some (.box (wc e.row))),(641,some (.arr 1 [] 0))]⟩) 0 ?_ ?_ ?_
   ·simp
   ·intro i hi;omega
   ·unfold l30_1
    simp [freeP_eq,hk,hch,hn]
  ·have hc:=children51 (A:=A) e hkids hl
   unfold v30
   simp (disch:=first|omega|(simp;done)|(simp;omega)) [hk,hc]
   refine wp_loop (fun i=>⟨[(1,.sc (.ptr 64 0)),(3,.sc (.arr 641 (outP e i).length)),(16,.sc (.arr 800 e.children.length)),(17,intV e.children.length),(18,intV i)],[(64,some (.box (wc e.row))),(641,some (.arr 1 (wr (strRows (outP e i))) 0)),(800,some (.arr 11 (wr (Exp.rows e.children)) 0))]⟩) e.children.length ?_ ?_ ?_
   ·simp [outP,hn]
   ·intro i hi
    obtain ⟨x,hx⟩:=get_of_lt hi
    have hmem:x∈e.children:=List.mem_of_getElem? hx
    have h19:=ih x hmem (hw.child hmem) (by have:=Exp.child_lt hmem;omega)
    have h52:=bound52 (A:=A) e i hw.one hi hl
    have hfl:=freeP_len x
    have hol:=outP_len e i
    have hbl:=e.bound_le i
    have hxl:=Exp.child_lt hmem
    rw [e.children_len] at hi
    have hi':(i:Int)<(e.kids.length:Int)+e.arms.length:=by omega
    unfold l30_1
    simp (disch:=first|omega|(simp;done)|(simp;omega)) [hi',hx,h52,h19,-getElem?_pos]
    refine wp_loop (fun j=>⟨[(1,.sc (.ptr 64 0)),(3,.sc (.arr 641 (((freeP x).take j).foldl (addNew (e.bound i)) (outP e i)).length)),(16,.sc (.arr 800 e.children.length)),(17,intV e.children.length),(18,intV i),(6,strsV (e.bound i)),(27,strsV (freeP x)),(28,intV (freeP x).length),(29,intV j)],
     [(64,some (.box (wc e.row))),(641,some (.arr 1 (wr (strRows (((freeP x).take j).foldl (addNew (e.bound i)) (outP e i)))) 0)),(800,some (.arr 11 (wr (Exp.rows e.children)) 0)),(1216,some (.box (wc x.row)))]⟩) (freeP x).length ?_ ?_ ?_
    ·simp
    ·intro j hj
     obtain ⟨s,hs⟩:=get_of_lt hj
     rw [take_next hs,List.foldl_append,List.foldl_cons,List.foldl_nil]
     have hjl:=foldNew_len (e.bound i) ((freeP x).take j) (outP e i)
     have hjl2:((freeP x).take j).length≤(freeP x).length:=by simp;omega
     generalize ((freeP x).take j).foldl (addNew (e.bound i)) (outP e i)=out at hjl ⊢
     have hc1:=contains53 (A:=A) (e.bound i) s (by omega)
     have hc2:=contains53 (A:=A) out s (by omega)
     unfold l30_0
     by_cases hb:s∈e.bound i
     ·simp (disch:=first|omega|(simp;done)|(simp;omega)) [hj,hs,hc1,hb,addNew,-getElem?_pos]
     ·by_cases ho:s∈out
      ·simp (disch:=first|omega|(simp;done)|(simp;omega)) [hj,hs,hc1,hc2,hb,ho,addNew,-getElem?_pos]
      ·simp (disch:=first|omega|(simp;done)|(simp;omega)) [hj,hs,hc1,hc2,hb,ho,addNew,-getElem?_pos]
    ·unfold l30_0
     simp (disch:=first|omega|(simp;done)|(simp;omega)) [outP_succ hx,-getElem?_pos]
   ·unfold l30_1
    have he:=outP_end e
    rw [e.children_len] at he
    simp (disch:=first|omega|(simp;done)|(simp;omega)) [freeP_eq,hk,he]
variable {A:Oracle}
def seeVar (e:Exp)(bound out:List Str):List Str:=if e.kind=1∧e.name∉bound∧e.name∉out then out++[e.name] else out
def stepR (e:Exp)(bound:List Str)(out:List Str)(p:(List Str→List Str→List Str) × Nat):List Str:=p.1 (bound++e.bound p.2) out
def freeR (e:Exp):List Str→List Str→List Str:=e.fold fun e l bound out=>l.zipIdx.foldl (stepR e bound) (seeVar e bound out)
theorem freeR_eq (e:Exp)(bound out:List Str):freeR e bound out=(e.children.map freeR).zipIdx.foldl (stepR e bound) (seeVar e bound out):=by
 unfold freeR
 rw [Exp.fold_eq]
def outR (e:Exp)(bound out:List Str)(i:Nat):List Str:=((e.children.map freeR).zipIdx.take i).foldl (stepR e bound) (seeVar e bound out)
theorem outR_succ {e x:Exp}{bound out:List Str}{i:Nat}(hx:e.children[i]?=some x):outR e bound out (i+1)=freeR x (bound++e.bound i) (outR e bound out i):=by
 have h:(e.children.map freeR).zipIdx[i]?=some (freeR x,i):=by simp [List.getElem?_zipIdx,hx]
 unfold outR
 rw [take_next h,List.foldl_append]
 rfl
theorem outR_end (e:Exp)(bound out:List Str):outR e bound out e.children.length=freeR e bound out:=by
 rw [freeR_eq]
 unfold outR
 rw [List.take_of_length_le (by simp)]
theorem seeVar_len (e:Exp)(bound out:List Str):(seeVar e bound out).length≤out.length+1:=by
 unfold seeVar
 split<;>simp
theorem sum_take_le {e:Exp}{i:Nat}:((e.children.take i).map Exp.weight).sum≤(e.children.map Exp.weight).sum:=by
 rw [List.map_take]
 exact sum_take
theorem freeR_len (e:Exp):∀ bound out:List Str,(freeR e bound out).length≤out.length+e.weight:=by
 induction e using Exp.ind with
 | h e ih =>
  intro bound out
  have key:∀ i,i≤e.children.length→(outR e bound out i).length≤out.length+1+((e.children.take i).map Exp.weight).sum:=by
   intro i
   induction i with
   | zero =>
    intro _
    have:=seeVar_len e bound out
    simpa [outR] using this
   | succ i ihi =>
    intro hi
    obtain ⟨x,hx⟩:=get_of_lt (l:=e.children) (i:=i) (by omega)
    have h1:=ih x (List.mem_of_getElem? hx) (bound++e.bound i) (outR e bound out i)
    have h2:=ihi (by omega)
    rw [outR_succ hx,take_next hx,List.map_append,List.sum_append]
    simp only [List.map_cons,List.map_nil,List.sum_cons,List.sum_nil]
    omega
  have h1:=key _ (Nat.le_refl _)
  rw [outR_end,List.take_length] at h1
  rw [e.weight_eq]
  omega
theorem freeR_ge (e:Exp):∀ bound out:List Str,out.length≤(freeR e bound out).length:=by
 induction e using Exp.ind with
 | h e ih =>
  intro bound out
  have key:∀ i,i≤e.children.length→out.length≤(outR e bound out i).length:=by
   intro i
   induction i with
   | zero =>
    intro _
    simp only [outR,List.take_zero,List.foldl_nil,seeVar]
    split<;>simp
   | succ i ihi =>
    intro hi
    obtain ⟨x,hx⟩:=get_of_lt (l:=e.children) (i:=i) (by omega)
    rw [outR_succ hx]
    exact Nat.le_trans (ihi (by omega)) (ih x (List.mem_of_getElem? hx) _ _)
  have:=key _ (Nat.le_refl _)
  rwa [outR_end] at this
theorem outR_key {e:Exp}{bound out:List Str}:∀ i,i≤e.children.length→(outR e bound out i).length≤out.length+1+((e.children.take i).map Exp.weight).sum:=by
 intro i
 induction i with
 | zero =>
  intro _
  have:=seeVar_len e bound out
  simpa [outR] using this
 | succ i ihi =>
  intro hi
  obtain ⟨x,hx⟩:=get_of_lt (l:=e.children) (i:=i) (by omega)
  have h1:=freeR_len x (bound++e.bound i) (outR e bound out i)
  have h2:=ihi (by omega)
  rw [outR_succ hx,take_next hx,List.map_append,List.sum_append]
  simp only [List.map_cons,List.map_nil,List.sum_cons,List.sum_nil]
  omega
theorem outR_child {e x:Exp}{bound out:List Str}{i:Nat}(hx:e.children[i]?=some x):(outR e bound out i).length+x.weight≤out.length+e.weight:=by
 have hi:i<e.children.length:=(List.getElem?_eq_some_iff.1 hx).1
 have h1:=outR_key (e:=e) (bound:=bound) (out:=out) i (by omega)
 have h2:=sum_take_le (e:=e) (i:=i+1)
 rw [take_next hx,List.map_append,List.sum_append] at h2
 simp only [List.map_cons,List.map_nil,List.sum_cons,List.sum_nil] at h2
 rw [e.weight_eq]
 omega
theorem bound_child {e x:Exp}{i:Nat}(hx:e.children[i]?=some x):(e.bound i).length+x.weight≤e.weight:=by
 have h1:=sum_mem (f:=Exp.weight) (List.mem_of_getElem? hx)
 have h2:(e.bound i).length≤1+(e.arms.map fun a=>a.1.vars.length).sum:=by
  unfold Exp.bound
  split
  ·simp
  ·split
   ·cases h:e.arms[i-1]? with
    | none=>simp
    | some a =>
     have:=sum_mem (f:=fun a:ArmH × Exp=>a.1.vars.length) (List.mem_of_getElem? h)
     simp only [Option.map_some,Option.getD_some]
     omega
   ·simp
 rw [e.weight_eq]
 omega
theorem free54 (e:Exp):∀ (bound out:List Str),e.wf→bound.length+e.weight≤1073741824→out.length+e.weight≤1073741824 →
 (K A).call 83 [.sc (.arr 0 out.length),strsV bound,expV e] [.arr 1 (wr (strRows out)) 0]=some (.sc (.arr 0 (freeR e bound out).length),[.arr 1 (wr (strRows (freeR e bound out))) 0]):=by
 induction e using Exp.ind with
 | h e ih =>
 intro bound out hw hbl hol
 refine fn_of (vf:=v83) (by kernel_rfl) rfl (by simp) ?_
 have hle:=e.children_le
 have hc:=children50 (A:=A) e (by rw [e.children_len] at hle;omega)
 have hb1:=has64 (A:=A) bound e.name (by omega)
 have hb2:=has64 (A:=A) out e.name (by omega)
 have hsl:=seeVar_len e bound out
 have hwp:=e.weight_pos
 unfold v83
 refine wp_seqE ⟨[(0,.sc (.arr 0 out.length)),(1,strsV bound),(5,.sc (.ptr 64 0))],[(0,some (.arr 1 (wr (strRows out)) 0)),(64,some (.box (wc e.row)))]⟩ (by simp) ?_
 refine wp_seq2E ⟨[(0,.sc (.arr 0 (seeVar e bound out).length)),(1,strsV bound),(5,.sc (.ptr 64 0)),(7,.sc (.arr 1760 e.children.length))],[(0,some (.arr 1 (wr (strRows (seeVar e bound out))) 0)),(64,some (.box (wc e.row))),(1760,some (.arr 11 (wr (Exp.rows e.children)) 0))]⟩ ?_ ?_
 ·by_cases hk:e.kind=1
  ·by_cases h1:e.name∈bound
   ·simp (disch:=first|omega|(simp;done)|(simp;omega)) [hk,h1,hb1,seeVar,hc]
   ·by_cases h2:e.name∈out
    ·simp (disch:=first|omega|(simp;done)|(simp;omega)) [hk,h1,h2,hb1,hb2,seeVar,hc]
    ·simp (disch:=first|omega|(simp;done)|(simp;omega)) [hk,h1,h2,hb1,hb2,seeVar,hc]
  ·simp (disch:=first|omega|(simp;done)|(simp;omega)) [hk,seeVar,hc]
 ·simp (disch:=first|omega|(simp;done)|(simp;omega))
  refine wp_loop (fun i=>⟨[(0,.sc (.arr 0 (outR e bound out i).length)),(1,strsV bound),(5,.sc (.ptr 64 0)),(7,.sc (.arr 1760 e.children.length)),(8,intV i)],[(0,some (.arr 1 (wr (strRows (outR e bound out i))) 0)),(64,some (.box (wc e.row))),(1760,some (.arr 11 (wr (Exp.rows e.children)) 0))]⟩) e.children.length ?_ ?_ ?_
  ·simp [outR]
  ·intro i hi
   obtain ⟨x,hx⟩:=get_of_lt hi
   have hmem:x∈e.children:=List.mem_of_getElem? hx
   have ho:=outR_child (bound:=bound) (out:=out) hx
   have hb:=bound_child hx
   have hxp:=x.weight_pos
   have h54:=ih x hmem (bound++e.bound i) (outR e bound out i) (hw.child hmem) (by simp;omega) (by omega)
   have h91:=bound91 (A:=A) e i hw.one hi (by omega)
   rw [e.children_len] at hi hle
   have hi':(i:Int)<(e.kids.length:Int)+e.arms.length:=by omega
   have hlen:(outR e bound out i).length≤(freeR x (bound++e.bound i) (outR e bound out i)).length:=freeR_ge x _ _
   unfold l83_0
   simp (disch:=first|omega|(simp;done)|(simp;omega)) [hi',hx,h54,h91,outR_succ hx,hlen,-getElem?_pos]
  ·have he:=outR_end e bound out
   rw [e.children_len] at he
   unfold l83_0
   simp (disch:=first|omega|(simp;done)|(simp;omega)) [he]
theorem free20 (e:Exp)(hw:e.wf)(hl:e.weight≤1073741824):(K A).call 32 [expV e] []=some (strsV (freeR e [] []),[]):=by
 refine fn_of (vf:=v32) (by kernel_rfl) rfl (by simp) ?_
 have h:=free54 (A:=A) e [] [] hw (by simpa using hl) (by simpa using hl)
 have hn:strRows []=[]:=rfl
 simp [strsV,hn] at h
 unfold v32
 simp [h,hn]
theorem mem_addNew {b out:List Str}{s t:Str}:t∈addNew b out s↔t∈out∨(t=s∧s∉b):=by
 unfold addNew
 split
 ·rename_i h
  constructor
  ·exact .inl
  ·rintro (h1|⟨rfl,h1⟩)
   ·exact h1
   ·exact h.resolve_left h1
 ·rename_i h
  have:s∉b:=fun h1=>h (.inl h1)
  simp [this]
theorem mem_foldNew {b:List Str}:∀ {l out:List Str}{t:Str},t∈l.foldl (addNew b) out↔t∈out∨(t∈l∧t∉b)
 | [],out,t=>by simp
 | s::l,out,t=>by
  rw [List.foldl_cons,mem_foldNew,mem_addNew,List.mem_cons]
  constructor
  ·rintro ((h|⟨rfl,h⟩)|⟨h1,h2⟩)
   ·exact .inl h
   ·exact .inr ⟨.inl rfl,h⟩
   ·exact .inr ⟨.inr h1,h2⟩
  ·rintro (h|⟨rfl|h1,h2⟩)
   ·exact .inl (.inl h)
   ·exact .inl (.inr ⟨rfl,h2⟩)
   ·exact .inr ⟨h1,h2⟩
theorem addNew_pos {b out:List Str}{s:Str}(h:s∈b∨s∈out):addNew b out s=out:=if_pos h
theorem addNew_neg {b out:List Str}{s:Str}(h:¬(s∈b∨s∈out)):addNew b out s=out++[s]:=if_neg h
theorem fold_fold {bound b:List Str}:∀ (l acc out:List Str),(l.foldl (addNew b) acc).foldl (addNew bound) out=l.foldl (addNew (bound++b)) (acc.foldl (addNew bound) out)
 | [],acc,out=>rfl
 | s::l,acc,out=>by
  rw [List.foldl_cons,List.foldl_cons,fold_fold l]
  congr 1
  by_cases hb:s∈b
  ·rw [addNew_pos (.inl hb),addNew_pos (.inl (by simp [hb]))]
  ·by_cases ha:s∈acc
   ·rw [addNew_pos (.inr ha)]
    by_cases h:s∈bound
    ·rw [addNew_pos (.inl (by simp [h]))]
    ·rw [addNew_pos (.inr (mem_foldNew.2 (.inr ⟨ha,h⟩)))]
   ·rw [addNew_neg (b:=b) (fun h=>h.elim hb ha),List.foldl_append,List.foldl_cons,List.foldl_nil]
    by_cases h:s∈bound∨s∈acc.foldl (addNew bound) out
    ·rw [addNew_pos h,addNew_pos (h.imp (fun h=>by simp [h]) id)]
    ·rw [addNew_neg h,addNew_neg]
     rintro (h3|h3)
     ·exact (List.mem_append.1 h3).elim (fun h4=>h (.inl h4)) hb
     ·exact h (.inr h3)
theorem freeR_free (e:Exp):e.wf→∀ bound out:List Str,freeR e bound out=(freeP e).foldl (addNew bound) out:=by
 induction e using Exp.ind with
 | h e ih =>
  intro hw bound out
  rw [freeR_eq,freeP_eq]
  by_cases hk:e.kind=1
  ·have hch:e.children=[]:=by
    have h1:=hw.one.2.2 hk
    have h2:=hw.one.2.1 (by rw [hk];decide)
    simp [Exp.children,h1,h2]
   rw [if_pos hk,hch]
   simp only [List.map_nil,List.zipIdx_nil,List.foldl_nil,List.foldl_cons,seeVar,hk,true_and]
   by_cases h:e.name∈bound∨e.name∈out
   ·rw [addNew_pos h,if_neg (fun h1=>h.elim h1.1 h1.2)]
   ·rw [addNew_neg h,if_pos ⟨fun h1=>h (.inl h1),fun h1=>h (.inr h1)⟩]
  ·rw [if_neg hk]
   have hs:seeVar e bound out=out:=by
    unfold seeVar
    rw [if_neg (fun h=>hk h.1)]
   rw [hs]
   have key:∀ (l:List Exp) (i:Nat) (acc:List Str),(∀ x∈l,x∈e.children)→((l.map freeR).zipIdx i).foldl (stepR e bound) (acc.foldl (addNew bound) out)=(((l.map freeP).zipIdx i).foldl (addAll e) acc).foldl (addNew bound) out:=by
    intro l
    induction l with
    | nil=>intro i acc _;rfl
    | cons x l ihl =>
     intro i acc hmem
     rw [List.map_cons,List.map_cons,List.zipIdx_cons,List.zipIdx_cons,List.foldl_cons,List.foldl_cons,←ihl (i+1) _ fun y hy=>hmem y (List.mem_cons_of_mem _ hy)]
     congr 1
     have hx:=hmem x (by simp)
     show freeR x (bound++e.bound i) _=((freeP x).foldl (addNew (e.bound i)) acc).foldl (addNew bound) out
     rw [ih x hx (hw.child hx),fold_fold]
   exact key e.children 0 [] fun x hx=>hx
theorem addNew_nodup {b out:List Str}{s:Str}(h:out.Nodup):(addNew b out s).Nodup:=by
 unfold addNew
 split
 ·exact h
 ·rename_i hn
  rw [List.nodup_append]
  refine ⟨h,by simp,?_⟩
  intro x hx y hy
  simp only [List.mem_singleton] at hy
  subst hy
  rintro rfl
  exact hn (.inr hx)
theorem foldNew_nodup {b:List Str}:∀ {l out:List Str},out.Nodup→(l.foldl (addNew b) out).Nodup
 | [],_,h=>h
 | _::l,_,h=>foldNew_nodup (l:=l) (addNew_nodup h)
theorem foldAll_nodup {e:Exp}:∀ {l:List (List Str × Nat)}{out:List Str},out.Nodup→(l.foldl (addAll e) out).Nodup
 | [],_,h=>h
 | _::l,_,h=>foldAll_nodup (l:=l) (foldNew_nodup h)
theorem freeP_nodup (e:Exp):(freeP e).Nodup:=by
 rw [freeP_eq]
 split
 ·simp
 ·exact foldAll_nodup List.nodup_nil
theorem foldNew_id:∀ {l out:List Str},(out++l).Nodup→l.foldl (addNew []) out=out++l
 | [],out,_=>by simp
 | s::l,out,h=>by
  have hs:s∉out:=by
   rw [List.nodup_append] at h
   exact fun hs=>h.2.2 s hs s (by simp) rfl
  have he:addNew [] out s=out++[s]:=by
   unfold addNew
   rw [if_neg (by simpa using hs)]
  rw [List.foldl_cons,he,foldNew_id (by simpa using h)]
  simp
theorem free_same (e:Exp)(hw:e.wf):freeR e [] []=freeP e:=by
 rw [freeR_free e hw,foldNew_id (by simpa using freeP_nodup e)]
 simp
variable {A:Oracle}
theorem fn_ofE {f:FuncId}{vf:VFun}{args:List V}{objs:List Obj}(P:V × List Obj→Prop)(hT:T2 f=some vf)(hn:args.length=vf.nparams)(ho:objs.length≤64)
 (h:wp (K A) vf.body (endsQ vf.keep objs.length vf.results P) ⟨enumF 0 args,enumF 0 (objs.map some)⟩):∃ r,P r∧(K A).call f args objs=some r:=lim_wpE P hT hn ho h
def intRows (l:List Int):List (List Cell):=l.map intRow
@[simp] theorem intRows_len (l:List Int):(intRows l).length=l.length:=by simp [intRows]
@[simp] theorem intRows_get (l:List Int) (i:Nat):(intRows l)[i]?=(l[i]?).map intRow:=by simp [intRows]
@[simp] theorem cut_i (n:Int):cut (intRow n) 0 1=some [.int .i64 n]:=rfl
abbrev tapeO (L:List Int)(I:Nat):Obj:=.box [.c (.sl (intRows L)),.c (.int .i64 I)]
abbrev datasV (ds:List DataD):V:=.sc (.c (.sl (dataRows ds)))
abbrev tyV (t:Ty):V:=.ag (wc t.row)
theorem mod10 (a m:Int)(hm:0<m)(hb:m≤1073741824):∃ k:Nat,(k:Int)<m∧(K A).call 27 [intV a,intV m] []=some (intV k,[]):=by
 have h1:¬m<1:=by omega
 have h0:m≠0:=by omega
 have hlt:a.tmod m<m:=Int.tmod_lt_of_pos a (by omega)
 have hgt:-m<a.tmod m:=Int.lt_tmod_of_pos a (by omega)
 by_cases hneg:a.tmod m<0
 ·refine ⟨(a.tmod m+m).toNat,by omega,?_⟩
  have hw:((a.tmod m+m).toNat:Int)=a.tmod m+m:=by omega
  rw [hw]
  refine fn_of (vf:=v27) (by kernel_rfl) rfl (by simp) ?_
  unfold v27
  simp (disch:=first|omega|(simp;done)|(simp;omega)) [h1,h0,hneg]
 ·refine ⟨(a.tmod m).toNat,by omega,?_⟩
  have hw:((a.tmod m).toNat:Int)=a.tmod m:=by omega
  rw [hw]
  refine fn_of (vf:=v27) (by kernel_rfl) rfl (by simp) ?_
  unfold v27
  simp (disch:=first|omega|(simp;done)|(simp;omega)) [h1,h0,hneg]
theorem next37 (L:List Int)(I:Nat)(n:Int)(hI:I≤L.length)(hL:L.length≤1073741824)(hn:0<n)(hb:n≤1073741824) :
 ∃ k J:Nat,(k:Int)<n∧J≤L.length∧(K A).call 53 [.sc (.ptr 0 0),intV n] [tapeO L I]=some (intV k,[tapeO L J]):=by
 by_cases h:I<L.length
 ·obtain ⟨a,ha⟩:=get_of_lt h
  obtain ⟨k,hk,hc⟩:=mod10 (A:=A) a n hn hb
  refine ⟨k,I+1,hk,h,?_⟩
  refine fn_of (vf:=v53) (by kernel_rfl) rfl (by simp) ?_
  have h1:¬L.length≤I:=by omega
  unfold v53
  simp (disch:=first|omega|(simp;done)|(simp;omega)) [h1,ha,hc,-getElem?_pos]
 ·refine ⟨0,I,hn,hI,?_⟩
  refine fn_of (vf:=v53) (by kernel_rfl) rfl (by simp) ?_
  have h1:L.length≤I:=by omega
  unfold v53
  simp (disch:=first|omega|(simp;done)|(simp;omega)) [h1,-getElem?_pos]
def varNames:List Str:=[[120],[121],[122],[102],[103],[118,49],[118,50],[105,100]]
theorem variable38 (L:List Int)(I:Nat)(hI:I≤L.length)(hL:L.length≤1073741824) :
 ∃ s J,s∈varNames∧J≤L.length∧(K A).call 34 [.sc (.ptr 0 0)] [tapeO L I]=some (strV s,[tapeO L J]):=by
 obtain ⟨k,J,hk,hJ,hc⟩:=next37 (A:=A) L I 8 hI hL (by omega) (by omega)
 obtain ⟨s,hs⟩:=get_of_lt (l:=varNames) (i:=k) (by simp only [varNames,List.length_cons,List.length_nil];omega)
 refine ⟨s,J,List.mem_of_getElem? hs,hJ,?_⟩
 refine fn_of (vf:=v34) (by kernel_rfl) rfl (by simp) ?_
 have hr:(wr (strRows varNames))[k]?=some [.c (.str s)]:=by simp [hs]
 have hw:wr (strRows varNames)=[[.c (.str [120])],[.c (.str [121])],[.c (.str [122])],[.c (.str [102])],[.c (.str [103])],[.c (.str [118,49])],[.c (.str [118,50])],[.c (.str [105,100])]]:=rfl
 rw [hw] at hr
 unfold v34
 simp (disch:=first|omega|(simp;done)|(simp;omega)) [hc,hr,-getElem?_pos]
theorem con65 (s:Str)(l:List Ty)(hl:l.length≤1073741824):(K A).call 100 [strV s,.sc (.c (.sl (Ty.rows l)))] []=some (tyV (.mk 4 s 0 0 l),[]):=by
 refine fn_of (vf:=v100) (by kernel_rfl) rfl (by simp) ?_
 unfold v100
 cases l with
 | nil =>
  have hn:Ty.rows []=[]:=by rw [Ty.rows]
  simp (disch:=first|omega|(simp;done)|(simp;omega)) [hn,Ty.row]
 | cons t l =>
  have hn:Ty.rows (t::l)=t.row::Ty.rows l:=by rw [Ty.rows]
  have hok:=okRows_ty (t::l)
  rw [hn,wr_cons] at hok
  simp only [List.length_cons] at hl
  simp (disch:=first|omega|(simp;done)|(simp;omega)) [hn,hok,Ty.row]
theorem int29:(K A).call 47 [] []=some (tyV (.mk 4 [73,110,116] 0 0 []),[]):=by
 refine fn_of (vf:=v47) (by kernel_rfl) rfl (by simp) ?_
 have hn:Ty.rows []=[]:=by rw [Ty.rows]
 have h:=con65 (A:=A) [73,110,116] [] (by simp)
 simp [hn] at h
 unfold v47
 simp (disch:=first|omega|(simp;done)|(simp;omega)) [h]
theorem arrow79 (a b:Ty):(K A).call 128 [tyV a,tyV b] []=some (tyV (.mk 4 [45,62] 0 0 [a,b]),[]):=by
 refine fn_of (vf:=v128) (by kernel_rfl) rfl (by simp) ?_
 have hn:Ty.rows [a,b]=[a.row,b.row]:=by simp [Ty.rows]
 have h:=con65 (A:=A) [45,62] [a,b] (by simp)
 rw [hn] at h
 unfold v128
 simp (disch:=first|omega|(simp;done)|(simp;omega)) [h]
def goodD (d:DataD):Prop:=d.params.length≤4∧1≤d.cons.length∧d.cons.length≤6∧∀ c∈d.cons,c.fields.length≤4
def goodDs (ds:List DataD):Prop:=ds.length≤100∧∀ d∈ds,goodD d
def TypeP (L:List Int)(r:V × List Obj):Prop:=∃ t J,J≤L.length∧r=(tyV t,[tapeO L J])
def TypeI (L:List Int)(ds:List DataD)(dd:DataD)(d i:Nat)(s:St):Prop:=∃ tys J,tys.length=i∧J≤L.length ∧
 s=⟨[(0,.sc (.ptr 0 0)),(1,datasV ds),(2,.sc (.c (.sl []))),(3,intV (d+1)),(8,.sc (.ptr 64 0)),(10,.sc (.ptr 3392 0)),(11,.sc (.arr 3521 i)),(12,intV i)],
  [(0,some (tapeO L J)),(64,some (.box [zi,zs,zi,zi,.nil])),(3392,some (.box (wc (dataRow dd)))),(3521,some (.arr 5 (wr (Ty.rows tys)) 0))]⟩
variable {A:Oracle}
def tz:Ty:=.mk 0 [] 0 0 []
@[simp] theorem strRows0:strRows []=[]:=rfl
@[simp] theorem rows0:Exp.rows []=[]:=by rw [Exp.rows]
@[simp] theorem rows1 (x:Exp):Exp.rows [x]=[x.row]:=by rw [Exp.rows,Exp.rows]
@[simp] theorem rows2 (x y:Exp):Exp.rows [x,y]=[x.row,y.row]:=by rw [Exp.rows,Exp.rows,Exp.rows]
@[simp] theorem armRows0:Exp.armRows []=[]:=by rw [Exp.armRows]
@[simp] theorem tyRows0:Ty.rows []=[]:=by rw [Ty.rows]
def RawP (L:List Int)(B:Nat)(r:V × List Obj):Prop:=∃ e J,e.wf∧e.weight≤B∧J≤L.length∧r=(expV e,[tapeO L J])
theorem weight_mk (k p n m ks l t):(Exp.mk k p n m ks l t).weight=1+(l.map fun a=>a.1.vars.length).sum+((ks.map Exp.weight).sum+(l.map fun a=>a.2.weight).sum):=by
 rw [Exp.weight_eq]
 simp [Exp.children,Exp.arms,Exp.kids,List.map_map,Function.comp_def]
def ArmI (L:List Int)(ds:List DataD)(dd:DataD)(x:Exp)(B d i:Nat)(s:St):Prop:=∃ arms J,arms.length=i∧J≤L.length∧(∀ a∈arms,a.2.wf∧a.2.weight≤B∧a.1.vars.length≤4) ∧
 s=⟨[(0,.sc (.ptr 0 0)),(1,datasV ds),(2,intV (d+1)),(6,.sc (.ptr 64 0)),(13,.sc (.ptr 10176 0)),(14,.sc (.ptr 10752 0)),(15,intV i)],
  [(0,some (tapeO L J)),(64,some (.box [zi,zi,zs,zi,.nil,.nil,zi,zs,zi,zi,.nil])),(10176,some (.box (wc (dataRow dd)))),(10624,some (.arr 11 [wc x.row] 0)),
    (10752,some (.box [.c (.int .i64 8),zi,zs,zi,.arr 10624 1,.arr 10822 i,zi,zs,zi,zi,.nil])),(10822,some (.arr 14 (wr (Exp.armRows arms)) 0))]⟩
def VarI (L:List Int)(ds:List DataD)(dd:DataD)(x:Exp)(arms:List (ArmH × Exp))(con:Str)(d i j:Nat)(s:St):Prop:=∃ vars J,vars.length=j∧J≤L.length ∧
 s=⟨[(0,.sc (.ptr 0 0)),(1,datasV ds),(2,intV (d+1)),(6,.sc (.ptr 64 0)),(13,.sc (.ptr 10176 0)),(14,.sc (.ptr 10752 0)),(15,intV i),(16,.sc (.ptr 11712 0)),(17,intV j)],
  [(0,some (tapeO L J)),(64,some (.box [zi,zi,zs,zi,.nil,.nil,zi,zs,zi,zi,.nil])),(10176,some (.box (wc (dataRow dd)))),(10624,some (.arr 11 [wc x.row] 0)),
    (10752,some (.box [.c (.int .i64 8),zi,zs,zi,.arr 10624 1,.arr 10822 i,zi,zs,zi,zi,.nil])),(10822,some (.arr 14 (wr (Exp.armRows arms)) 0)),
    (11712,some (.box [zi,.c (.str con),.arr 11779 j,zi,zi,zs,zi,.nil,.nil,zi,zs,zi,zi,.nil])),(11779,some (.arr 1 (wr (strRows vars)) 0))]⟩
theorem wp_assocE {C:Ctx}{a b c:VCode}{Q:Ex→St→Prop}{s:St}(s1:St)(h1:wp C a (fun e s=>e=.normal∧s=s1) s)(h2:wp C (.seq b c) Q s1):wp C (.seq (.seq a b) c) Q s:=by
 rw [wp_seq,wp_seq]
 refine wp_mono h1 ?_
 rintro e s' ⟨rfl,rfl⟩
 simp only [thenQ]
 rw [wp_seq] at h2
 exact h2
variable {A:Oracle}
def DatasP (ds7:List DataD)(r:V × List Obj):Prop:=∃ ds,(∀ d∈ds,d∈ds7)∧goodDs ds∧r=(datasV ds,[])
def DatasI (bits:Int)(ds7:List DataD)(i:Nat)(s:St):Prop:=∃ ds:List DataD,ds.length≤i+1∧(∀ d∈ds,d∈ds7∧goodD d) ∧
 s=⟨[(0,intV bits),(3,datasV ds7),(4,.sc (.arr 257 ds.length)),(5,intV i)],[(257,some (.arr 4 (wr (dataRows ds)) 0))]⟩
@[simp] theorem dataRows0:dataRows []=[]:=rfl
@[simp] theorem dataRows1 (d:DataD):wr (dataRows [d])=[wc (dataRow d)]:=rfl
theorem datas21 (bits:Int)(ds7:List DataD)(h7:ds7.length=7)(hg:∀ d∈ds7,goodD d)(h55:(K A).call 71 [] []=some (datasV ds7,[])) :
 ∃ r,DatasP ds7 r∧(K A).call 23 [intV bits] []=some r:=by
 refine fn_ofE _ (vf:=v23) (by kernel_rfl) rfl (by simp) ?_
 obtain ⟨d1,hd1⟩:=get_of_lt (l:=ds7) (i:=1) (by omega)
 have hgd1:=hg d1 (List.mem_of_getElem? hd1)
 have fin:∀ s,DatasI bits ds7 0 s→wp (K A) (.loop l23_0) (blockQ 0 (thenQ (K A) (.seq (.region [] [o 44 (.mv (tv 4)),o 2 (.mv (tv 44))] [] [2]) .ret) (endsQ false 0 [.tmp 2] (DatasP ds7)))) s:=by
  intro s hs
  refine wp_loopI (DatasI bits ds7) 7 hs ?_ ?_
  ·rintro i s hi ⟨ds,hds1,hds2,rfl⟩
   obtain ⟨d,hd⟩:=get_of_lt (l:=ds7) (i:=i) (by omega)
   have hgd:=hg d (List.mem_of_getElem? hd)
   have hi2:(i:Int)<7:=by omega
   unfold l23_0
   by_cases hi1:i=1
   ·subst hi1
    simp (disch:=first|omega|(simp;done)|(simp;omega)) [h7,hd,-getElem?_pos]
    exact ⟨ds,by omega,hds2,by simp⟩
   ·have hi1':¬(i:Int)=1:=by omega
    by_cases hb:andI .i64 (shrI .i64 bits i) 1=1
    ·simp (disch:=first|omega|(simp;done)|(simp;omega)) [h7,hd,hi2,hi1',hb,-getElem?_pos]
     refine ⟨ds++[d],by simp;omega,?_,by simp⟩
     intro x hx
     rcases List.mem_append.1 hx with hx|hx
     ·exact hds2 x hx
     ·simp only [List.mem_singleton] at hx
      exact hx▸⟨List.mem_of_getElem? hd,hgd⟩
    ·simp (disch:=first|omega|(simp;done)|(simp;omega)) [h7,hd,hi2,hi1',hb,-getElem?_pos]
     exact ⟨ds,by omega,hds2,by simp⟩
  ·rintro s ⟨ds,hds1,hds2,rfl⟩
   unfold l23_0
   simp (disch:=first|omega|(simp;done)|(simp;omega)) [h7,-getElem?_pos]
   exact ⟨ds,fun d hd=>(hds2 d hd).1,⟨by omega,fun d hd=>(hds2 d hd).2⟩,rfl⟩
 unfold v23
 by_cases h1:andI .i64 bits 2=0
 ·by_cases h2:andI .i64 bits 64=0
  ·simp (disch:=first|omega|(simp;done)|(simp;omega)) [h55,h1,h2,-getElem?_pos]
   exact fin _ ⟨[],by simp,by simp,by simp⟩
  ·simp (disch:=first|omega|(simp;done)|(simp;omega)) [h55,h1,h2,h7,hd1,-getElem?_pos]
   exact fin _ ⟨[d1],by simp,by simp [hgd1,List.mem_of_getElem? hd1],by simp⟩
 ·simp (disch:=first|omega|(simp;done)|(simp;omega)) [h55,h1,h7,hd1,-getElem?_pos]
  exact fin _ ⟨[d1],by simp,by simp [hgd1,List.mem_of_getElem? hd1],by simp⟩
def MadeP (L:List Int)(r:V × List Obj):Prop:=∃ a b J,a.wf∧a.weight≤32 ^ 4∧b.wf∧b.weight≤32 ^ 3∧J≤L.length∧r=(.tu [expV a,expV b,.sc (.ptr 0 0)],[tapeO L J])
def BoolP (r:V × List Obj):Prop:=∃ b,r=(boolV b,[])
def numS (n:Nat):Str:=if h:n<10 then [UInt8.ofNat (48+n)] else numS (n / 10)++[UInt8.ofNat (48+n % 10)]
termination_by n
decreasing_by omega
theorem numS_lt {n:Nat}(h:n<10):numS n=[UInt8.ofNat (48+n)]:=by rw [numS,dif_pos h]
theorem numS_ge {n:Nat}(h:¬n<10):numS n=numS (n / 10)++[UInt8.ofNat (48+n % 10)]:=by rw [numS,dif_neg h]
theorem numS_pos (n:Nat):1≤(numS n).length:=by
 by_cases h:n<10
 ·simp [numS_lt h]
 ·simp [numS_ge h]
theorem dig_inj {a b:Nat}(ha:a<10)(hb:b<10)(h:UInt8.ofNat (48+a)=UInt8.ofNat (48+b)):a=b:=by
 have:=congrArg UInt8.toNat h
 simp [UInt8.toNat_ofNat'] at this
 omega
theorem numS_inj:∀ (n m:Nat),numS n=numS m→n=m:=by
 intro n
 induction n using Nat.strongRecOn with
 | ind n ih =>
  intro m h
  by_cases hn:n<10
  ·by_cases hm:m<10
   ·rw [numS_lt hn,numS_lt hm] at h
    exact dig_inj hn hm (by simpa using h)
   ·have:=congrArg List.length h
    rw [numS_lt hn,numS_ge hm] at this
    have h2:=numS_pos (m / 10)
    simp only [List.length_singleton,List.length_append] at this
    omega
  ·by_cases hm:m<10
   ·have:=congrArg List.length h
    rw [numS_lt hm,numS_ge hn] at this
    have h2:=numS_pos (n / 10)
    simp only [List.length_singleton,List.length_append] at this
    omega
   ·rw [numS_ge hn,numS_ge hm] at h
    obtain ⟨h1,h2⟩:=List.append_inj' h (by simp)
    have h3:=ih (n / 10) (by omega) _ h1
    have h4:=dig_inj (Nat.mod_lt _ (by omega)) (Nat.mod_lt _ (by omega)) (by simpa using h2)
    omega
theorem numS_len (n:Nat):∀ k,n<10 ^ k→1≤k→(numS n).length≤k:=by
 induction n using Nat.strongRecOn with
 | ind n ih =>
  intro k hk h1
  by_cases hn:n<10
  ·simp [numS_lt hn];exact h1
  ·obtain ⟨k,rfl⟩:∃ j,k=j+1:=⟨k-1,by omega⟩
   have hk1:1≤k:=by
    rcases Nat.eq_zero_or_pos k with rfl|h
    ·simp at hk;omega
    ·exact h
   have:=ih (n / 10) (by omega) k (by rw [Nat.pow_succ] at hk;omega) hk1
   simp [numS_ge hn]
   omega
def vName (k:Nat):Str:=118::numS k
theorem vName_inj {a b:Nat}(h:vName a=vName b):a=b:=numS_inj a b (by simpa [vName] using h)
noncomputable def vCount (l:List Str)(k:Nat):Nat:=match l with
 | []=>0
 | s::r=>(open Classical in if ∃ j,k≤j∧s=vName j then 1 else 0)+vCount r k
theorem vCount_le (l:List Str)(k:Nat):vCount l k≤l.length:=by
 induction l with
 | nil=>simp [vCount]
 | cons s r ih=>simp only [vCount,List.length_cons];split<;>omega
theorem vCount_mono (l:List Str)(k:Nat):vCount l (k+1)≤vCount l k:=by
 induction l with
 | nil=>simp [vCount]
 | cons s r ih =>
  simp only [vCount]
  split
  ·rename_i h
   obtain ⟨j,h1,h2⟩:=h
   rw [if_pos ⟨j,by omega,h2⟩]
   omega
  ·split<;>omega
theorem vCount_lt {l:List Str}{k:Nat}(h:vName k∈l):vCount l (k+1)<vCount l k:=by
 induction l with
 | nil=>simp at h
 | cons s r ih =>
  have hm:=vCount_mono r k
  simp only [vCount]
  rcases List.mem_cons.1 h with rfl|h
  ·rw [if_neg,if_pos ⟨k,Nat.le_refl _,rfl⟩]
   ·omega
   ·rintro ⟨j,h1,h2⟩
    have:=vName_inj h2
    omega
  ·have:=ih h
   split
   ·rename_i h3
    obtain ⟨j,h1,h2⟩:=h3
    rw [if_pos ⟨j,by omega,h2⟩]
    omega
   ·split<;>omega
def freshF (taken:List Str):Nat→Nat→Nat→Nat
 | 0,k,_=>k
 | f+1,k,n=>if vName k∈taken then freshF taken f (k+1) n else if n=0 then k else freshF taken f (k+1) (n-1)
theorem freshF_ge (taken:List Str):∀ f k n,k≤freshF taken f k n
 | 0,k,n=>Nat.le_refl _
 | f+1,k,n=>by
  simp only [freshF]
  split
  ·exact Nat.le_trans (by omega) (freshF_ge taken f (k+1) n)
  ·split
   ·exact Nat.le_refl _
   ·exact Nat.le_trans (by omega) (freshF_ge taken f (k+1) (n-1))
theorem freshF_le (taken:List Str):∀ f k n,freshF taken f k n≤k+f
 | 0,k,n=>by simp [freshF]
 | f+1,k,n=>by
  simp only [freshF]
  have h1:=freshF_le taken f (k+1) n
  have h2:=freshF_le taken f (k+1) (n-1)
  split
  ·omega
  ·split<;>omega
theorem freshF_not (taken:List Str):∀ f k n,n+vCount taken k<f→vName (freshF taken f k n)∉taken
 | 0,k,n,h=>by omega
 | f+1,k,n,h=>by
  simp only [freshF]
  split
  ·rename_i hm
   exact freshF_not taken f (k+1) n (by have:=vCount_lt hm;omega)
  ·rename_i hm
   split
   ·exact hm
   ·exact freshF_not taken f (k+1) (n-1) (by have:=vCount_mono taken k;omega)
def freshK (n:Nat)(taken:List Str):Nat:=freshF taken (n+taken.length+1) 1 n
def freshS (n:Nat)(taken:List Str):Str:=vName (freshK n taken)
theorem freshK_le (n:Nat)(taken:List Str):freshK n taken≤n+taken.length+2:=by
 have:=freshF_le taken (n+taken.length+1) 1 n
 unfold freshK
 omega
theorem freshS_not (n:Nat)(taken:List Str):freshS n taken∉taken:=freshF_not taken _ _ _ (by have:=vCount_le taken 1;omega)
end Go.Vs.Tryz
namespace Go.Vs
open Go
section
variable {C:Ctx}{E:Nat→Option V}{L:Nat→Option Obj}{oid:Nat}
@[simp] theorem b_quo {k:IntKind} {a b:Int} (h:b≠0):binV .quo 0 (.sc (.c (.int k a))) (.sc (.c (.int k b)))=some (.sc (.c (.int k (k.wrap (a.tdiv b)))),[]):=by simp [binV,binW,isShift,intBin,h,wrapI]
@[simp] theorem x_slS {x:Opd} {lo hi:Option Opd}:exec1 C E L oid (.slS x lo hi)=(match x.val C E with
 | .sc (.c (.str s))=>match boundOr (hi.map (·.val C E)) s.length s.length with
  | none=>none
  | some h=>(boundOr (lo.map (·.val C E)) 0 h).map fun l=>(.sc (.c (.str ((s.take h).drop l))),[])
 | _=>none):=rfl
end
end Go.Vs
namespace Go.Vs.Tryz
open Go Go.Vs
variable {A:Oracle}
def digits:Str:=[48,49,50,51,52,53,54,55,56,57]
end Go.Vs.Tryz
