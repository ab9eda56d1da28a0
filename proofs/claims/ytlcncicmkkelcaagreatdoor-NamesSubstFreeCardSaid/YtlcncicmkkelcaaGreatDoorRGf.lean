/- Substitution by the program, walked. (Parts of one proof, put together.) -/
import Derived.Test.YtlcncicmkkelcaaGreatDoorRFf
set_option linter.unusedSimpArgs false
set_option linter.unusedVariables false
set_option linter.deprecated false
set_option maxHeartbeats 64000000
set_option maxRecDepth 20000
namespace Go.Vs.Tryz
open Go Go.Vs
variable {A:Oracle}
theorem prep_weight {x:Str}{b e e':Exp}(h:PrepOk x b e e'):e'.weight=e.weight:=by
 rw [e'.weight_eq,e.weight_eq,h.sum]
 congr 2
 refine List.ext_getElem? fun i => ?_
 rw [List.getElem?_map,List.getElem?_map]
 by_cases hi:i<e.children.length
 ·obtain ⟨x0,h0⟩:=get_of_lt hi
  obtain ⟨x1,h1⟩:=get_of_lt (l:=e'.children) (i:=i) (by rw [prep_kids h];exact hi)
  rw [h0,h1]
  simp only [Option.map_some,(h.kids i x0 x1 h0 h1).weight]
 ·have h1:e'.children[i]?=none:=List.getElem?_eq_none (by rw [prep_kids h];omega)
  have h2:e.children[i]?=none:=List.getElem?_eq_none (by omega)
  rw [h1,h2]
theorem prep_nmL {x:Str}{b e:Exp}(hs:shp e)(hp:properP e)(hn:nmL e)(hl:e.weight+(freeP b).length≤67108864):∀ y∈(prepP x (freeP b) e).children,nmL y:=by
 intro y hy
 obtain ⟨i,hi⟩:=List.mem_iff_getElem?.1 hy
 have hal:=allP_len e hs.wf
 unfold prepP at hi
 by_cases h:e.kind=4∨e.kind=6∨e.kind=7
 ·rw [if_pos h] at hi
  obtain ⟨ha,hc⟩:=binder_children (by omega) hs.one
  unfold binderP at hi
  split at hi
  ·exact hn.child hi
  ·have hc':∀ to ks,(Exp.mk e.kind e.pos to e.num ks e.arms e.ty).children=ks:=fun to ks=>by rw [children_mk,ha];simp
   rw [hc'] at hi
   have hlt:=(List.getElem?_eq_some_iff.1 hi).1
   simp only [List.length_map,List.length_zipIdx] at hlt
   obtain ⟨z,hz⟩:=get_of_lt hlt
   simp only [List.getElem?_map,List.getElem?_zipIdx,hz,Option.map_some,Nat.zero_add,Option.some.injEq] at hi
   subst hi
   have hnz:nmL z:=hn.child (i:=i) (by rw [hc];exact hz)
   split
   ·exact hnz
   ·exact repl_nmL hnz (fresh_len _ _ (by simp;omega))
 ·rw [if_neg h] at hi
  by_cases h8:e.kind=8
  ·rw [if_pos h8,children_mk] at hi
   rcases Nat.lt_or_ge i e.kids.length with hk|hk
   ·rw [List.getElem?_append_left hk] at hi
    exact hn.child (i:=i) (kid_child hi)
   ·rw [List.getElem?_append_right hk,List.getElem?_map] at hi
    obtain ⟨q,hq,rfl⟩:=Option.map_eq_some_iff.1 hi
    rw [List.getElem?_map] at hq
    obtain ⟨p,hp',rfl⟩:=Option.map_eq_some_iff.1 hq
    have hm:=List.mem_of_getElem? hp'
    have hnp:nmL p.2:=hn.child (arm_child hp')
    have hvl:=Exp.vars_le hm
    have hwl:=Exp.child_lt (arm_mem hm)
    unfold armP
    split
    ·exact hnp
    ·rename_i hx
     refine (armTo_nmL (free:=freeP b) (hp.one p hm) hx (hs.child (arm_mem hm)) (hp.child (arm_mem hm)) (by omega) hnp (fun s hs' => ?_) p.1.vars.length (Nat.le_refl _)).1
     refine hn s (mem_allP.2 (.inr ⟨e.kids.length+(i-e.kids.length),p.2,arm_child hp',.inl ?_⟩))
     have hk1:=hs.one.1.1 h8
     rw [bound_some,if_neg (by omega),if_pos ⟨h8,by omega⟩,hk1,show 1+(i-1)-1=i-1 by omega,←hk1,hp']
     exact hs'
  ·rw [if_neg h8] at hi
   exact hn.child hi
theorem arms_cons {l:List (ArmH × Exp)}(h:l≠[]):∃ c rows,Exp.armRows l=c::rows:=by
 cases l with
 | nil=>exact absurd rfl h
 | cons e r=>obtain ⟨a,b⟩:=e;exact ⟨_,Exp.armRows r,by rw [Exp.armRows]⟩
theorem clone144 (l:List (ArmH × Exp))(hl:l.length≤4294967296):(K A).call 144 [armsV l] []=some (.sc (.arr 0 l.length),[.arr 14 (wr (Exp.armRows l)) 0]):=by
 by_cases h:l=[]
 ·subst h
  have hr:Exp.armRows []=[]:=by rw [Exp.armRows]
  rw [hr]
  exact clone_own (by kernel_rfl) (by kernel_rfl) (by kernel_rfl) (by kernel_rfl)
 ·obtain ⟨c,rows,hr⟩:=arms_cons h
  have hlen:rows.length+1=l.length:=by
   have:=Exp.armRows_len l
   rw [hr] at this
   simpa using this
  have hok:okRows 14 (wr (c::rows))=true:=hr▸okRows_arm l
  have hp:armsV l=V.sc (.c (.sl (c::rows))):=by rw [←hr]
  rw [hr,hp,clone_data (by kernel_rfl) (by kernel_rfl)]
  refine clone_fn (vf:=v144) (by kernel_rfl) rfl (by decide) ?_
  unfold v144
  rw [wr_cons] at hok
  simp (disch:=first|omega|(simp;done)|(simp;omega)) [hok]
  omega
theorem expCs_eq (e:Exp):wc e.row=[.c (.int .i64 e.kind),.c (.int .i64 e.pos),.c (.str e.name),.c (.int .i64 e.num),.c (.sl (Exp.rows e.kids)),.c (.sl (Exp.armRows e.arms)),.c (.int .i64 e.ty.kind),.c (.str e.ty.name),.c (.int .i64 e.ty.id),.c (.int .i64 e.ty.home),.c (.sl (Ty.rows e.ty.args))]:=by rw [Exp.row_eq];rfl
theorem loop82P (x:Str)(b:Exp)(free:List Str)(n:Nat)(e:Exp)(hw:e.wf1)(hl:e.weight≤67108864)(hrec:∀ y∈e.children,(K A).call 82 [.ag (subCs x b free),expV y] []=some (expV (subN n y x b),[])) :
 wp (K A) (.loop l82_1) (fun ex s=>ex=.exit 3∧s=⟨[(2,.sc (.ptr 64 0)),(3,.sc (.ptr 128 0)),(4,.sc (.ptr 192 0)),(7,.sc (.arr 3680 (e.kids.length+e.arms.length))),(53,.sc (.arr 3680 (e.kids.length+e.arms.length))),(54,intV ((e.kids.length:Int)+e.arms.length)),(55,intV ((e.kids.length:Int)+e.arms.length)),(56,boolV false)],
     [(64,some (.box (subCs x b free))),(128,some (.box [.c (.int .i64 e.kind),.c (.int .i64 e.pos),.c (.str e.name),.c (.int .i64 e.num),.c (.sl (Exp.rows e.kids)),.c (.sl (Exp.armRows e.arms)),.c (.int .i64 e.ty.kind),.c (.str e.ty.name),.c (.int .i64 e.ty.id),.c (.int .i64 e.ty.home),.c (.sl (Ty.rows e.ty.args))])),(192,some zbox2),(3680,some (.arr 11 (wr (Exp.rows (subC n e x b))) 0))]⟩)
  ⟨[(2,.sc (.ptr 64 0)),(3,.sc (.ptr 128 0)),(4,.sc (.ptr 192 0)),(7,.sc (.arr 3680 (e.kids.length+e.arms.length))),(53,.sc (.arr 3680 (e.kids.length+e.arms.length))),(54,intV ((e.kids.length:Int)+e.arms.length)),(55,intV 0)],
    [(64,some (.box (subCs x b free))),(128,some (.box [.c (.int .i64 e.kind),.c (.int .i64 e.pos),.c (.str e.name),.c (.int .i64 e.num),.c (.sl (Exp.rows e.kids)),.c (.sl (Exp.armRows e.arms)),.c (.int .i64 e.ty.kind),.c (.str e.ty.name),.c (.int .i64 e.ty.id),.c (.int .i64 e.ty.home),.c (.sl (Ty.rows e.ty.args))])),(192,some zbox2),(3680,some (.arr 11 (wr (Exp.rows e.children)) 0))]⟩:=by
 have hle:=e.children_le
 rw [e.children_len] at hle
 have hCl:=subC_len n e x b
 have hC2:(subC n e x b).length=e.children.length:=by rw [hCl,e.children_len]
 have hcg:=fun {i:Nat} {y:Exp} (h:e.children[i]?=some y)=>subC_get (n:=n) (x:=x) (b:=b) h
 generalize subC n e x b=cc at *
 refine wp_loop (fun i=>⟨[(2,.sc (.ptr 64 0)),(3,.sc (.ptr 128 0)),(4,.sc (.ptr 192 0)),(7,.sc (.arr 3680 (e.kids.length+e.arms.length))),(53,.sc (.arr 3680 (e.kids.length+e.arms.length))),(54,intV ((e.kids.length:Int)+e.arms.length)),(55,intV i)],
  [(64,some (.box (subCs x b free))),(128,some (.box [.c (.int .i64 e.kind),.c (.int .i64 e.pos),.c (.str e.name),.c (.int .i64 e.num),.c (.sl (Exp.rows e.kids)),.c (.sl (Exp.armRows e.arms)),.c (.int .i64 e.ty.kind),.c (.str e.ty.name),.c (.int .i64 e.ty.id),.c (.int .i64 e.ty.home),.c (.sl (Ty.rows e.ty.args))])),(192,some zbox2),(3680,some (.arr 11 (wr (Exp.rows (cc.take i++e.children.drop i))) 0))]⟩) (e.kids.length+e.arms.length) ?_ ?_ ?_
 ·simp
 ·intro i hi
  have hi1:i<e.children.length:=by rw [e.children_len];exact hi
  obtain ⟨y,hy⟩:=get_of_lt hi1
  have hm:=List.mem_of_getElem? hy
  have hr:=hrec y hm
  have hb:=bound52 (A:=A) e i hw hi1 (by omega)
  simp only [expV,expCs_eq e] at hb
  have hbl:=Nat.le_trans (e.bound_le i) hl
  have hco:=contains53 (A:=A) (e.bound i) x (by omega)
  have hcx:=hcg hy
  have hg:=get_step (i:=i) hC2 hi1
  rw [hy] at hg
  have hst:=set_step hC2 hcx
  have hln:=len_step (i:=i) hC2
  rw [e.children_len] at hln
  have hi2:(i:Int)<(e.kids.length:Int)+e.arms.length:=by omega
  have hset:=fun z=>rows_set (cc.take i++e.children.drop i) i z
  rw [←hst]
  generalize cc.take i++e.children.drop i=zr at *
  unfold l82_1
  by_cases hf:x∈e.bound i
  ·have hsame:zr.set i y=zr:=by
    refine List.ext_getElem? fun m => ?_
    rw [List.getElem?_set]
    split
    ·rename_i h
     subst h
     rw [hg]
     split
     ·rfl
     ·omega
    ·rfl
   rw [if_pos hf,hsame]
   simp (maxSteps:=4000000) (disch:=first|omega|(simp;done)|(simp;omega)) [hi,hi2,hg,hln,hb,hco,hf,blt_dec,-getElem?_pos]
  ·rw [if_neg hf]
   simp (maxSteps:=4000000) (disch:=first|omega|(simp;done)|(simp;omega)) [hi,hi2,hg,hln,hb,hco,hf,hr,hset,blt_dec,-getElem?_pos]
 ·have htk:cc.take (e.kids.length+e.arms.length)++e.children.drop (e.kids.length+e.arms.length)=cc:=by
   rw [List.drop_of_length_le (by rw [e.children_len];omega),List.append_nil,List.take_of_length_le (by omega)]
  rw [htk]
  unfold l82_1
  simp (maxSteps:=4000000) (disch:=first|omega|(simp;done)|(simp;omega)) [-getElem?_pos]
theorem loop82C (x:Str)(b:Exp)(free:List Str)(n:Nat)(e:Exp)(hw:e.wf1)(hl:e.weight≤67108864)(hrec:∀ y∈e.children,(K A).call 82 [.ag (subCs x b free),expV y] []=some (expV (subN n y x b),[])) :
 wp (K A) (.loop l82_1) (fun ex s=>ex=.exit 3∧s=⟨[(2,.sc (.ptr 64 0)),(3,.sc (.ptr 128 0)),(4,.sc (.ptr 192 0)),(7,.sc (.arr 3680 (e.kids.length+e.arms.length))),(53,.sc (.arr 3680 (e.kids.length+e.arms.length))),(54,intV ((e.kids.length:Int)+e.arms.length)),(55,intV ((e.kids.length:Int)+e.arms.length)),(56,boolV false)],
     [(64,some (.box (subCs x b free))),(128,some (.box [.c (.int .i64 e.kind),.c (.int .i64 e.pos),.c (.str e.name),.c (.int .i64 e.num),.c (.sl (Exp.rows e.kids)),.arr 2080 e.arms.length,.c (.int .i64 e.ty.kind),.c (.str e.ty.name),.c (.int .i64 e.ty.id),.c (.int .i64 e.ty.home),.c (.sl (Ty.rows e.ty.args))])),(192,some zbox2),(2080,some (.arr 14 (wr (Exp.armRows e.arms)) e.arms.length)),(3680,some (.arr 11 (wr (Exp.rows (subC n e x b))) 0))]⟩)
  ⟨[(2,.sc (.ptr 64 0)),(3,.sc (.ptr 128 0)),(4,.sc (.ptr 192 0)),(7,.sc (.arr 3680 (e.kids.length+e.arms.length))),(53,.sc (.arr 3680 (e.kids.length+e.arms.length))),(54,intV ((e.kids.length:Int)+e.arms.length)),(55,intV 0)],
    [(64,some (.box (subCs x b free))),(128,some (.box [.c (.int .i64 e.kind),.c (.int .i64 e.pos),.c (.str e.name),.c (.int .i64 e.num),.c (.sl (Exp.rows e.kids)),.arr 2080 e.arms.length,.c (.int .i64 e.ty.kind),.c (.str e.ty.name),.c (.int .i64 e.ty.id),.c (.int .i64 e.ty.home),.c (.sl (Ty.rows e.ty.args))])),(192,some zbox2),(2080,some (.arr 14 (wr (Exp.armRows e.arms)) e.arms.length)),(3680,some (.arr 11 (wr (Exp.rows e.children)) 0))]⟩:=by
 have hle:=e.children_le
 rw [e.children_len] at hle
 have hCl:=subC_len n e x b
 have hC2:(subC n e x b).length=e.children.length:=by rw [hCl,e.children_len]
 have hcg:=fun {i:Nat} {y:Exp} (h:e.children[i]?=some y)=>subC_get (n:=n) (x:=x) (b:=b) h
 generalize subC n e x b=cc at *
 refine wp_loop (fun i=>⟨[(2,.sc (.ptr 64 0)),(3,.sc (.ptr 128 0)),(4,.sc (.ptr 192 0)),(7,.sc (.arr 3680 (e.kids.length+e.arms.length))),(53,.sc (.arr 3680 (e.kids.length+e.arms.length))),(54,intV ((e.kids.length:Int)+e.arms.length)),(55,intV i)],
  [(64,some (.box (subCs x b free))),(128,some (.box [.c (.int .i64 e.kind),.c (.int .i64 e.pos),.c (.str e.name),.c (.int .i64 e.num),.c (.sl (Exp.rows e.kids)),.arr 2080 e.arms.length,.c (.int .i64 e.ty.kind),.c (.str e.ty.name),.c (.int .i64 e.ty.id),.c (.int .i64 e.ty.home),.c (.sl (Ty.rows e.ty.args))])),(192,some zbox2),(2080,some (.arr 14 (wr (Exp.armRows e.arms)) e.arms.length)),(3680,some (.arr 11 (wr (Exp.rows (cc.take i++e.children.drop i))) 0))]⟩) (e.kids.length+e.arms.length) ?_ ?_ ?_
 ·simp
 ·intro i hi
  have hi1:i<e.children.length:=by rw [e.children_len];exact hi
  obtain ⟨y,hy⟩:=get_of_lt hi1
  have hm:=List.mem_of_getElem? hy
  have hr:=hrec y hm
  have hb:=bound52 (A:=A) e i hw hi1 (by omega)
  simp only [expV,expCs_eq e] at hb
  have hbl:=Nat.le_trans (e.bound_le i) hl
  have hco:=contains53 (A:=A) (e.bound i) x (by omega)
  have hcx:=hcg hy
  have hg:=get_step (i:=i) hC2 hi1
  rw [hy] at hg
  have hst:=set_step hC2 hcx
  have hln:=len_step (i:=i) hC2
  rw [e.children_len] at hln
  have hi2:(i:Int)<(e.kids.length:Int)+e.arms.length:=by omega
  have hset:=fun z=>rows_set (cc.take i++e.children.drop i) i z
  rw [←hst]
  generalize cc.take i++e.children.drop i=zr at *
  unfold l82_1
  by_cases hf:x∈e.bound i
  ·have hsame:zr.set i y=zr:=by
    refine List.ext_getElem? fun m => ?_
    rw [List.getElem?_set]
    split
    ·rename_i h
     subst h
     rw [hg]
     split
     ·rfl
     ·omega
    ·rfl
   rw [if_pos hf,hsame]
   simp (maxSteps:=4000000) (disch:=first|omega|(simp;done)|(simp;omega)) [hi,hi2,hg,hln,hb,hco,hf,blt_dec,-getElem?_pos]
  ·rw [if_neg hf]
   simp (maxSteps:=4000000) (disch:=first|omega|(simp;done)|(simp;omega)) [hi,hi2,hg,hln,hb,hco,hf,hr,hset,blt_dec,-getElem?_pos]
 ·have htk:cc.take (e.kids.length+e.arms.length)++e.children.drop (e.kids.length+e.arms.length)=cc:=by
   rw [List.drop_of_length_le (by rw [e.children_len];omega),List.append_nil,List.take_of_length_le (by omega)]
  rw [htk]
  unfold l82_1
  simp (maxSteps:=4000000) (disch:=first|omega|(simp;done)|(simp;omega)) [-getElem?_pos]
variable {A:Oracle}
theorem apply82 (x:Str)(b:Exp)(hb:shp b)(hbl:(freeP b).length≤16777216)(hbf:∀ s∈freeP b,s.length≤1000)(hxl:x.length≤1000):∀ (n:Nat) (e:Exp),e.weight≤n→e.weight≤16777216→shp e→properP e→nmL e →
 (K A).call 82 [.ag (subCs x b (freeP b)),expV e] []=some (expV (subN n e x b),[])
 | 0,e,h,_,_,_,_=>by have:=e.weight_pos;omega
 | n+1,e,hn,hl,hs,hp,hnm=>by
  refine fn_of (vf:=v82) (by kernel_rfl) rfl (by simp) ?_
  rw [subN_succ]
  by_cases hk:e.kind=1
  ·rw [if_pos hk]
   have hrb:=expCs_eq b
   unfold v82
   by_cases hx:e.name=x
   ·rw [if_pos hx]
    simp (maxSteps:=4000000) (disch:=first|omega|(simp;done)|(simp;omega)) [hk,hx,hrb,-getElem?_pos]
   ·rw [if_neg hx]
    simp (maxSteps:=4000000) (disch:=first|omega|(simp;done)|(simp;omega)) [hk,hx,-getElem?_pos]
  rw [if_neg hk]
  have hP:=prep_ok (x:=x) (b:=b) hs hp
  have hW:=prep_weight hP
  have hN:=prep_nmL (x:=x) (b:=b) hs hp hnm (by omega)
  have hrec:∀ y∈(prepP x (freeP b) e).children,(K A).call 82 [.ag (subCs x b (freeP b)),expV y] []=some (expV (subN n y x b),[]):=by
   intro y hy
   obtain ⟨i,hi⟩:=List.mem_iff_getElem?.1 hy
   obtain ⟨x0,h0⟩:=get_of_lt (l:=e.children) (i:=i) (by rw [←prep_kids hP];exact (List.getElem?_eq_some_iff.1 hi).1)
   have hK:=hP.kids i x0 y h0 hi
   have h1:=Exp.child_lt (List.mem_of_getElem? h0)
   have h2:=hK.weight
   exact apply82 x b hb hbl hbf hxl n y (by omega) (by omega) hK.shape hK.proper (hN y hy)
  have hs1:=hP.head.shp1 hk hs.one
  have hkk:=hP.head.1
  have hkl:=hP.head.2.2.2.1
  by_cases h4:e.kind=4∨e.kind=6∨e.kind=7
  ·have hbd:=binder143 (A:=A) x b (freeP b) e hs h4 (by omega) (by omega) hnm hbf hxl
   have hpe:prepP x (freeP b) e=binderP x (freeP b) e:=by unfold prepP;rw [if_pos h4]
   rw [hpe] at hP hW hN hrec hs1 hkk hkl ⊢
   have hne:(binderP x (freeP b) e).kids≠[]:=by
    intro h
    have h5:=hs.one.2.2
    rw [h] at hkl
    unfold kidsN at h5
    simp only [List.length_nil] at hkl
    split at h5
    ·omega
    ·rw [if_pos (by omega)] at h5;omega
   generalize binderP x (freeP b) e=e' at *
   have hc:=children51 (A:=A) e' hne (by omega)
   rw [e'.children_len] at hc
   have hCl:=subC_len n e' x b
   have hw:=with146 (A:=A) e' (subC n e' x b) hCl (by omega)
   have hrow':=expCs_eq e'
   have hrowW:wc (withM e' (subC n e' x b)).row=[.c (.int .i64 e'.kind),.c (.int .i64 e'.pos),.c (.str e'.name),.c (.int .i64 e'.num),.c (.sl (Exp.rows ((subC n e' x b).take e'.kids.length))),.c (.sl (Exp.armRows (armsW e'.arms ((subC n e' x b).drop e'.kids.length)))),.c (.int .i64 e'.ty.kind),.c (.str e'.ty.name),.c (.int .i64 e'.ty.id),.c (.int .i64 e'.ty.home),.c (.sl (Ty.rows e'.ty.args))]:=by rw [Exp.row_eq];rfl
   have hkW:((subC n e' x b).take e'.kids.length).length=e'.kids.length:=by rw [List.length_take,hCl];omega
   have haW:(armsW e'.arms ((subC n e' x b).drop e'.kids.length)).length=e'.arms.length:=by rw [armsW_len,List.length_drop,hCl];omega
   simp only [expV,hrow'] at hc hw
   unfold v82
   rcases h4 with h4|h4|h4
   ·rw [h4] at hkk
    simp only [expV,hrow'] at hbd
    simp (maxSteps:=4000000) (disch:=first|omega|(simp;done)|(simp;omega)) [hk,h4,hbd,hc,-getElem?_pos]
    refine wp_mono (loop82P (A:=A) x b (freeP b) n e' hs1.1 (by omega) hrec) ?_
    rintro _ _ ⟨rfl,rfl⟩
    simp (maxSteps:=4000000) (disch:=first|omega|(simp;done)|(simp;omega)) [hw,hrowW,hCl,hkW,haW,-getElem?_pos]
   ·rw [h4] at hkk
    simp only [expV,hrow'] at hbd
    simp (maxSteps:=4000000) (disch:=first|omega|(simp;done)|(simp;omega)) [hk,h4,hbd,hc,-getElem?_pos]
    refine wp_mono (loop82P (A:=A) x b (freeP b) n e' hs1.1 (by omega) hrec) ?_
    rintro _ _ ⟨rfl,rfl⟩
    simp (maxSteps:=4000000) (disch:=first|omega|(simp;done)|(simp;omega)) [hw,hrowW,hCl,hkW,haW,-getElem?_pos]
   ·rw [h4] at hkk
    simp only [expV,hrow'] at hbd
    simp (maxSteps:=4000000) (disch:=first|omega|(simp;done)|(simp;omega)) [hk,h4,hbd,hc,-getElem?_pos]
    refine wp_mono (loop82P (A:=A) x b (freeP b) n e' hs1.1 (by omega) hrec) ?_
    rintro _ _ ⟨rfl,rfl⟩
    simp (maxSteps:=4000000) (disch:=first|omega|(simp;done)|(simp;omega)) [hw,hrowW,hCl,hkW,haW,-getElem?_pos]
  ·have hpe4:∀ y z:Exp,(if e.kind=4∨e.kind=6∨e.kind=7 then y else z)=z:=fun y z=>if_neg h4
   have k4:¬e.kind=4:=fun h=>h4 (.inl h)
   have k6:¬e.kind=6:=fun h=>h4 (.inr (.inl h))
   have k7:¬e.kind=7:=fun h=>h4 (.inr (.inr h))
   by_cases h8:e.kind=8
   ·have hk1:=hs.one.1.1 h8
    have hpe:prepP x (freeP b) e=.mk e.kind e.pos e.name e.num e.kids (e.arms.map (armP x (freeP b))) e.ty:=by unfold prepP;rw [if_neg h4,if_pos h8]
    rw [hpe] at hP hW hN hrec hs1 hkk hkl ⊢
    have hne:e.kids≠[]:=fun h=>by rw [h] at hk1;simp at hk1
    have hml:=e.children_le
    rw [e.children_len] at hml
    have harm:∀ p∈e.arms,(K A).call 145 [.ag (subCs x b (freeP b)),armV p] []=some (armV (armP x (freeP b) p),[]):=by
     intro p hm
     have h1:=Exp.vars_le hm
     have h2:=Exp.child_lt (arm_mem hm)
     obtain ⟨j,hj⟩:=List.mem_iff_getElem?.1 hm
     refine arm145 x b (freeP b) p (hp.one p hm) (hs.child (arm_mem hm)) (hp.child (arm_mem hm)) (by omega) (hnm.child (arm_child hj)) (fun s hs' => ?_) hbf hxl
     refine hnm s (mem_allP.2 (.inr ⟨e.kids.length+j,p.2,arm_child hj,.inl ?_⟩))
     rw [bound_some,if_neg (by omega),if_pos ⟨h8,by omega⟩,hk1,show 1+j-1=j by omega,hj]
     exact hs'
    have hcl:=clone144 (A:=A) e.arms (by omega)
    have hag:∀ (i:Nat) p,e.arms[i]?=some p→(e.arms.map (armP x (freeP b)))[i]?=some (armP x (freeP b) p):=fun i p h=>by rw [List.getElem?_map,h];rfl
    have ham:(e.arms.map (armP x (freeP b))).length=e.arms.length:=by simp
    generalize e.arms.map (armP x (freeP b))=am at *
    obtain ⟨e',he'⟩:∃ e',e'=Exp.mk e.kind e.pos e.name e.num e.kids am e.ty:=⟨_,rfl⟩
    have q1:e'.kids=e.kids:=by rw [he'];rfl
    have q2:e'.arms=am:=by rw [he'];rfl
    have q3:e'.kind=e.kind:=by rw [he'];rfl
    have q4:e'.pos=e.pos:=by rw [he'];rfl
    have q5:e'.name=e.name:=by rw [he'];rfl
    have q6:e'.num=e.num:=by rw [he'];rfl
    have q7:e'.ty=e.ty:=by rw [he'];rfl
    rw [←he'] at hP hW hN hrec hs1 hkk hkl ⊢
    have hc:=children51 (A:=A) e' (by rw [q1];exact hne) (by omega)
    rw [e'.children_len] at hc
    have hCl:=subC_len n e' x b
    have hw:=with146 (A:=A) e' (subC n e' x b) hCl (by omega)
    have hrow':=expCs_eq e'
    have hrow0:=expCs_eq e
    have hrowW:wc (withM e' (subC n e' x b)).row=[.c (.int .i64 e'.kind),.c (.int .i64 e'.pos),.c (.str e'.name),.c (.int .i64 e'.num),.c (.sl (Exp.rows ((subC n e' x b).take e'.kids.length))),.c (.sl (Exp.armRows (armsW e'.arms ((subC n e' x b).drop e'.kids.length)))),.c (.int .i64 e'.ty.kind),.c (.str e'.ty.name),.c (.int .i64 e'.ty.id),.c (.int .i64 e'.ty.home),.c (.sl (Ty.rows e'.ty.args))]:=by rw [Exp.row_eq];rfl
    have hkW:((subC n e' x b).take e'.kids.length).length=e'.kids.length:=by rw [List.length_take,hCl];omega
    have haW:(armsW e'.arms ((subC n e' x b).drop e'.kids.length)).length=e'.arms.length:=by rw [armsW_len,List.length_drop,hCl];omega
    have hloop:=loop82C (A:=A) x b (freeP b) n e' hs1.1 (by omega) hrec
    simp only [expV,hrow'] at hc hw
    simp only [q1,q2,q3,q4,q5,q6,q7,ham] at hc hw hrowW hkW haW hloop hCl
    unfold v82
    simp (maxSteps:=4000000) (disch:=first|omega|(simp;done)|(simp;omega)) [hk,k4,k6,k7,h8,hrow0,hcl,-getElem?_pos]
    refine wp_loop (fun i=>⟨[(2,.sc (.ptr 64 0)),(3,.sc (.ptr 128 0)),(4,.sc (.ptr 192 0)),(36,.sc (.arr 2080 e.arms.length)),(37,intV e.arms.length),(38,intV i)],
     [(64,some (.box (subCs x b (freeP b)))),(128,some (.box [.c (.int .i64 8),.c (.int .i64 e.pos),.c (.str e.name),.c (.int .i64 e.num),.c (.sl (Exp.rows e.kids)),.arr 2080 e.arms.length,.c (.int .i64 e.ty.kind),.c (.str e.ty.name),.c (.int .i64 e.ty.id),.c (.int .i64 e.ty.home),.c (.sl (Ty.rows e.ty.args))])),(192,some zbox2),
       (2080,some (.arr 14 (wr (Exp.armRows (am.take i++e.arms.drop i))) 0))]⟩) e.arms.length ?_ ?_ ?_
    ·simp
    ·intro i hi
     obtain ⟨p,hp'⟩:=get_of_lt hi
     have hca:=harm p (List.mem_of_getElem? hp')
     have hg:=get_step (i:=i) ham hi
     rw [hp'] at hg
     have hst:=set_step ham (hag i p hp')
     have hln:=len_step (i:=i) ham
     have hset:=fun z=>armrows_set (am.take i++e.arms.drop i) i z
     rw [←hst]
     generalize am.take i++e.arms.drop i=zr at *
     have hsp:∀ p q:ArmH × Exp,splice (wc (armRow p)) 0 (wc (armRow q))=some (wc (armRow q)):=fun p q=>by rw [armRow,armRow,Exp.row_eq p.2,Exp.row_eq q.2];rfl
     have hi2:(i:Int)<e.arms.length:=by omega
     unfold l82_0
     simp (maxSteps:=4000000) (disch:=first|omega|(simp;done)|(simp;omega)) [hi,hi2,hg,hln,hca,hsp,hset,blt_dec,-getElem?_pos]
    ·have htk:am.take e.arms.length++e.arms.drop e.arms.length=am:=by
      rw [List.drop_length,List.append_nil,List.take_of_length_le (by omega)]
     rw [htk]
     rw [h8] at hc hw hrowW hloop
     unfold l82_0
     simp (maxSteps:=4000000) (disch:=first|omega|(simp;done)|(simp;omega)) [hc,ham,q1,q2,-getElem?_pos]
     refine wp_mono hloop ?_
     rintro _ _ ⟨rfl,rfl⟩
     simp (maxSteps:=4000000) (disch:=first|omega|(simp;done)|(simp;omega)) [hw,hrowW,hCl,hkW,haW,ham,q1,q2,-getElem?_pos]
   ·have hpe:prepP x (freeP b) e=e:=by unfold prepP;rw [if_neg h4,if_neg h8]
    rw [hpe] at hP hW hN hrec hs1 hkk hkl ⊢
    by_cases hkids:e.kids=[]
    ·have harms:e.arms=[]:=hs.one.1.2.1 h8
     have hc:=children51_leaf (A:=A) e hkids harms
     have hC0:subC n e x b=[]:=List.length_eq_zero_iff.1 (by rw [subC_len,hkids,harms];rfl)
     have hw:=with146 (A:=A) e [] (by rw [hkids,harms];rfl) (by omega)
     rw [hC0]
     have hr1:Exp.rows []=[]:=by rw [Exp.rows]
     have hr2:Exp.armRows []=[]:=by rw [Exp.armRows]
     have hz:armsW [] []=[]:=rfl
     have hrow:wc (withM e []).row=[.c (.int .i64 e.kind),.c (.int .i64 e.pos),.c (.str e.name),.c (.int .i64 e.num),.c (.sl []),.c (.sl []),.c (.int .i64 e.ty.kind),.c (.str e.ty.name),.c (.int .i64 e.ty.id),.c (.int .i64 e.ty.home),.c (.sl (Ty.rows e.ty.args))]:=by
      rw [Exp.row_eq]
      simp [withM,harms,armsW,hr1,hr2,Exp.kind,Exp.pos,Exp.name,Exp.num,Exp.kids,Exp.arms,Exp.ty,wc]
     simp only [exsV,hr1,hkids,harms,List.length_nil,List.take_nil,List.drop_nil,hz,hr2] at hw
     unfold v82
     simp (maxSteps:=4000000) (disch:=first|omega|(simp;done)|(simp;omega)) [hk,k4,k6,k7,h8,hc,-getElem?_pos]
     refine wp_loop (fun i=>⟨[(2,.sc (.ptr 64 0)),(3,.sc (.ptr 128 0)),(4,.sc (.ptr 192 0)),(7,.sc (.full [])),(53,.sc (.full [])),(54,intV 0),(55,intV i)],[(64,some (.box (subCs x b (freeP b)))),(128,some (.box (wc e.row))),(192,some zbox2)]⟩) 0 ?_ (fun i hi=>by omega) ?_
     ·simp
     ·unfold l82_1
      simp (maxSteps:=4000000) (disch:=first|omega|(simp;done)|(simp;omega)) [hw,hrow,-getElem?_pos]
    ·have hne:e.kids≠[]:=hkids
     obtain ⟨e',he'⟩:∃ e',e'=e:=⟨e,rfl⟩
     have hrow0:=expCs_eq e
     have hc:=children51 (A:=A) e hne (by omega)
     rw [e.children_len] at hc
     have hCl:=subC_len n e x b
     have hw:=with146 (A:=A) e (subC n e x b) hCl (by omega)
     have hrow':=expCs_eq e
     have hrowW:wc (withM e (subC n e x b)).row=[.c (.int .i64 e.kind),.c (.int .i64 e.pos),.c (.str e.name),.c (.int .i64 e.num),.c (.sl (Exp.rows ((subC n e x b).take e.kids.length))),.c (.sl (Exp.armRows (armsW e.arms ((subC n e x b).drop e.kids.length)))),.c (.int .i64 e.ty.kind),.c (.str e.ty.name),.c (.int .i64 e.ty.id),.c (.int .i64 e.ty.home),.c (.sl (Ty.rows e.ty.args))]:=by rw [Exp.row_eq];rfl
     have hkW:((subC n e x b).take e.kids.length).length=e.kids.length:=by rw [List.length_take,hCl];omega
     have haW:(armsW e.arms ((subC n e x b).drop e.kids.length)).length=e.arms.length:=by rw [armsW_len,List.length_drop,hCl];omega
     simp only [expV,hrow'] at hc hw
     unfold v82
     simp (maxSteps:=4000000) (disch:=first|omega|(simp;done)|(simp;omega)) [hk,k4,k6,k7,h8,hrow0,hc,-getElem?_pos]
     refine wp_mono (loop82P (A:=A) x b (freeP b) n e hs1.1 (by omega) hrec) ?_
     rintro _ _ ⟨rfl,rfl⟩
     simp (maxSteps:=4000000) (disch:=first|omega|(simp;done)|(simp;omega)) [hw,hrowW,hCl,hkW,haW,-getElem?_pos]
theorem sub_free {x:Str}{b e:Exp}(hb:shp b)(hs:shp e)(hp:properP e)(u:Str):u∈freeP (subP e x b)↔(u∈freeP e∧u≠x)∨(x∈freeP e∧u∈freeP b):=by
 have h:=sub_inst x b hb e.weight e (Nat.le_refl _) hs hp
 constructor
 ·intro hu
  obtain ⟨s,h1,d,h2,h3⟩:=instR.free_from e _ _ hs.one (fun y hy=>hs.child hy) h u hu
  unfold subV at h2
  split at h2
  ·rename_i hsx
   exact .inr ⟨hsx▸h1,h2▸h3⟩
  ·rename_i hsx
   rw [h2.free,List.mem_singleton] at h3
   subst h3
   exact .inl ⟨h1,hsx⟩
 ·rintro (⟨h1,h2⟩|⟨h1,h2⟩)
  ·obtain ⟨d,hd,hf⟩:=instR.free_to e _ _ h u h1
   unfold subV at hd
   rw [if_neg h2] at hd
   exact hf u (by rw [hd.free];simp)
  ·obtain ⟨d,hd,hf⟩:=instR.free_to e _ _ h x h1
   unfold subV at hd
   rw [if_pos rfl] at hd
   exact hf u (hd▸h2)
end Go.Vs.Tryz
