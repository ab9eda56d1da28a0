/- Substitution by the program, walked. (Parts of one proof, put together.) -/
import Derived.Test.YtlcncicmkkelcaaGreatDoorRHa
set_option linter.unusedSimpArgs false
set_option linter.unusedVariables false
set_option linter.deprecated false
set_option maxHeartbeats 64000000
set_option maxRecDepth 20000
namespace Go.Vs.Tryz
open Go Go.Vs
variable {A:Zac}
theorem Zkf {x:Str}{b e e':Exp}(h:PrepOk x b e e'):e'.weight=e.weight:=by
 rw [e'.weight_eq,e.weight_eq,h.sum];congr 2;refine List.ext_getElem? fun i => ?_;rw [List.getElem?_map,List.getElem?_map]
 by_cases hi:i<e.children.length
 ·obtain ⟨x0,h0⟩:=Zaa hi;obtain ⟨x1,h1⟩:=Zaa (l:=e'.children) (i:=i) (by rw [ZbL h];exact hi);rw [h0,h1];simp only [Option.map_some,(h.kids i x0 x1 h0 h1).weight]
 ·have h1:e'.children[i]?=none:=List.getElem?_eq_none (by rw [ZbL h];omega);have h2:e.children[i]?=none:=List.getElem?_eq_none (by omega);rw [h1,h2]
theorem Zp4 {x:Str}{b e:Exp}(hs:shp e)(hp:properP e)(hn:nmL e)(hl:e.weight+(Zag b).length≤67108864):∀ y∈(ZcQ x (Zag b) e).children,nmL y:=by
 intro y hy;obtain ⟨i,hi⟩:=List.mem_iff_getElem?.1 hy;have hal:=Zeq e hs.wf;unfold ZcQ at hi
 by_cases h:e.kind=4∨e.kind=6∨e.kind=7
 ·rw [if_pos h] at hi;obtain ⟨ha,hc⟩:=Zbw (by omega) hs.one;unfold ZcP at hi;split at hi
  ·exact hn.child hi
  ·have hc':∀ to ks,(Exp.mk e.kind e.pos to e.num ks e.arms e.ty).children=ks:=fun to ks=>by rw [Za3,ha];simp
   rw [hc'] at hi;have hlt:=(List.getElem?_eq_some_iff.1 hi).1;simp only [List.length_map,List.length_zipIdx] at hlt;obtain ⟨z,hz⟩:=Zaa hlt;simp only [List.getElem?_map,List.getElem?_zipIdx,hz,Option.map_some,Nat.zero_add,Option.some.injEq] at hi;subst hi;have hnz:nmL z:=hn.child (i:=i) (by rw [hc];exact hz);split
   ·exact hnz
   ·exact ZiB hnz (ZdY _ _ (by simp;omega))
 ·rw [if_neg h] at hi
  by_cases h8:e.kind=8
  ·rw [if_pos h8,Za3] at hi;rcases Nat.lt_or_ge i e.kids.length with hk|hk
   ·rw [List.getElem?_append_left hk] at hi;exact hn.child (i:=i) (Zji hi)
   ·rw [List.getElem?_append_right hk,List.getElem?_map] at hi;obtain ⟨q,hq,rfl⟩:=Option.map_eq_some_iff.1 hi;rw [List.getElem?_map] at hq;obtain ⟨p,hp',rfl⟩:=Option.map_eq_some_iff.1 hq;have hm:=List.mem_of_getElem? hp';have hnp:nmL p.2:=hn.child (Zdk hp');have hvl:=Exp.vars_le hm;have hwl:=Exp.child_lt (Zc7 hm);unfold armP;split
    ·exact hnp
    ·rename_i hx;refine (Zft (free:=Zag b) (hp.one p hm) hx (hs.child (Zc7 hm)) (hp.child (Zc7 hm)) (by omega) hnp (fun s hs' => ?_) p.1.vars.length (Nat.le_refl _)).1;refine hn s (Zat.2 (.inr ⟨e.kids.length+(i-e.kids.length),p.2,Zdk hp',.inl ?_⟩));have hk1:=hs.one.1.1 h8;rw [ZaH,if_neg (by omega),if_pos ⟨h8,by omega⟩,hk1,show 1+(i-1)-1=i-1 by omega,←hk1,hp'];exact hs'
  ·rw [if_neg h8] at hi;exact hn.child hi
theorem Zny {l:List (ArmH × Exp)}(h:l≠[]):∃ c rows,Exp.armRows l=c::rows:=by
 cases l with
 | nil=>exact absurd rfl h
 | cons e r=>obtain ⟨a,b⟩:=e;exact ⟨_,Exp.armRows r,by rw [Exp.armRows]⟩
theorem Zpz (l:List (ArmH × Exp))(hl:l.length≤4294967296):(K A).call 144 [armsV l] []=some (.sc (.arr 0 l.length),[.arr 14 (wr (Exp.armRows l)) 0]):=by
 by_cases h:l=[]
 ·subst h
  have hr:Exp.armRows []=[]:=by rw [Exp.armRows]
  rw [hr];exact ZjG (by kernel_rfl) (by kernel_rfl) (by kernel_rfl) (by kernel_rfl)
 ·obtain ⟨c,rows,hr⟩:=Zny h
  have hlen:rows.length+1=l.length:=by
   have:=Exp.armRows_len l;rw [hr] at this;simpa using this
  have hok:Za2 14 (wr (c::rows))=true:=hr▸okRows_arm l
  have hp:armsV l=V.sc (.c (.sl (c::rows))):=by rw [←hr]
  rw [hr,hp,ZfL (by kernel_rfl) (by kernel_rfl)];refine ZiJ (vf:=v144) (by kernel_rfl) rfl (by decide) ?_;unfold v144;rw [wr_cons] at hok;simp (disch:=first|omega|(simp;done)|(simp;omega)) [hok];omega
theorem ZcH (e:Exp):wc e.row=[.c (.int .i64 e.kind),.c (.int .i64 e.pos),.c (.str e.name),.c (.int .i64 e.num),.c (.sl (Exp.rows e.kids)),.c (.sl (Exp.armRows e.arms)),.c (.int .i64 e.ty.kind),.c (.str e.ty.name),.c (.int .i64 e.ty.id),.c (.int .i64 e.ty.home),.c (.sl (Ty.rows e.ty.args))]:=by rw [Exp.row_eq];rfl
theorem ZiQ (x:Str)(b:Exp)(free:List Str)(n:Nat)(e:Exp)(hw:e.wf1)(hl:e.weight≤67108864)(hrec:∀ y∈e.children,(K A).call 82 [.ag (Zca x b free),expV y] []=some (expV (subN n y x b),[])) :
 wp (K A) (.loop Zj0) (fun ex s=>ex=.exit 3∧s=⟨[(2,.sc (.ptr 64 0)),(3,.sc (.ptr 128 0)),(4,.sc (.ptr 192 0)),(7,.sc (.arr 3680 (e.kids.length+e.arms.length))),(53,.sc (.arr 3680 (e.kids.length+e.arms.length))),(54,intV ((e.kids.length:Int)+e.arms.length)),(55,intV ((e.kids.length:Int)+e.arms.length)),(56,Zah false)],
     [(64,some (.box (Zca x b free))),(128,some (.box [.c (.int .i64 e.kind),.c (.int .i64 e.pos),.c (.str e.name),.c (.int .i64 e.num),.c (.sl (Exp.rows e.kids)),.c (.sl (Exp.armRows e.arms)),.c (.int .i64 e.ty.kind),.c (.str e.ty.name),.c (.int .i64 e.ty.id),.c (.int .i64 e.ty.home),.c (.sl (Ty.rows e.ty.args))])),(192,some Zde),(3680,some (.arr 11 (wr (Exp.rows (subC n e x b))) 0))]⟩)
  ⟨[(2,.sc (.ptr 64 0)),(3,.sc (.ptr 128 0)),(4,.sc (.ptr 192 0)),(7,.sc (.arr 3680 (e.kids.length+e.arms.length))),(53,.sc (.arr 3680 (e.kids.length+e.arms.length))),(54,intV ((e.kids.length:Int)+e.arms.length)),(55,intV 0)],
    [(64,some (.box (Zca x b free))),(128,some (.box [.c (.int .i64 e.kind),.c (.int .i64 e.pos),.c (.str e.name),.c (.int .i64 e.num),.c (.sl (Exp.rows e.kids)),.c (.sl (Exp.armRows e.arms)),.c (.int .i64 e.ty.kind),.c (.str e.ty.name),.c (.int .i64 e.ty.id),.c (.int .i64 e.ty.home),.c (.sl (Ty.rows e.ty.args))])),(192,some Zde),(3680,some (.arr 11 (wr (Exp.rows e.children)) 0))]⟩:=by
 have hle:=e.children_le;rw [e.children_len] at hle;have hCl:=subC_len n e x b
 have hC2:(subC n e x b).length=e.children.length:=by rw [hCl,e.children_len]
 have hcg:=fun {i:Nat} {y:Exp} (h:e.children[i]?=some y)=>ZdD (n:=n) (x:=x) (b:=b) h;generalize subC n e x b=cc at *
 refine Zaz (fun i=>⟨[(2,.sc (.ptr 64 0)),(3,.sc (.ptr 128 0)),(4,.sc (.ptr 192 0)),(7,.sc (.arr 3680 (e.kids.length+e.arms.length))),(53,.sc (.arr 3680 (e.kids.length+e.arms.length))),(54,intV ((e.kids.length:Int)+e.arms.length)),(55,intV i)],
  [(64,some (.box (Zca x b free))),(128,some (.box [.c (.int .i64 e.kind),.c (.int .i64 e.pos),.c (.str e.name),.c (.int .i64 e.num),.c (.sl (Exp.rows e.kids)),.c (.sl (Exp.armRows e.arms)),.c (.int .i64 e.ty.kind),.c (.str e.ty.name),.c (.int .i64 e.ty.id),.c (.int .i64 e.ty.home),.c (.sl (Ty.rows e.ty.args))])),(192,some Zde),(3680,some (.arr 11 (wr (Exp.rows (cc.take i++e.children.drop i))) 0))]⟩) (e.kids.length+e.arms.length) ?_ ?_ ?_
 ·simp
 ·intro i hi
  have hi1:i<e.children.length:=by rw [e.children_len];exact hi
  obtain ⟨y,hy⟩:=Zaa hi1;have hm:=List.mem_of_getElem? hy;have hr:=hrec y hm;have hb:=Zhk (A:=A) e i hw hi1 (by omega);simp only [expV,ZcH e] at hb;have hbl:=Nat.le_trans (e.bound_le i) hl;have hco:=ZbA (A:=A) (e.bound i) x (by omega);have hcx:=hcg hy;have hg:=Zb2 (i:=i) hC2 hi1;rw [hy] at hg;have hst:=Zb8 hC2 hcx;have hln:=Zb1 (i:=i) hC2;rw [e.children_len] at hln
  have hi2:(i:Int)<(e.kids.length:Int)+e.arms.length:=by omega
  have hset:=fun z=>Zfy (cc.take i++e.children.drop i) i z;rw [←hst];generalize cc.take i++e.children.drop i=zr at *;unfold Zj0
  by_cases hf:x∈e.bound i
  ·have hsame:zr.set i y=zr:=by
    refine List.ext_getElem? fun m => ?_;rw [List.getElem?_set];split
    ·rename_i h;subst h;rw [hg];split
     ·rfl
     ·omega
    ·rfl
   rw [if_pos hf,hsame];simp (maxSteps:=4000000) (disch:=first|omega|(simp;done)|(simp;omega)) [hi,hi2,hg,hln,hb,hco,hf,Za6,-getElem?_pos]
  ·rw [if_neg hf];simp (maxSteps:=4000000) (disch:=first|omega|(simp;done)|(simp;omega)) [hi,hi2,hg,hln,hb,hco,hf,hr,hset,Za6,-getElem?_pos]
 ·have htk:cc.take (e.kids.length+e.arms.length)++e.children.drop (e.kids.length+e.arms.length)=cc:=by
   rw [List.drop_of_length_le (by rw [e.children_len];omega),List.append_nil,List.take_of_length_le (by omega)]
  rw [htk];unfold Zj0;simp (maxSteps:=4000000) (disch:=first|omega|(simp;done)|(simp;omega)) [-getElem?_pos]
theorem Zru (x:Str)(b:Exp)(free:List Str)(n:Nat)(e:Exp)(hw:e.wf1)(hl:e.weight≤67108864)(hrec:∀ y∈e.children,(K A).call 82 [.ag (Zca x b free),expV y] []=some (expV (subN n y x b),[])) :
 wp (K A) (.loop Zj0) (fun ex s=>ex=.exit 3∧s=⟨[(2,.sc (.ptr 64 0)),(3,.sc (.ptr 128 0)),(4,.sc (.ptr 192 0)),(7,.sc (.arr 3680 (e.kids.length+e.arms.length))),(53,.sc (.arr 3680 (e.kids.length+e.arms.length))),(54,intV ((e.kids.length:Int)+e.arms.length)),(55,intV ((e.kids.length:Int)+e.arms.length)),(56,Zah false)],
     [(64,some (.box (Zca x b free))),(128,some (.box [.c (.int .i64 e.kind),.c (.int .i64 e.pos),.c (.str e.name),.c (.int .i64 e.num),.c (.sl (Exp.rows e.kids)),.arr 2080 e.arms.length,.c (.int .i64 e.ty.kind),.c (.str e.ty.name),.c (.int .i64 e.ty.id),.c (.int .i64 e.ty.home),.c (.sl (Ty.rows e.ty.args))])),(192,some Zde),(2080,some (.arr 14 (wr (Exp.armRows e.arms)) e.arms.length)),(3680,some (.arr 11 (wr (Exp.rows (subC n e x b))) 0))]⟩)
  ⟨[(2,.sc (.ptr 64 0)),(3,.sc (.ptr 128 0)),(4,.sc (.ptr 192 0)),(7,.sc (.arr 3680 (e.kids.length+e.arms.length))),(53,.sc (.arr 3680 (e.kids.length+e.arms.length))),(54,intV ((e.kids.length:Int)+e.arms.length)),(55,intV 0)],
    [(64,some (.box (Zca x b free))),(128,some (.box [.c (.int .i64 e.kind),.c (.int .i64 e.pos),.c (.str e.name),.c (.int .i64 e.num),.c (.sl (Exp.rows e.kids)),.arr 2080 e.arms.length,.c (.int .i64 e.ty.kind),.c (.str e.ty.name),.c (.int .i64 e.ty.id),.c (.int .i64 e.ty.home),.c (.sl (Ty.rows e.ty.args))])),(192,some Zde),(2080,some (.arr 14 (wr (Exp.armRows e.arms)) e.arms.length)),(3680,some (.arr 11 (wr (Exp.rows e.children)) 0))]⟩:=by
 have hle:=e.children_le;rw [e.children_len] at hle;have hCl:=subC_len n e x b
 have hC2:(subC n e x b).length=e.children.length:=by rw [hCl,e.children_len]
 have hcg:=fun {i:Nat} {y:Exp} (h:e.children[i]?=some y)=>ZdD (n:=n) (x:=x) (b:=b) h;generalize subC n e x b=cc at *
 refine Zaz (fun i=>⟨[(2,.sc (.ptr 64 0)),(3,.sc (.ptr 128 0)),(4,.sc (.ptr 192 0)),(7,.sc (.arr 3680 (e.kids.length+e.arms.length))),(53,.sc (.arr 3680 (e.kids.length+e.arms.length))),(54,intV ((e.kids.length:Int)+e.arms.length)),(55,intV i)],
  [(64,some (.box (Zca x b free))),(128,some (.box [.c (.int .i64 e.kind),.c (.int .i64 e.pos),.c (.str e.name),.c (.int .i64 e.num),.c (.sl (Exp.rows e.kids)),.arr 2080 e.arms.length,.c (.int .i64 e.ty.kind),.c (.str e.ty.name),.c (.int .i64 e.ty.id),.c (.int .i64 e.ty.home),.c (.sl (Ty.rows e.ty.args))])),(192,some Zde),(2080,some (.arr 14 (wr (Exp.armRows e.arms)) e.arms.length)),(3680,some (.arr 11 (wr (Exp.rows (cc.take i++e.children.drop i))) 0))]⟩) (e.kids.length+e.arms.length) ?_ ?_ ?_
 ·simp
 ·intro i hi
  have hi1:i<e.children.length:=by rw [e.children_len];exact hi
  obtain ⟨y,hy⟩:=Zaa hi1;have hm:=List.mem_of_getElem? hy;have hr:=hrec y hm;have hb:=Zhk (A:=A) e i hw hi1 (by omega);simp only [expV,ZcH e] at hb;have hbl:=Nat.le_trans (e.bound_le i) hl;have hco:=ZbA (A:=A) (e.bound i) x (by omega);have hcx:=hcg hy;have hg:=Zb2 (i:=i) hC2 hi1;rw [hy] at hg;have hst:=Zb8 hC2 hcx;have hln:=Zb1 (i:=i) hC2;rw [e.children_len] at hln
  have hi2:(i:Int)<(e.kids.length:Int)+e.arms.length:=by omega
  have hset:=fun z=>Zfy (cc.take i++e.children.drop i) i z;rw [←hst];generalize cc.take i++e.children.drop i=zr at *;unfold Zj0
  by_cases hf:x∈e.bound i
  ·have hsame:zr.set i y=zr:=by
    refine List.ext_getElem? fun m => ?_;rw [List.getElem?_set];split
    ·rename_i h;subst h;rw [hg];split
     ·rfl
     ·omega
    ·rfl
   rw [if_pos hf,hsame];simp (maxSteps:=4000000) (disch:=first|omega|(simp;done)|(simp;omega)) [hi,hi2,hg,hln,hb,hco,hf,Za6,-getElem?_pos]
  ·rw [if_neg hf];simp (maxSteps:=4000000) (disch:=first|omega|(simp;done)|(simp;omega)) [hi,hi2,hg,hln,hb,hco,hf,hr,hset,Za6,-getElem?_pos]
 ·have htk:cc.take (e.kids.length+e.arms.length)++e.children.drop (e.kids.length+e.arms.length)=cc:=by
   rw [List.drop_of_length_le (by rw [e.children_len];omega),List.append_nil,List.take_of_length_le (by omega)]
  rw [htk];unfold Zj0;simp (maxSteps:=4000000) (disch:=first|omega|(simp;done)|(simp;omega)) [-getElem?_pos]
variable {A:Zac}
theorem Zo4 (x:Str)(b:Exp)(hb:shp b)(hbl:(Zag b).length≤16777216)(hbf:∀ s∈Zag b,s.length≤1000)(hxl:x.length≤1000):∀ (n:Nat) (e:Exp),e.weight≤n→e.weight≤16777216→shp e→properP e→nmL e →
 (K A).call 82 [.ag (Zca x b (Zag b)),expV e] []=some (expV (subN n e x b),[])
 | 0,e,h,_,_,_,_=>by have:=e.weight_pos;omega
 | n+1,e,hn,hl,hs,hp,hnm=>by
  refine Zas (vf:=v82) (by kernel_rfl) rfl (by simp) ?_;rw [Zdf]
  by_cases hk:e.kind=1
  ·rw [if_pos hk];have hrb:=ZcH b;unfold v82
   by_cases hx:e.name=x
   ·rw [if_pos hx];simp (maxSteps:=4000000) (disch:=first|omega|(simp;done)|(simp;omega)) [hk,hx,hrb,-getElem?_pos]
   ·rw [if_neg hx];simp (maxSteps:=4000000) (disch:=first|omega|(simp;done)|(simp;omega)) [hk,hx,-getElem?_pos]
  rw [if_neg hk];have hP:=ZfO (x:=x) (b:=b) hs hp;have hW:=Zkf hP;have hN:=Zp4 (x:=x) (b:=b) hs hp hnm (by omega)
  have hrec:∀ y∈(ZcQ x (Zag b) e).children,(K A).call 82 [.ag (Zca x b (Zag b)),expV y] []=some (expV (subN n y x b),[]):=by
   intro y hy;obtain ⟨i,hi⟩:=List.mem_iff_getElem?.1 hy;obtain ⟨x0,h0⟩:=Zaa (l:=e.children) (i:=i) (by rw [←ZbL hP];exact (List.getElem?_eq_some_iff.1 hi).1);have hK:=hP.kids i x0 y h0 hi;have h1:=Exp.child_lt (List.mem_of_getElem? h0);have h2:=hK.weight;exact Zo4 x b hb hbl hbf hxl n y (by omega) (by omega) hK.shape hK.proper (hN y hy)
  have hs1:=hP.head.shp1 hk hs.one;have hkk:=hP.head.1;have hkl:=hP.head.2.2.2.1
  by_cases h4:e.kind=4∨e.kind=6∨e.kind=7
  ·have hbd:=Znc (A:=A) x b (Zag b) e hs h4 (by omega) (by omega) hnm hbf hxl
   have hpe:ZcQ x (Zag b) e=ZcP x (Zag b) e:=by unfold ZcQ;rw [if_pos h4]
   rw [hpe] at hP hW hN hrec hs1 hkk hkl ⊢
   have hne:(ZcP x (Zag b) e).kids≠[]:=by
    intro h;have h5:=hs.one.2.2;rw [h] at hkl;unfold Zmo at h5;simp only [List.length_nil] at hkl;split at h5
    ·omega
    ·rw [if_pos (by omega)] at h5;omega
   generalize ZcP x (Zag b) e=e' at *;have hc:=ZbR (A:=A) e' hne (by omega);rw [e'.children_len] at hc;have hCl:=subC_len n e' x b;have hw:=ZgH (A:=A) e' (subC n e' x b) hCl (by omega);have hrow':=ZcH e'
   have hrowW:wc (Zcc e' (subC n e' x b)).row=[.c (.int .i64 e'.kind),.c (.int .i64 e'.pos),.c (.str e'.name),.c (.int .i64 e'.num),.c (.sl (Exp.rows ((subC n e' x b).take e'.kids.length))),.c (.sl (Exp.armRows (Za5 e'.arms ((subC n e' x b).drop e'.kids.length)))),.c (.int .i64 e'.ty.kind),.c (.str e'.ty.name),.c (.int .i64 e'.ty.id),.c (.int .i64 e'.ty.home),.c (.sl (Ty.rows e'.ty.args))]:=by rw [Exp.row_eq];rfl
   have hkW:((subC n e' x b).take e'.kids.length).length=e'.kids.length:=by rw [List.length_take,hCl];omega
   have haW:(Za5 e'.arms ((subC n e' x b).drop e'.kids.length)).length=e'.arms.length:=by rw [armsW_len,List.length_drop,hCl];omega
   simp only [expV,hrow'] at hc hw;unfold v82;rcases h4 with h4|h4|h4
   ·rw [h4] at hkk;simp only [expV,hrow'] at hbd;simp (maxSteps:=4000000) (disch:=first|omega|(simp;done)|(simp;omega)) [hk,h4,hbd,hc,-getElem?_pos];refine wp_mono (ZiQ (A:=A) x b (Zag b) n e' hs1.1 (by omega) hrec) ?_;rintro _ _ ⟨rfl,rfl⟩;simp (maxSteps:=4000000) (disch:=first|omega|(simp;done)|(simp;omega)) [hw,hrowW,hCl,hkW,haW,-getElem?_pos]
   ·rw [h4] at hkk;simp only [expV,hrow'] at hbd;simp (maxSteps:=4000000) (disch:=first|omega|(simp;done)|(simp;omega)) [hk,h4,hbd,hc,-getElem?_pos];refine wp_mono (ZiQ (A:=A) x b (Zag b) n e' hs1.1 (by omega) hrec) ?_;rintro _ _ ⟨rfl,rfl⟩;simp (maxSteps:=4000000) (disch:=first|omega|(simp;done)|(simp;omega)) [hw,hrowW,hCl,hkW,haW,-getElem?_pos]
   ·rw [h4] at hkk;simp only [expV,hrow'] at hbd;simp (maxSteps:=4000000) (disch:=first|omega|(simp;done)|(simp;omega)) [hk,h4,hbd,hc,-getElem?_pos];refine wp_mono (ZiQ (A:=A) x b (Zag b) n e' hs1.1 (by omega) hrec) ?_;rintro _ _ ⟨rfl,rfl⟩;simp (maxSteps:=4000000) (disch:=first|omega|(simp;done)|(simp;omega)) [hw,hrowW,hCl,hkW,haW,-getElem?_pos]
  ·have hpe4:∀ y z:Exp,(if e.kind=4∨e.kind=6∨e.kind=7 then y else z)=z:=fun y z=>if_neg h4;have k4:¬e.kind=4:=fun h=>h4 (.inl h);have k6:¬e.kind=6:=fun h=>h4 (.inr (.inl h));have k7:¬e.kind=7:=fun h=>h4 (.inr (.inr h))
   by_cases h8:e.kind=8
   ·have hk1:=hs.one.1.1 h8
    have hpe:ZcQ x (Zag b) e=.mk e.kind e.pos e.name e.num e.kids (e.arms.map (armP x (Zag b))) e.ty:=by unfold ZcQ;rw [if_neg h4,if_pos h8]
    rw [hpe] at hP hW hN hrec hs1 hkk hkl ⊢
    have hne:e.kids≠[]:=fun h=>by rw [h] at hk1;simp at hk1
    have hml:=e.children_le;rw [e.children_len] at hml
    have harm:∀ p∈e.arms,(K A).call 145 [.ag (Zca x b (Zag b)),armV p] []=some (armV (armP x (Zag b) p),[]):=by
     intro p hm;have h1:=Exp.vars_le hm;have h2:=Exp.child_lt (Zc7 hm);obtain ⟨j,hj⟩:=List.mem_iff_getElem?.1 hm;refine arm145 x b (Zag b) p (hp.one p hm) (hs.child (Zc7 hm)) (hp.child (Zc7 hm)) (by omega) (hnm.child (Zdk hj)) (fun s hs' => ?_) hbf hxl;refine hnm s (Zat.2 (.inr ⟨e.kids.length+j,p.2,Zdk hj,.inl ?_⟩));rw [ZaH,if_neg (by omega),if_pos ⟨h8,by omega⟩,hk1,show 1+j-1=j by omega,hj];exact hs'
    have hcl:=Zpz (A:=A) e.arms (by omega)
    have hag:∀ (i:Nat) p,e.arms[i]?=some p→(e.arms.map (armP x (Zag b)))[i]?=some (armP x (Zag b) p):=fun i p h=>by rw [List.getElem?_map,h];rfl
    have ham:(e.arms.map (armP x (Zag b))).length=e.arms.length:=by simp
    generalize e.arms.map (armP x (Zag b))=am at *;obtain ⟨e',he'⟩:∃ e',e'=Exp.mk e.kind e.pos e.name e.num e.kids am e.ty:=⟨_,rfl⟩
    have q1:e'.kids=e.kids:=by rw [he'];rfl
    have q2:e'.arms=am:=by rw [he'];rfl
    have q3:e'.kind=e.kind:=by rw [he'];rfl
    have q4:e'.pos=e.pos:=by rw [he'];rfl
    have q5:e'.name=e.name:=by rw [he'];rfl
    have q6:e'.num=e.num:=by rw [he'];rfl
    have q7:e'.ty=e.ty:=by rw [he'];rfl
    rw [←he'] at hP hW hN hrec hs1 hkk hkl ⊢;have hc:=ZbR (A:=A) e' (by rw [q1];exact hne) (by omega);rw [e'.children_len] at hc;have hCl:=subC_len n e' x b;have hw:=ZgH (A:=A) e' (subC n e' x b) hCl (by omega);have hrow':=ZcH e';have hrow0:=ZcH e
    have hrowW:wc (Zcc e' (subC n e' x b)).row=[.c (.int .i64 e'.kind),.c (.int .i64 e'.pos),.c (.str e'.name),.c (.int .i64 e'.num),.c (.sl (Exp.rows ((subC n e' x b).take e'.kids.length))),.c (.sl (Exp.armRows (Za5 e'.arms ((subC n e' x b).drop e'.kids.length)))),.c (.int .i64 e'.ty.kind),.c (.str e'.ty.name),.c (.int .i64 e'.ty.id),.c (.int .i64 e'.ty.home),.c (.sl (Ty.rows e'.ty.args))]:=by rw [Exp.row_eq];rfl
    have hkW:((subC n e' x b).take e'.kids.length).length=e'.kids.length:=by rw [List.length_take,hCl];omega
    have haW:(Za5 e'.arms ((subC n e' x b).drop e'.kids.length)).length=e'.arms.length:=by rw [armsW_len,List.length_drop,hCl];omega
    have hloop:=Zru (A:=A) x b (Zag b) n e' hs1.1 (by omega) hrec;simp only [expV,hrow'] at hc hw;simp only [q1,q2,q3,q4,q5,q6,q7,ham] at hc hw hrowW hkW haW hloop hCl;unfold v82;simp (maxSteps:=4000000) (disch:=first|omega|(simp;done)|(simp;omega)) [hk,k4,k6,k7,h8,hrow0,hcl,-getElem?_pos]
    refine Zaz (fun i=>⟨[(2,.sc (.ptr 64 0)),(3,.sc (.ptr 128 0)),(4,.sc (.ptr 192 0)),(36,.sc (.arr 2080 e.arms.length)),(37,intV e.arms.length),(38,intV i)],
     [(64,some (.box (Zca x b (Zag b)))),(128,some (.box [.c (.int .i64 8),.c (.int .i64 e.pos),.c (.str e.name),.c (.int .i64 e.num),.c (.sl (Exp.rows e.kids)),.arr 2080 e.arms.length,.c (.int .i64 e.ty.kind),.c (.str e.ty.name),.c (.int .i64 e.ty.id),.c (.int .i64 e.ty.home),.c (.sl (Ty.rows e.ty.args))])),(192,some Zde),
       (2080,some (.arr 14 (wr (Exp.armRows (am.take i++e.arms.drop i))) 0))]⟩) e.arms.length ?_ ?_ ?_
    ·simp
    ·intro i hi;obtain ⟨p,hp'⟩:=Zaa hi;have hca:=harm p (List.mem_of_getElem? hp');have hg:=Zb2 (i:=i) ham hi;rw [hp'] at hg;have hst:=Zb8 ham (hag i p hp');have hln:=Zb1 (i:=i) ham;have hset:=fun z=>ZcU (am.take i++e.arms.drop i) i z;rw [←hst];generalize am.take i++e.arms.drop i=zr at *
     have hsp:∀ p q:ArmH × Exp,splice (wc (Zar p)) 0 (wc (Zar q))=some (wc (Zar q)):=fun p q=>by rw [Zar,Zar,Exp.row_eq p.2,Exp.row_eq q.2];rfl
     have hi2:(i:Int)<e.arms.length:=by omega
     unfold ZsM;simp (maxSteps:=4000000) (disch:=first|omega|(simp;done)|(simp;omega)) [hi,hi2,hg,hln,hca,hsp,hset,Za6,-getElem?_pos]
    ·have htk:am.take e.arms.length++e.arms.drop e.arms.length=am:=by
      rw [List.drop_length,List.append_nil,List.take_of_length_le (by omega)]
     rw [htk];rw [h8] at hc hw hrowW hloop;unfold ZsM;simp (maxSteps:=4000000) (disch:=first|omega|(simp;done)|(simp;omega)) [hc,ham,q1,q2,-getElem?_pos];refine wp_mono hloop ?_;rintro _ _ ⟨rfl,rfl⟩;simp (maxSteps:=4000000) (disch:=first|omega|(simp;done)|(simp;omega)) [hw,hrowW,hCl,hkW,haW,ham,q1,q2,-getElem?_pos]
   ·have hpe:ZcQ x (Zag b) e=e:=by unfold ZcQ;rw [if_neg h4,if_neg h8]
    rw [hpe] at hP hW hN hrec hs1 hkk hkl ⊢
    by_cases hkids:e.kids=[]
    ·have harms:e.arms=[]:=hs.one.1.2.1 h8;have hc:=Zb5 (A:=A) e hkids harms;have hC0:subC n e x b=[]:=List.length_eq_zero_iff.1 (by rw [subC_len,hkids,harms];rfl);have hw:=ZgH (A:=A) e [] (by rw [hkids,harms];rfl) (by omega);rw [hC0]
     have hr1:Exp.rows []=[]:=by rw [Exp.rows]
     have hr2:Exp.armRows []=[]:=by rw [Exp.armRows]
     have hz:Za5 [] []=[]:=rfl
     have hrow:wc (Zcc e []).row=[.c (.int .i64 e.kind),.c (.int .i64 e.pos),.c (.str e.name),.c (.int .i64 e.num),.c (.sl []),.c (.sl []),.c (.int .i64 e.ty.kind),.c (.str e.ty.name),.c (.int .i64 e.ty.id),.c (.int .i64 e.ty.home),.c (.sl (Ty.rows e.ty.args))]:=by
      rw [Exp.row_eq];simp [Zcc,harms,Za5,hr1,hr2,Exp.kind,Exp.pos,Exp.name,Exp.num,Exp.kids,Exp.arms,Exp.ty,wc]
     simp only [exsV,hr1,hkids,harms,List.length_nil,List.take_nil,List.drop_nil,hz,hr2] at hw;unfold v82;simp (maxSteps:=4000000) (disch:=first|omega|(simp;done)|(simp;omega)) [hk,k4,k6,k7,h8,hc,-getElem?_pos];refine Zaz (fun i=>⟨[(2,.sc (.ptr 64 0)),(3,.sc (.ptr 128 0)),(4,.sc (.ptr 192 0)),(7,.sc (.full [])),(53,.sc (.full [])),(54,intV 0),(55,intV i)],[(64,some (.box (Zca x b (Zag b)))),(128,some (.box (wc e.row))),(192,some Zde)]⟩) 0 ?_ (fun i hi=>by omega) ?_
     ·simp
     ·unfold Zj0;simp (maxSteps:=4000000) (disch:=first|omega|(simp;done)|(simp;omega)) [hw,hrow,-getElem?_pos]
    ·have hne:e.kids≠[]:=hkids;obtain ⟨e',he'⟩:∃ e',e'=e:=⟨e,rfl⟩;have hrow0:=ZcH e;have hc:=ZbR (A:=A) e hne (by omega);rw [e.children_len] at hc;have hCl:=subC_len n e x b;have hw:=ZgH (A:=A) e (subC n e x b) hCl (by omega);have hrow':=ZcH e
     have hrowW:wc (Zcc e (subC n e x b)).row=[.c (.int .i64 e.kind),.c (.int .i64 e.pos),.c (.str e.name),.c (.int .i64 e.num),.c (.sl (Exp.rows ((subC n e x b).take e.kids.length))),.c (.sl (Exp.armRows (Za5 e.arms ((subC n e x b).drop e.kids.length)))),.c (.int .i64 e.ty.kind),.c (.str e.ty.name),.c (.int .i64 e.ty.id),.c (.int .i64 e.ty.home),.c (.sl (Ty.rows e.ty.args))]:=by rw [Exp.row_eq];rfl
     have hkW:((subC n e x b).take e.kids.length).length=e.kids.length:=by rw [List.length_take,hCl];omega
     have haW:(Za5 e.arms ((subC n e x b).drop e.kids.length)).length=e.arms.length:=by rw [armsW_len,List.length_drop,hCl];omega
     simp only [expV,hrow'] at hc hw;unfold v82;simp (maxSteps:=4000000) (disch:=first|omega|(simp;done)|(simp;omega)) [hk,k4,k6,k7,h8,hrow0,hc,-getElem?_pos];refine wp_mono (ZiQ (A:=A) x b (Zag b) n e hs1.1 (by omega) hrec) ?_;rintro _ _ ⟨rfl,rfl⟩;simp (maxSteps:=4000000) (disch:=first|omega|(simp;done)|(simp;omega)) [hw,hrowW,hCl,hkW,haW,-getElem?_pos]
theorem Zjo (l bs:List Str)(s:Str):rlast (l++bs) s=if s∈bs then (l.length:Int)+rlast bs s else rlast l s:=by
 unfold rlast Zbg;rw [List.reverse_append,List.findIdx_append]
 by_cases hb:s∈bs
 ·have hp:bs.reverse.findIdx (· == s)<bs.reverse.length:=ZaN.2 (List.mem_reverse.2 hb);rw [if_pos hb,if_pos (List.mem_append_right _ hb),if_pos hp,if_pos hb,List.length_append];omega
 ·have hp:¬bs.reverse.findIdx (· == s)<bs.reverse.length:=fun h=>hb (List.mem_reverse.1 (ZaN.1 h))
  have h2:s∈l++bs↔s∈l:=by simp [hb]
  by_cases hl:s∈l
  ·rw [if_pos (h2.2 hl),if_neg hp,if_neg hb,if_pos hl,List.length_append,List.length_reverse];omega
  ·rw [if_neg (fun h=>hl (h2.1 h)),if_neg hb,if_neg hl]
theorem ZgP {l r bs cs:List Str}{s t:Str}(h1:l.length=r.length):Zdj (l++bs) (r++cs) s t↔(s∈bs∧t∈cs∧rlast bs s=rlast cs t)∨(s∉bs∧t∉cs∧Zdj l r s t):=by
 unfold Zdj;rw [Zjo,Zjo]
 by_cases hs:s∈bs<;>by_cases ht:t∈cs
 ·have:=Zdm hs;simp only [hs,ht,if_true,true_and,not_true_eq_false,false_and,or_false];constructor
  ·rintro ⟨h,_⟩;omega
  ·intro h;exact ⟨by omega,.inl (by omega)⟩
 ·have h2:=Zdm hs
  have h3:rlast r t<r.length:=by
   by_cases hm:t∈r
   ·exact (ZcZ hm).2
   ·rw [Zb6 hm];omega
  simp only [hs,ht,if_true,if_false,false_and,and_false,not_true_eq_false,not_false_eq_true,or_false,iff_false];rintro ⟨h,_⟩;omega
 ·have h2:=Zdm ht
  have h3:rlast l s<l.length:=by
   by_cases hm:s∈l
   ·exact (ZcZ hm).2
   ·rw [Zb6 hm];omega
  simp only [hs,ht,if_true,if_false,false_and,and_false,not_true_eq_false,not_false_eq_true,or_false,iff_false];rintro ⟨h,_⟩;omega
 ·simp only [hs,ht,if_false,false_and,not_false_eq_true,true_and,false_or]
theorem Zi3 {l r bs cs:List Str}(h1:l.length=r.length)(s:Str)(d:Exp):(ofR (Zdj l r)).ext bs cs s d↔ofR (Zdj (l++bs) (r++cs)) s d:=by
 constructor
 ·rintro (⟨hs,t,ht,hr,hv⟩|⟨hs,⟨t,hR,hv⟩,hf⟩)
  ·exact ⟨t,(ZgP h1).2 (.inl ⟨hs,ht,hr⟩),hv⟩
  ·exact ⟨t,(ZgP h1).2 (.inr ⟨hs,hf t (by rw [hv.free];simp),hR⟩),hv⟩
 ·rintro ⟨t,hR,hv⟩;rcases (ZgP h1).1 hR with ⟨hs,ht,hr⟩|⟨hs,ht,hR⟩
  ·exact .inl ⟨hs,t,ht,hr,hv⟩
  ·refine .inr ⟨hs,⟨t,hR,hv⟩,fun u hu => ?_⟩;rw [hv.free,List.mem_singleton] at hu;exact hu▸ht
theorem ZmM (a:Exp):∀ c l r,shp a→shp c→l.length=r.length→(Zbb a c l r↔instR a c (ofR (Zdj l r))):=by
 induction a using Exp.ind with
 | h a ih =>
  intro c l r ha hc hl
  by_cases hk:a.kind=1
  ·constructor
   ·intro h;rw [ZbW] at h;have hkc:c.kind=1:=h.1.1.symm.trans hk;obtain ⟨c1,c2,_⟩:=ZcL hc.one.1 hkc;obtain ⟨n,t⟩:=hc.one.2.1 hkc;exact .mkVar hk ⟨c.name,h.2.1 hk,hkc,rfl,n,t,c1,c2⟩
   ·intro h;obtain ⟨t,hR,k,n,m,ty,ks,am⟩:=h.var hk;obtain ⟨a1,a2,a3⟩:=ZcL ha.one.1 hk;obtain ⟨an,at'⟩:=ha.one.2.1 hk;rw [ZbW];exact ⟨⟨hk.trans k.symm,an.trans m.symm,at'.trans ty.symm,by rw [a1,ks],by rw [a2,am]⟩,fun _=>n▸hR,fun h2=>by omega,fun h1=>absurd hk h1⟩
  ·constructor
   ·intro h;rw [ZbW] at h;obtain ⟨h1,_,h3,h4⟩:=h
    have harms:ZbZ a c:=by
     by_cases k2:a.kind=2
     ·intro i p q hp _;rw [ha.one.1.2.1 (by omega)] at hp;simp at hp
     ·exact (h4 hk k2).1
    refine .mk hk ⟨h1,h3,harms,fun i x y hx hy => ?_⟩
    by_cases k2:a.kind=2
    ·rw [Zjm ha.one k2] at hx;simp at hx
    ·have hbl:=Zjl h1 harms i;have hm:=List.mem_of_getElem? hx;refine ((ih x hm y _ _ (ha.child hm) (hc.child (List.mem_of_getElem? hy)) (by rw [List.length_append,List.length_append,hl,hbl])).1 ((h4 hk k2).2 i x y hx hy)).mono _ _ _ _ fun s _ d hd => ?_;exact (Zi3 hl s d).2 hd
   ·intro h;obtain ⟨h1,h2,h3,h4⟩:=h.node hk;rw [ZbW];refine ⟨h1,fun k=>absurd k hk,h2,fun _ _=>⟨h3,fun i x y hx hy => ?_⟩⟩;have hbl:=Zjl h1 h3 i;have hm:=List.mem_of_getElem? hx;refine (ih x hm y _ _ (ha.child hm) (hc.child (List.mem_of_getElem? hy)) (by rw [List.length_append,List.length_append,hl,hbl])).2 ((h4 i x y hx hy).mono _ _ _ _ fun s _ d hd => ?_);exact (Zi3 hl s d).1 hd
theorem Zgn {a c:Exp}(ha:shp a)(hc:shp c):Zbb a c [] []↔instR a c idV:=by
 rw [ZmM a c [] [] ha hc rfl]
 have h:∀ s t,Zdj [] [] s t↔s=t:=by
  intro s t;unfold Zdj;rw [Zb6 (by simp),Zb6 (by simp)];simp
 constructor
 ·intro hi;refine hi.mono _ _ _ _ fun s _ d hd => ?_;obtain ⟨t,hR,hv⟩:=hd;exact ⟨t,(h s t).1 hR,hv⟩
 ·intro hi;refine hi.mono _ _ _ _ fun s _ d hd => ?_;obtain ⟨t,hR,hv⟩:=hd;exact ⟨t,(h s t).2 hR,hv⟩
theorem ZnS:∀ u e e',idV u e→idV u e'→∀ w∈Zag e,w∈Zag e':=by
 intro u e e' h h' w hw;rw [(Zbj.1 h).free] at hw;rw [(Zbj.1 h').free];exact hw
theorem ZnN:∀ s e,idV s e→∃ t,isVar t e:=fun s _ h=>⟨s,Zbj.1 h⟩
theorem Zpk {s:Str}{d d':Exp}(h:isVar s d)(h':isVar s d'):instR d d' idV:=h.inst.2 (Zbj.2 h')
theorem ZmW {x:Str}{a a' b b':Exp}(sa:shp a)(sa':shp a')(sb:shp b)(sb':shp b')(pa:properP a)(pa':properP a')(h:Zbb a a' [] [])(hb:Zbb b b' [] []):Zbb (subP a x b) (subP a' x b') [] []:=by
 have i1:=ZcE x b sb a.weight a (Nat.le_refl _) sa pa;have i2:=ZcE x b' sb' a'.weight a' (Nat.le_refl _) sa' pa';rw [Zgn sa sa'] at h;rw [Zgn sb sb'] at hb;refine (Zgn (ZdE x b sb _ _ (Nat.le_refl _) sa pa) (ZdE x b' sb' _ _ (Nat.le_refl _) sa' pa')).2 ?_;refine instR.uniq a a' _ _ idV idV _ _ h i1 i2 ?_ ZnN ZnS;intro s e d d' hse hd hd';rw [(Zbj.1 hse).inst] at hd';unfold subV at hd hd'
 by_cases hsx:s=x
 ·rw [if_pos hsx] at hd hd';rw [hd,hd'];exact hb
 ·rw [if_neg hsx] at hd hd';exact Zpk hd hd'
theorem Zpu {x y:Str}(hxy:x≠y){a b c:Exp}(sa:shp a)(sb:shp b)(sc:shp c)(pa:properP a)(pb:properP b)(pc:properP c)(hx:x∉Zag c) :
 Zbb (subP (subP a x b) y c) (subP (subP a y c) x (subP b y c)) [] []:=by
 have i1:=ZcE x b sb a.weight a (Nat.le_refl _) sa pa;have s1:=ZdE x b sb a.weight a (Nat.le_refl _) sa pa;have p1:=Zeu x b pb a.weight a (Nat.le_refl _) sa pa;have i2:=ZcE y c sc a.weight a (Nat.le_refl _) sa pa;have s2:=ZdE y c sc a.weight a (Nat.le_refl _) sa pa;have p2:=Zeu y c pc a.weight a (Nat.le_refl _) sa pa;have i3:=ZcE y c sc b.weight b (Nat.le_refl _) sb pb;have s3:=ZdE y c sc b.weight b (Nat.le_refl _) sb pb;have i4:=ZcE y c sc _ _ (Nat.le_refl _) s1 p1;have s4:=ZdE y c sc _ _ (Nat.le_refl _) s1 p1;have i5:=ZcE x _ s3 _ _ (Nat.le_refl _) s2 p2;have s5:=ZdE x _ s3 _ _ (Nat.le_refl _) s2 p2;refine (Zgn s4 s5).2 ?_;have l1:=i1.comp _ _ _ _ _ (Zoa sb) i4;have l2:=i2.comp _ _ _ _ _ (Zoa sc) i5;refine instR.uniq a a _ _ idV idV _ _ (.refl a idV sa fun s _ c hc=>Zbj.2 hc) l1 l2 ?_ ZnN ZnS;intro s e d d' hse hd hd';rw [(Zbj.1 hse).inst] at hd';obtain ⟨u,hu,su,hud⟩:=hd;obtain ⟨w,hw,sw,hwd⟩:=hd';unfold subV at hu hw
 by_cases hsx:s=x
 ·rw [if_pos hsx] at hu;rw [if_neg (fun q:s=y=>hxy (hsx.symm.trans q))] at hw;rw [hw.inst] at hwd;unfold subV at hwd;rw [if_pos hsx] at hwd;subst hu hwd;refine instR.uniq u u _ _ idV idV _ _ (.refl u idV su fun s _ c hc=>Zbj.2 hc) hud i3 ?_ ZnN ZnS;intro s e d d' hse hd hd';rw [(Zbj.1 hse).inst] at hd';unfold subV at hd hd'
  by_cases hsy:s=y
  ·rw [if_pos hsy] at hd hd';rw [hd,hd'];exact .refl c idV sc fun s _ c hc=>Zbj.2 hc
  ·rw [if_neg hsy] at hd hd';exact Zpk hd hd'
 ·rw [if_neg hsx] at hu;rw [hu.inst] at hud;unfold subV at hud
  by_cases hsy:s=y
  ·rw [if_pos hsy] at hud hw;subst hud hw;refine hwd.mono _ _ _ _ fun s hs e he => ?_;unfold subV at he;rw [if_neg (fun q:s=x=>hx (q▸hs))] at he;exact Zbj.2 he
  ·rw [if_neg hsy] at hud hw;rw [hw.inst] at hwd;unfold subV at hwd;rw [if_neg hsx] at hwd;exact Zpk hud hwd
end Go.Vs.Tryz
