/- Substitution by the program, walked. (Parts of one proof, put together.) -/
import Derived.Test.YtlcncicmkkelcaaGreatDoorRGb
import Derived.Test.YtlcncicmkkelcaaGreatDoorRFb
set_option linter.unusedSimpArgs false
set_option linter.unusedVariables false
set_option linter.deprecated false
set_option maxHeartbeats 16000000
set_option maxRecDepth 10000
namespace Go.Vs.Tryz
open Go Go.Vs
variable {A:Zac}
theorem Zkz {x:Str}{b e e':Exp}(h:PrepOk x b e e'):e'.weight=e.weight:=by
 rw [e'.weight_eq,e.weight_eq,h.sum]
 congr 2
 refine List.ext_getElem? fun i => ?_
 rw [List.getElem?_map,List.getElem?_map]
 by_cases hi:i<e.children.length
 ·obtain ⟨x0,h0⟩:=Zaa hi
  obtain ⟨x1,h1⟩:=Zaa (l:=e'.children) (i:=i) (by rw [Zco h];exact hi)
  rw [h0,h1]
  simp only [Option.map_some,(h.kids i x0 x1 h0 h1).weight]
 ·have h1:e'.children[i]?=none:=List.getElem?_eq_none (by rw [Zco h];omega)
  have h2:e.children[i]?=none:=List.getElem?_eq_none (by omega)
  rw [h1,h2]
theorem Zp1 {x:Str}{b e:Exp}(hs:shp e)(hp:properP e)(hn:nmL e)(hl:e.weight+(Zaf b).length≤67108864):∀ y∈(ZcM x (Zaf b) e).children,nmL y:=by
 intro y hy
 obtain ⟨i,hi⟩:=List.mem_iff_getElem?.1 hy
 have hal:=Zfa e hs.wf
 unfold ZcM at hi
 by_cases h:e.kind=4∨e.kind=6∨e.kind=7
 ·rw [if_pos h] at hi
  obtain ⟨ha,hc⟩:=ZaT (by omega) hs.one
  unfold Zcq at hi
  split at hi
  ·exact hn.child hi
  ·have hc':∀ to ks,(Exp.mk e.kind e.pos to e.num ks e.arms e.ty).children=ks:=fun to ks=>by rw [ZaH,ha];simp
   rw [hc'] at hi
   have hlt:=(List.getElem?_eq_some_iff.1 hi).1
   simp only [List.length_map,List.length_zipIdx] at hlt
   obtain ⟨z,hz⟩:=Zaa hlt
   simp only [List.getElem?_map,List.getElem?_zipIdx,hz,Option.map_some,Nat.zero_add,Option.some.injEq] at hi
   subst hi
   have hnz:nmL z:=hn.child (i:=i) (by rw [hc];exact hz)
   split
   ·exact hnz
   ·exact Zll hnz (Zi5 _ _ (by simp;omega))
 ·rw [if_neg h] at hi
  by_cases h8:e.kind=8
  ·rw [if_pos h8,ZaH] at hi
   rcases Nat.lt_or_ge i e.kids.length with hk|hk
   ·rw [List.getElem?_append_left hk] at hi
    exact hn.child (i:=i) (Znd hi)
   ·rw [List.getElem?_append_right hk,List.getElem?_map] at hi
    obtain ⟨q,hq,rfl⟩:=Option.map_eq_some_iff.1 hi
    rw [List.getElem?_map] at hq
    obtain ⟨p,hp',rfl⟩:=Option.map_eq_some_iff.1 hq
    have hm:=List.mem_of_getElem? hp'
    have hnp:nmL p.2:=hn.child (Zcp hp')
    have hvl:=Exp.vars_le hm
    have hwl:=Exp.child_lt (Zca hm)
    unfold armP
    split
    ·exact hnp
    ·rename_i hx
     refine (Zge (free:=Zaf b) (hp.one p hm) hx (hs.child (Zca hm)) (hp.child (Zca hm)) (by omega) hnp (fun s hs' => ?_) p.1.vars.length (Nat.le_refl _)).1
     refine hn s (ZaA.2 (.inr ⟨e.kids.length+(i-e.kids.length),p.2,Zcp hp',.inl ?_⟩))
     have hk1:=hs.one.1.1 h8
     rw [ZaD,if_neg (by omega),if_pos ⟨h8,by omega⟩,hk1,show 1+(i-1)-1=i-1 by omega,←hk1,hp']
     exact hs'
  ·rw [if_neg h8] at hi
   exact hn.child hi
theorem ZoL {l:List (ArmH × Exp)}(h:l≠[]):∃ c rows,Exp.armRows l=c::rows:=by
 cases l with
 | nil=>exact absurd rfl h
 | cons e r=>obtain ⟨a,b⟩:=e;exact ⟨_,Exp.armRows r,by rw [Exp.armRows]⟩
theorem ZqA (l:List (ArmH × Exp))(hl:l.length≤4294967296):(K A).call 144 [armsV l] []=some (.sc (.arr 0 l.length),[.arr 14 (wr (Exp.armRows l)) 0]):=by
 by_cases h:l=[]
 ·subst h
  have hr:Exp.armRows []=[]:=by rw [Exp.armRows]
  rw [hr]
  exact ZjR (by kernel_rfl) (by kernel_rfl) (by kernel_rfl) (by kernel_rfl)
 ·obtain ⟨c,rows,hr⟩:=ZoL h
  have hlen:rows.length+1=l.length:=by
   have:=Exp.armRows_len l
   rw [hr] at this
   simpa using this
  have hok:Za0 14 (wr (c::rows))=true:=hr▸okRows_arm l
  have hp:armsV l=V.sc (.c (.sl (c::rows))):=by rw [←hr]
  rw [hr,hp,Zfx (by kernel_rfl) (by kernel_rfl)]
  refine ZiO (vf:=v144) (by kernel_rfl) rfl (by decide) ?_
  unfold v144
  rw [wr_cons] at hok
  simp (disch:=first|omega|(simp;done)|(simp;omega)) [hok]
  omega
theorem ZaU (e:Exp):wc e.row=[.c (.int .i64 e.kind),.c (.int .i64 e.pos),.c (.str e.name),.c (.int .i64 e.num),.c (.sl (Exp.rows e.kids)),.c (.sl (Exp.armRows e.arms)),.c (.int .i64 e.ty.kind),.c (.str e.ty.name),.c (.int .i64 e.ty.id),.c (.int .i64 e.ty.home),.c (.sl (Ty.rows e.ty.args))]:=by rw [Exp.row_eq];rfl
theorem ZiD (x:Str)(b:Exp)(free:List Str)(n:Nat)(e:Exp)(hw:e.wf1)(hl:e.weight≤67108864)(hrec:∀ y∈e.children,(K A).call 82 [.ag (Zb7 x b free),expV y] []=some (expV (subN n y x b),[])) :
 wp (K A) (.loop ZiU) (fun ex s=>ex=.exit 3∧s=⟨[(2,.sc (.ptr 64 0)),(3,.sc (.ptr 128 0)),(4,.sc (.ptr 192 0)),(7,.sc (.arr 3680 (e.kids.length+e.arms.length))),(53,.sc (.arr 3680 (e.kids.length+e.arms.length))),(54,intV ((e.kids.length:Int)+e.arms.length)),(55,intV ((e.kids.length:Int)+e.arms.length)),(56,Zah false)],
     [(64,some (.box (Zb7 x b free))),(128,some (.box [.c (.int .i64 e.kind),.c (.int .i64 e.pos),.c (.str e.name),.c (.int .i64 e.num),.c (.sl (Exp.rows e.kids)),.c (.sl (Exp.armRows e.arms)),.c (.int .i64 e.ty.kind),.c (.str e.ty.name),.c (.int .i64 e.ty.id),.c (.int .i64 e.ty.home),.c (.sl (Ty.rows e.ty.args))])),(192,some Zej),(3680,some (.arr 11 (wr (Exp.rows (subC n e x b))) 0))]⟩)
  ⟨[(2,.sc (.ptr 64 0)),(3,.sc (.ptr 128 0)),(4,.sc (.ptr 192 0)),(7,.sc (.arr 3680 (e.kids.length+e.arms.length))),(53,.sc (.arr 3680 (e.kids.length+e.arms.length))),(54,intV ((e.kids.length:Int)+e.arms.length)),(55,intV 0)],
    [(64,some (.box (Zb7 x b free))),(128,some (.box [.c (.int .i64 e.kind),.c (.int .i64 e.pos),.c (.str e.name),.c (.int .i64 e.num),.c (.sl (Exp.rows e.kids)),.c (.sl (Exp.armRows e.arms)),.c (.int .i64 e.ty.kind),.c (.str e.ty.name),.c (.int .i64 e.ty.id),.c (.int .i64 e.ty.home),.c (.sl (Ty.rows e.ty.args))])),(192,some Zej),(3680,some (.arr 11 (wr (Exp.rows e.children)) 0))]⟩:=by
 have hle:=e.children_le
 rw [e.children_len] at hle
 have hCl:=subC_len n e x b
 have hC2:(subC n e x b).length=e.children.length:=by rw [hCl,e.children_len]
 have hcg:=fun {i:Nat} {y:Exp} (h:e.children[i]?=some y)=>ZeM (n:=n) (x:=x) (b:=b) h
 generalize subC n e x b=cc at *
 refine Zaz (fun i=>⟨[(2,.sc (.ptr 64 0)),(3,.sc (.ptr 128 0)),(4,.sc (.ptr 192 0)),(7,.sc (.arr 3680 (e.kids.length+e.arms.length))),(53,.sc (.arr 3680 (e.kids.length+e.arms.length))),(54,intV ((e.kids.length:Int)+e.arms.length)),(55,intV i)],
  [(64,some (.box (Zb7 x b free))),(128,some (.box [.c (.int .i64 e.kind),.c (.int .i64 e.pos),.c (.str e.name),.c (.int .i64 e.num),.c (.sl (Exp.rows e.kids)),.c (.sl (Exp.armRows e.arms)),.c (.int .i64 e.ty.kind),.c (.str e.ty.name),.c (.int .i64 e.ty.id),.c (.int .i64 e.ty.home),.c (.sl (Ty.rows e.ty.args))])),(192,some Zej),(3680,some (.arr 11 (wr (Exp.rows (cc.take i++e.children.drop i))) 0))]⟩) (e.kids.length+e.arms.length) ?_ ?_ ?_
 ·simp
 ·intro i hi
  have hi1:i<e.children.length:=by rw [e.children_len];exact hi
  obtain ⟨y,hy⟩:=Zaa hi1
  have hm:=List.mem_of_getElem? hy
  have hr:=hrec y hm
  have hb:=Zgf (A:=A) e i hw hi1 (by omega)
  simp only [expV,ZaU e] at hb
  have hbl:=Nat.le_trans (e.bound_le i) hl
  have hco:=Zby (A:=A) (e.bound i) x (by omega)
  have hcx:=hcg hy
  have hg:=Zcz (i:=i) hC2 hi1
  rw [hy] at hg
  have hst:=Zcg hC2 hcx
  have hln:=ZcA (i:=i) hC2
  rw [e.children_len] at hln
  have hi2:(i:Int)<(e.kids.length:Int)+e.arms.length:=by omega
  have hset:=fun z=>Zd7 (cc.take i++e.children.drop i) i z
  rw [←hst]
  generalize cc.take i++e.children.drop i=zr at *
  unfold ZiU
  by_cases hf:x∈e.bound i
  ·have hsame:zr.set i y=zr:=by
    refine List.ext_getElem? fun m => ?_
    rw [List.getElem?_set]
    split
    ·rename_i h
     subst h
     rw [hg]
     split
     ·rfl
     ·omega
    ·rfl
   rw [if_pos hf,hsame]
   simp (maxSteps:=4000000) (disch:=first|omega|(simp;done)|(simp;omega)) [hi,hi2,hg,hln,hb,hco,hf,Zbi,-getElem?_pos]
  ·rw [if_neg hf]
   simp (maxSteps:=4000000) (disch:=first|omega|(simp;done)|(simp;omega)) [hi,hi2,hg,hln,hb,hco,hf,hr,hset,Zbi,-getElem?_pos]
 ·have htk:cc.take (e.kids.length+e.arms.length)++e.children.drop (e.kids.length+e.arms.length)=cc:=by
   rw [List.drop_of_length_le (by rw [e.children_len];omega),List.append_nil,List.take_of_length_le (by omega)]
  rw [htk]
  unfold ZiU
  simp (maxSteps:=4000000) (disch:=first|omega|(simp;done)|(simp;omega)) [-getElem?_pos]
theorem ZtJ (x:Str)(b:Exp)(free:List Str)(n:Nat)(e:Exp)(hw:e.wf1)(hl:e.weight≤67108864)(hrec:∀ y∈e.children,(K A).call 82 [.ag (Zb7 x b free),expV y] []=some (expV (subN n y x b),[])) :
 wp (K A) (.loop ZiU) (fun ex s=>ex=.exit 3∧s=⟨[(2,.sc (.ptr 64 0)),(3,.sc (.ptr 128 0)),(4,.sc (.ptr 192 0)),(7,.sc (.arr 3680 (e.kids.length+e.arms.length))),(53,.sc (.arr 3680 (e.kids.length+e.arms.length))),(54,intV ((e.kids.length:Int)+e.arms.length)),(55,intV ((e.kids.length:Int)+e.arms.length)),(56,Zah false)],
     [(64,some (.box (Zb7 x b free))),(128,some (.box [.c (.int .i64 e.kind),.c (.int .i64 e.pos),.c (.str e.name),.c (.int .i64 e.num),.c (.sl (Exp.rows e.kids)),.arr 2080 e.arms.length,.c (.int .i64 e.ty.kind),.c (.str e.ty.name),.c (.int .i64 e.ty.id),.c (.int .i64 e.ty.home),.c (.sl (Ty.rows e.ty.args))])),(192,some Zej),(2080,some (.arr 14 (wr (Exp.armRows e.arms)) e.arms.length)),(3680,some (.arr 11 (wr (Exp.rows (subC n e x b))) 0))]⟩)
  ⟨[(2,.sc (.ptr 64 0)),(3,.sc (.ptr 128 0)),(4,.sc (.ptr 192 0)),(7,.sc (.arr 3680 (e.kids.length+e.arms.length))),(53,.sc (.arr 3680 (e.kids.length+e.arms.length))),(54,intV ((e.kids.length:Int)+e.arms.length)),(55,intV 0)],
    [(64,some (.box (Zb7 x b free))),(128,some (.box [.c (.int .i64 e.kind),.c (.int .i64 e.pos),.c (.str e.name),.c (.int .i64 e.num),.c (.sl (Exp.rows e.kids)),.arr 2080 e.arms.length,.c (.int .i64 e.ty.kind),.c (.str e.ty.name),.c (.int .i64 e.ty.id),.c (.int .i64 e.ty.home),.c (.sl (Ty.rows e.ty.args))])),(192,some Zej),(2080,some (.arr 14 (wr (Exp.armRows e.arms)) e.arms.length)),(3680,some (.arr 11 (wr (Exp.rows e.children)) 0))]⟩:=by
 have hle:=e.children_le
 rw [e.children_len] at hle
 have hCl:=subC_len n e x b
 have hC2:(subC n e x b).length=e.children.length:=by rw [hCl,e.children_len]
 have hcg:=fun {i:Nat} {y:Exp} (h:e.children[i]?=some y)=>ZeM (n:=n) (x:=x) (b:=b) h
 generalize subC n e x b=cc at *
 refine Zaz (fun i=>⟨[(2,.sc (.ptr 64 0)),(3,.sc (.ptr 128 0)),(4,.sc (.ptr 192 0)),(7,.sc (.arr 3680 (e.kids.length+e.arms.length))),(53,.sc (.arr 3680 (e.kids.length+e.arms.length))),(54,intV ((e.kids.length:Int)+e.arms.length)),(55,intV i)],
  [(64,some (.box (Zb7 x b free))),(128,some (.box [.c (.int .i64 e.kind),.c (.int .i64 e.pos),.c (.str e.name),.c (.int .i64 e.num),.c (.sl (Exp.rows e.kids)),.arr 2080 e.arms.length,.c (.int .i64 e.ty.kind),.c (.str e.ty.name),.c (.int .i64 e.ty.id),.c (.int .i64 e.ty.home),.c (.sl (Ty.rows e.ty.args))])),(192,some Zej),(2080,some (.arr 14 (wr (Exp.armRows e.arms)) e.arms.length)),(3680,some (.arr 11 (wr (Exp.rows (cc.take i++e.children.drop i))) 0))]⟩) (e.kids.length+e.arms.length) ?_ ?_ ?_
 ·simp
 ·intro i hi
  have hi1:i<e.children.length:=by rw [e.children_len];exact hi
  obtain ⟨y,hy⟩:=Zaa hi1
  have hm:=List.mem_of_getElem? hy
  have hr:=hrec y hm
  have hb:=Zgf (A:=A) e i hw hi1 (by omega)
  simp only [expV,ZaU e] at hb
  have hbl:=Nat.le_trans (e.bound_le i) hl
  have hco:=Zby (A:=A) (e.bound i) x (by omega)
  have hcx:=hcg hy
  have hg:=Zcz (i:=i) hC2 hi1
  rw [hy] at hg
  have hst:=Zcg hC2 hcx
  have hln:=ZcA (i:=i) hC2
  rw [e.children_len] at hln
  have hi2:(i:Int)<(e.kids.length:Int)+e.arms.length:=by omega
  have hset:=fun z=>Zd7 (cc.take i++e.children.drop i) i z
  rw [←hst]
  generalize cc.take i++e.children.drop i=zr at *
  unfold ZiU
  by_cases hf:x∈e.bound i
  ·have hsame:zr.set i y=zr:=by
    refine List.ext_getElem? fun m => ?_
    rw [List.getElem?_set]
    split
    ·rename_i h
     subst h
     rw [hg]
     split
     ·rfl
     ·omega
    ·rfl
   rw [if_pos hf,hsame]
   simp (maxSteps:=4000000) (disch:=first|omega|(simp;done)|(simp;omega)) [hi,hi2,hg,hln,hb,hco,hf,Zbi,-getElem?_pos]
  ·rw [if_neg hf]
   simp (maxSteps:=4000000) (disch:=first|omega|(simp;done)|(simp;omega)) [hi,hi2,hg,hln,hb,hco,hf,hr,hset,Zbi,-getElem?_pos]
 ·have htk:cc.take (e.kids.length+e.arms.length)++e.children.drop (e.kids.length+e.arms.length)=cc:=by
   rw [List.drop_of_length_le (by rw [e.children_len];omega),List.append_nil,List.take_of_length_le (by omega)]
  rw [htk]
  unfold ZiU
  simp (maxSteps:=4000000) (disch:=first|omega|(simp;done)|(simp;omega)) [-getElem?_pos]
variable {A:Zac}
theorem ZqS {x con:Str}{b:Exp}{p:List Str × Exp}(hw:p.2.wf):newA x con b p∉allP p.2:=by
 intro h
 have hf:=Zbc 0 (Zaf b++ZbK p.2++[x,con]++p.1)
 have h2:=(Ze0 p.2 (s:=newA x con b p) (Zga _) hw).2 h
 exact hf (List.mem_append.2 (.inl (List.mem_append.2 (.inl (List.mem_append.2 (.inr h2))))))
theorem ZlA {x:Str}{b e:Exp}(hw:e.wf):newR x b e∉allP e:=by
 intro h
 have hf:=Zbc 0 (Zaf b++ZbK e++[x])
 have h2:=(Ze0 e (s:=newR x b e) (Zga _) hw).2 h
 exact hf (List.mem_append.2 (.inl (List.mem_append.2 (.inr h2))))
theorem ZrA (x:Str)(b e:Exp):newR x b e≠x:=fun h=>Zbc 0 (Zaf b++ZbK e++[x]) (by
 rw [show ZaK 0 (Zaf b++ZbK e++[x])=x from h]
 simp)
theorem ZkI {n:Nat}{e:Exp}{f to:Str}(hs:shp e)(hw:e.weight≤n)(ht:to∉allP e):shp (refS n e f (varX to))∧(refS n e f (varX to)).weight=e.weight:=by
 have h:=Zef f to n e e (ZfL e) hw hs ht
 exact ⟨sameP.shp _ _ h (Zic f to e hs),(sameP.weight _ _ h).symm.trans (ZeE f to e)⟩
theorem Zg1 {n:Nat}{x con:Str}{b e:Exp}{vs:List Str}(hs:shp e)(hw:e.weight≤n)(hx:x∉vs):∀ k,shp (Zb3 (refS n) x b con vs e k).2∧(Zb3 (refS n) x b con vs e k).2.weight=e.weight ∧
 (Zb3 (refS n) x b con vs e k).1.length=vs.length∧x∉(Zb3 (refS n) x b con vs e k).1
 | 0=>⟨hs,rfl,rfl,hx⟩
 | k+1=>by
  obtain ⟨h1,h2,h3,h4⟩:=Zg1 (b:=b) (con:=con) hs hw hx k
  rw [Zdy]
  generalize Zb3 (refS n) x b con vs e k=p at *
  unfold Zd3
  cases p.1[k]? with
  | none=>exact ⟨h1,h2,h3,h4⟩
  | some v =>
   simp only
   split
   ·obtain ⟨g1,g2⟩:=ZkI (n:=n) (f:=v) h1 (by omega) (ZqS (x:=x) (con:=con) (b:=b) h1.wf)
    refine ⟨g1,g2.trans h2,by rw [List.length_set];exact h3,fun hm => ?_⟩
    rcases Zh7 hm with hm|hm
    ·exact h4 hm
    ·have hf:=Zbc 0 (Zaf b++ZbK p.2++[x,con]++p.1)
     apply hf
     rw [show ZaK 0 (Zaf b++ZbK p.2++[x,con]++p.1)=x from hm.symm]
     simp
   ·exact ⟨h1,h2,h3,h4⟩
def Zmp (A:Zac)(n:Nat):Prop:=∀ (e:Exp) (x:Str) (b:Exp),e.weight≤n→e.weight≤100000→shp e→b.wf→b.weight≤100000→(K A).call 36 [expV e,strV x,expV b] []=some (expV (refS n e x b),[])
theorem ZiE (s:Str):(varX s).wf∧(varX s).weight=1:=by
 refine ⟨?_,?_⟩
 ·rw [Exp.wf_eq]
  refine ⟨⟨fun h => ?_,fun _=>rfl,fun _=>rfl⟩,fun x hx => ?_⟩
  ·exact absurd (show (1:Int)=8 from h) (by decide)
  ·simp [varX,Exp.children,Exp.kids,Exp.arms] at hx
 ·rw [Exp.weight_eq]
  simp [varX,Exp.children,Exp.kids,Exp.arms]
theorem Zk1 (s:Str):expV (varX s)=.ag [.c (.int .i64 1),.c (.int .i64 0),.c (.str s),.c (.int .i64 0),.c (.sl []),.c (.sl []),.c (.int .i64 0),.c (.str []),.c (.int .i64 0),.c (.int .i64 0),.c (.sl [])]:=by
 rw [expV,Exp.row_eq]
 simp [varX,Exp.kind,Exp.pos,Exp.name,Exp.num,Exp.kids,Exp.arms,Exp.ty,Exp.rows,Exp.armRows,tz,Ty.kind,Ty.name,Ty.id,Ty.home,Ty.args,Ty.rows,wc]
theorem ZoO (ks:List Exp):expV (.mk 5 0 [] 0 ks [] tz)=.ag [.c (.int .i64 5),.c (.int .i64 0),.c (.str []),.c (.int .i64 0),.c (.sl (Exp.rows ks)),.c (.sl []),.c (.int .i64 0),.c (.str []),.c (.int .i64 0),.c (.int .i64 0),.c (.sl [])]:=by
 rw [expV,Exp.row_eq]
 simp [Exp.kind,Exp.pos,Exp.name,Exp.num,Exp.kids,Exp.arms,Exp.ty,Exp.armRows,tz,Ty.kind,Ty.name,Ty.id,Ty.home,Ty.args,Ty.rows,wc]
theorem Zf8 {n:Nat}(hI:Zmp A n)(e:Exp)(f t:Str)(hn:e.weight≤n)(hl:e.weight≤100000)(hs:shp e):(K A).call 90 [expV e,strV f,strV t] []=some (expV (refS n e f (varX t)),[]):=by
 refine Zan (vf:=v90) (by kernel_rfl) rfl (by simp) ?_
 have h:=hI e f (varX t) hn hl hs (ZiE t).1 (by rw [(ZiE t).2];omega)
 have hrow:=ZaU (refS n e f (varX t))
 generalize refS n e f (varX t)=r at *
 rw [Zk1] at h
 unfold v90
 simp (maxSteps:=4000000) (disch:=first|omega|(simp;done)|(simp;omega)) [h,hrow,-getElem?_pos]
def Zb1 (n:Nat)(x:Str)(b:Exp)(a:ArmH × Exp):ArmH × Exp:=if x∈a.1.vars then a else ((ZcC (refS n) x b a).1,refS n (ZcC (refS n) x b a).2 x b)
theorem arm91 {n:Nat}(hI:Zmp A n)(x:Str)(b:Exp)(hb:b.wf)(hbw:b.weight≤100000)(a:ArmH × Exp)(hs:shp a.2)(hn:a.2.weight≤n)(hl0:a.2.weight≤100000)(hl:a.2.weight+a.1.vars.length≤200000) :
 (K A).call 91 [armV a,strV x,expV b] []=some (armV (Zb1 n x b a),[]):=by
 refine Zan (vf:=v91) (by kernel_rfl) rfl (by simp) ?_
 have hc0:=ZjV (A:=A) a.1.vars x (by omega)
 unfold Zb1 ZcC
 unfold v91
 by_cases hx:x∈a.1.vars
 ·rw [if_pos hx]
  have hrow:wc (Zao a)=[.c (.int .i64 a.1.pos),.c (.str a.1.con),.c (.sl (Zag a.1.vars)),.c (.int .i64 a.2.kind),.c (.int .i64 a.2.pos),.c (.str a.2.name),.c (.int .i64 a.2.num),.c (.sl (Exp.rows a.2.kids)),.c (.sl (Exp.armRows a.2.arms)),.c (.int .i64 a.2.ty.kind),.c (.str a.2.ty.name),.c (.int .i64 a.2.ty.id),.c (.int .i64 a.2.ty.home),.c (.sl (Ty.rows a.2.ty.args))]:=by rw [Zao,Exp.row_eq];rfl
  simp (maxSteps:=4000000) (disch:=first|omega|(simp;done)|(simp;omega)) [hc0,hx,hrow,-getElem?_pos]
 ·rw [if_neg hx,if_neg hx]
  have hok:=Zg1 (n:=n) (b:=b) (con:=a.1.con) hs hn hx
  have hst:=Zdy (refS n) x b a.1.con a.1.vars a.2
  have h0:Zb3 (refS n) x b a.1.con a.1.vars a.2 0=(a.1.vars,a.2):=rfl
  have hfree:=Zi3 (A:=A) b hb (by omega)
  rw [ZdZ b hb] at hfree
  have hfl:=ZbY b
  obtain ⟨⟨ap,ac,vars⟩,ab⟩:=a
  simp only at *
  have hsp0:splice (wc (Zao ((⟨ap,ac,vars⟩:ArmH),ab))) 2 [W.arr 768 vars.length]=some (W.c (.int .i64 ap)::W.c (.str ac)::W.arr 768 vars.length::wc ab.row):=by
   rw [Zao,Exp.row_eq ab]
   rfl
  have hcu1:∀ y:Exp,cut (W.c (.int .i64 ap)::W.c (.str ac)::W.arr 768 vars.length::wc y.row) 1 1=some [W.c (.str ac)]:=by
   intro y
   rw [Exp.row_eq y]
   rfl
  have hcu2:∀ y:Exp,cut (W.c (.int .i64 ap)::W.c (.str ac)::W.arr 768 vars.length::wc y.row) 2 1=some [W.arr 768 vars.length]:=by
   intro y
   rw [Exp.row_eq y]
   rfl
  have hcu3:∀ y:Exp,cut (W.c (.int .i64 ap)::W.c (.str ac)::W.arr 768 vars.length::wc y.row) 3 11=some (wc y.row):=by
   intro y
   rw [Exp.row_eq y]
   rfl
  have hsp3:∀ y z:Exp,splice (W.c (.int .i64 ap)::W.c (.str ac)::W.arr 768 vars.length::wc y.row) 3 (wc z.row)=some (W.c (.int .i64 ap)::W.c (.str ac)::W.arr 768 vars.length::wc z.row):=by
   intro y z
   rw [Exp.row_eq y,Exp.row_eq z]
   rfl
  simp (maxSteps:=4000000) (disch:=first|omega|(simp;done)|(simp;omega)) [hc0,hx,hsp0,-getElem?_pos]
  refine Zaz (fun k=>⟨[(1,strV x),(3,.sc (.ptr 64 0)),(5,.sc (.ptr 128 0)),(6,.sc (.ptr 192 0)),(7,intV k)],
   [(64,some (.box (W.c (.int .i64 ap)::W.c (.str ac)::W.arr 768 vars.length::wc (Zb3 (refS n) x b ac vars ab k).2.row))),(128,some (.box (wc b.row))),(192,some (.box [zi,zs,.nil,zi,zi,zs,zi,.nil,.nil,zi,zs,zi,zi,.nil])),(768,some (.arr 1 (wr (Zag (Zb3 (refS n) x b ac vars ab k).1)) 0))]⟩) vars.length ?_ ?_ ?_
  ·simp [h0]
  ·intro k hk
   obtain ⟨o1,o2,o3,o4⟩:=hok k
   rw [hst k]
   generalize Zb3 (refS n) x b ac vars ab k=p at *
   obtain ⟨vs,bk⟩:=p
   simp only at *
   obtain ⟨v,hvk⟩:=Zaa (l:=vs) (i:=k) (by omega)
   have hcl:=Zj8 (A:=A) v x b bk hb o1.wf (by omega) (by omega)
   have hall:=Ztg (A:=A) bk (by omega)
   have hal:=ZdD bk
   have hun:=Zis (A:=A) (Zaf b++ZbK bk++[x,ac]++vs) (by simp;omega)
   have hren:=fun to=>Zf8 hI bk v to (by omega) (by omega) o1
   have hkI:(k:Int)<vars.length:=by omega
   unfold Zd3 newA
   simp only [hvk]
   unfold Zth
   by_cases hh:v∈Zaf b∧x∈Zaf bk
   ·rw [if_pos hh]
    generalize Zaf b=P at *
    generalize ZbK bk=R at *
    generalize ZaK 0 (P++R++[x,ac]++vs)=to at *
    have hrv:=hren to
    generalize refS n bk v (varX to)=bk2 at *
    simp only [List.append_assoc,List.cons_append,List.nil_append] at hun
    have hset:=Zg2 vs k to
    have hfold:wr (Zag (P++R))++[W.c (.str x)]::[W.c (.str ac)]::wr (Zag vs)=wr (Zag (P++(R++x::ac::vs))):=by simp [Zag,ZdG,wr,wc]
    have hcm:2+vars.length=vars.length+2:=by omega
    simp (maxSteps:=4000000) (disch:=first|omega|(simp;done)|(simp;omega)) [hk,hkI,hvk,o3,hcu1,hcu2,hcu3,hsp3,hcl,hh,hfree,hall,hun,hrv,hset,hfold,hcm,Nat.add_assoc,-getElem?_pos]
   ·rw [if_neg hh]
    simp (maxSteps:=4000000) (disch:=first|omega|(simp;done)|(simp;omega)) [hk,hkI,hvk,o3,hcu1,hcu2,hcu3,hcl,hh,-getElem?_pos]
  ·obtain ⟨o1,o2,o3,o4⟩:=hok vars.length
   generalize Zb3 (refS n) x b ac vars ab vars.length=p at *
   obtain ⟨vs,bk⟩:=p
   simp only at *
   have hr:=hI bk x b (by omega) (by omega) o1 hb hbw
   generalize refS n bk x b=r at *
   have hrow:wc (Zao ((⟨ap,ac,vs⟩:ArmH),r))=[.c (.int .i64 ap),.c (.str ac),.c (.sl (Zag vs)),.c (.int .i64 r.kind),.c (.int .i64 r.pos),.c (.str r.name),.c (.int .i64 r.num),.c (.sl (Exp.rows r.kids)),.c (.sl (Exp.armRows r.arms)),.c (.int .i64 r.ty.kind),.c (.str r.ty.name),.c (.int .i64 r.ty.id),.c (.int .i64 r.ty.home),.c (.sl (Ty.rows r.ty.args))]:=by rw [Zao,Exp.row_eq];rfl
   have hrowb:wc r.row=[.c (.int .i64 r.kind),.c (.int .i64 r.pos),.c (.str r.name),.c (.int .i64 r.num),.c (.sl (Exp.rows r.kids)),.c (.sl (Exp.armRows r.arms)),.c (.int .i64 r.ty.kind),.c (.str r.ty.name),.c (.int .i64 r.ty.id),.c (.int .i64 r.ty.home),.c (.sl (Ty.rows r.ty.args))]:=by rw [Exp.row_eq];rfl
   unfold Zth
   simp (maxSteps:=4000000) (disch:=first|omega|(simp;done)|(simp;omega)) [hr,hrow,hrowb,hcu2,hcu3,hsp3,o3,-getElem?_pos]
theorem ZnY {n:Nat}{e:Exp}{x:Str}{b:Exp}(hk:e.kind=4∨e.kind=7)(hs:shp1 e)(hx:e.name=x):refS (n+1) e x b=e:=by
 have hP:ZdL (refS n) x b e=e:=by
  unfold ZdL
  rw [if_pos (by omega)]
  unfold Zdl
  rw [if_pos (.inl hx)]
 have hc:refC n e x b=e.children:=by
  refine List.ext_getElem? fun i => ?_
  cases h:e.children[i]? with
  | none=>rw [List.getElem?_eq_none_iff] at h ⊢;rw [refC_len,←e.children_len];exact h
  | some k =>
   have hbd:e.bound i=[e.name]:=by rw [ZaD,if_pos (by omega)]
   rw [Ze4 h,hbd,if_pos (by simp [hx])]
 rw [ZcF,if_neg (by omega),hP,hc,ZoI]
theorem Zkl {n:Nat}{e:Exp}{x:Str}{b:Exp}(hk:e.kind=4∨e.kind=7)(hs:shp1 e)(hx:e.name≠x) :
 refS (n+1) e x b=.mk e.kind e.pos (Zdl (refS n) x b e).name e.num ((Zdl (refS n) x b e).kids.map fun k=>refS n k x b) [] e.ty:=by
 have ha:e.arms=[]:=hs.1.2.1 (by omega)
 have hb:∀ e':Exp,e'.kind=e.kind→e'.name≠x→e'.arms=[]→Zbm e' (refC n e' x b)=.mk e'.kind e'.pos e'.name e'.num (e'.kids.map fun k=>refS n k x b) [] e'.ty:=by
  intro e' h1 h2 h3
  have hr:refC n e' x b=e'.kids.map fun k=>refS n k x b:=by
   unfold refC
   have hc:e'.children=e'.kids:=by simp [Exp.children,h3]
   rw [hc]
   refine List.ext_getElem? fun i => ?_
   rw [List.getElem?_map,List.getElem?_map,List.getElem?_zipIdx]
   cases e'.kids[i]? with
   | none=>rfl
   | some k =>
    simp only [Option.map_some,Nat.zero_add]
    have hbd:e'.bound i=[e'.name]:=by rw [ZaD,if_pos (by omega)]
    rw [hbd,if_neg (by rw [List.mem_singleton];exact fun q=>h2 q.symm)]
  rw [hr]
  unfold Zbm
  rw [h3,List.take_of_length_le (by simp)]
  rfl
 have hP:ZdL (refS n) x b e=Zdl (refS n) x b e:=by unfold ZdL;rw [if_pos (by omega)]
 rw [ZcF,if_neg (by omega),hP]
 unfold Zdl
 split
 ·rw [hb e rfl hx ha]
 ·refine hb _ ?_ ?_ ?_
  ·rfl
  ·exact ZrA x b e
  ·exact ha
theorem Zpy {n:Nat}{p nu:Int}{nm:Str}{k0 k1:Exp}{ty:Ty}{x:Str}{b:Exp} :
 refS (n+1) (.mk 6 p nm nu [k0,k1] [] ty) x b=if nm=x then .mk 6 p nm nu [refS n k0 x b,k1] [] ty else if nm∈Zaf b∧x∈Zaf k1 then
  .mk 6 p (newR x b (.mk 6 p nm nu [k0,k1] [] ty)) nu [refS n k0 x b,refS n (refS n k1 nm (varX (newR x b (.mk 6 p nm nu [k0,k1] [] ty)))) x b] [] ty else .mk 6 p nm nu [refS n k0 x b,refS n k1 x b] [] ty:=by
 have hnx:=ZrA x b (.mk 6 p nm nu [k0,k1] [] ty)
 have hb:∀ nm' k1',Zbm (.mk 6 p nm' nu [k0,k1'] [] ty) (refC n (.mk 6 p nm' nu [k0,k1'] [] ty) x b)=.mk 6 p nm' nu [refS n k0 x b,if x=nm' then k1' else refS n k1' x b] [] ty:=by
  intro nm' k1'
  have h0:(Exp.mk 6 p nm' nu [k0,k1'] [] ty).bound 0=[]:=rfl
  have h1:(Exp.mk 6 p nm' nu [k0,k1'] [] ty).bound 1=[nm']:=rfl
  simp [refC,Zbm,Exp.children,Exp.kids,Exp.arms,Exp.kind,Exp.pos,Exp.name,Exp.num,Exp.ty,h0,h1,Za4]
 have hP:ZdL (refS n) x b (.mk 6 p nm nu [k0,k1] [] ty)=Zdl (refS n) x b (.mk 6 p nm nu [k0,k1] [] ty):=rfl
 rw [ZcF,Zku,if_neg (show ¬(6:Int)=1 by decide),hP]
 have hh:hitP x (Zaf b) nm [k1]↔nm∈Zaf b∧x∈Zaf k1:=by simp [hitP]
 by_cases h1:nm=x
 ·rw [if_pos h1]
  have:Zdl (refS n) x b (.mk 6 p nm nu [k0,k1] [] ty)=.mk 6 p nm nu [k0,k1] [] ty:=by unfold Zdl;exact if_pos (.inl h1)
  rw [this,hb,if_pos h1.symm]
 ·rw [if_neg h1]
  by_cases h2:nm∈Zaf b∧x∈Zaf k1
  ·rw [if_pos h2]
   have:Zdl (refS n) x b (.mk 6 p nm nu [k0,k1] [] ty)=.mk 6 p (newR x b (.mk 6 p nm nu [k0,k1] [] ty)) nu [k0,refS n k1 nm (varX (newR x b (.mk 6 p nm nu [k0,k1] [] ty)))] [] ty:=by
    unfold Zdl
    rw [if_neg (by
     rintro (q|q|q)
     ·exact h1 q
     ·exact absurd (show 2≤1 from q) (by decide)
     ·exact q (hh.2 h2))]
    rfl
   rw [this,hb,if_neg (Ne.symm hnx)]
  ·rw [if_neg h2]
   have:Zdl (refS n) x b (.mk 6 p nm nu [k0,k1] [] ty)=.mk 6 p nm nu [k0,k1] [] ty:=by unfold Zdl;exact if_pos (.inr (.inr fun q=>h2 (hh.1 q)))
   rw [this,hb,if_neg (Ne.symm h1)]
theorem Zok {n:Nat}{e:Exp}{x:Str}{b:Exp}(k1:e.kind≠1)(k4:¬(e.kind=4∨e.kind=6∨e.kind=7))(hs:shp e)(hn:e.weight≤n+1) :
 refS (n+1) e x b=.mk e.kind e.pos e.name e.num (e.kids.map fun k=>refS n k x b) (e.arms.map (Zb1 n x b)) e.ty:=by
 have hP:ZdL (refS n) x b e=.mk e.kind e.pos e.name e.num e.kids (e.arms.map (ZcC (refS n) x b)) e.ty:=by
  unfold ZdL
  rw [if_neg k4]
  split
  ·rfl
  ·rename_i h8
   have ha:=hs.one.1.2.1 h8
   rw [ha]
   cases e
   cases ha
   rfl
 rw [ZcF,if_neg k1,hP]
 have hr:refC n (.mk e.kind e.pos e.name e.num e.kids (e.arms.map (ZcC (refS n) x b)) e.ty) x b=(e.kids.map fun k=>refS n k x b)++e.arms.map fun a=>(Zb1 n x b a).2:=by
  refine List.ext_getElem? fun i => ?_
  by_cases hi:i<e.kids.length
  ·obtain ⟨k,hk⟩:=Zaa hi
   have hc:(Exp.mk e.kind e.pos e.name e.num e.kids (e.arms.map (ZcC (refS n) x b)) e.ty).children[i]?=some k:=by
    rw [ZaH,List.getElem?_append_left hi]
    exact hk
   have hbd:(Exp.mk e.kind e.pos e.name e.num e.kids (e.arms.map (ZcC (refS n) x b)) e.ty).bound i=[]:=by
    rw [Zea,if_neg (by omega),if_neg (by
     rintro ⟨q,hp⟩
     have:=hs.one.1.1 q
     omega)]
   rw [Ze4 hc,List.getElem?_append_left (by simpa using hi),List.getElem?_map,hk,hbd]
   simp
  ·cases ha:e.arms[i-e.kids.length]? with
   | none =>
    rw [List.getElem?_eq_none_iff] at ha
    rw [List.getElem?_eq_none (by rw [refC_len];simp only [Zeu,ZcZ,List.length_map];omega),List.getElem?_eq_none (by simp only [List.length_append,List.length_map];omega)]
   | some a =>
    have h8:e.kind=8:=Classical.byContradiction fun q=>by
     rw [hs.one.1.2.1 q] at ha
     simp at ha
    have hk1:=hs.one.1.1 h8
    have hc:(Exp.mk e.kind e.pos e.name e.num e.kids (e.arms.map (ZcC (refS n) x b)) e.ty).children[i]?=some (ZcC (refS n) x b a).2:=by
     rw [ZaH,List.getElem?_append_right (by omega),List.getElem?_map,List.getElem?_map,ha]
     rfl
    have hbd:(Exp.mk e.kind e.pos e.name e.num e.kids (e.arms.map (ZcC (refS n) x b)) e.ty).bound i=(ZcC (refS n) x b a).1.vars:=by
     rw [Zea,if_neg (by omega),if_pos ⟨h8,by omega⟩,List.getElem?_map,show i-1=i-e.kids.length by omega,ha]
     rfl
    rw [Ze4 hc,List.getElem?_append_right (by simp only [List.length_map];omega),List.getElem?_map,List.length_map,ha,hbd]
    simp only [Option.map_some,Option.some.injEq]
    unfold Zb1
    have hm:=Zca (List.mem_of_getElem? ha)
    by_cases hx:x∈a.1.vars
    ·have:ZcC (refS n) x b a=a:=by unfold ZcC;exact if_pos hx
     rw [this,if_pos hx,if_pos hx]
    ·have ho:=(Zg1 (n:=n) (b:=b) (con:=a.1.con) (hs.child hm) (by have:=Exp.child_lt hm;omega) hx a.1.vars.length).2.2.2
     have hv:x∉(ZcC (refS n) x b a).1.vars:=by
      unfold ZcC
      rw [if_neg hx]
      exact ho
     rw [if_neg hv,if_neg hx]
 rw [hr]
 unfold Zbm
 simp only [Zeu,ZcZ,Zku,Zrt,Zj3,Zq6,ty_mk]
 have hz:Za4 (e.arms.map (ZcC (refS n) x b)) (e.arms.map fun a=>(Zb1 n x b a).2)=e.arms.map (Zb1 n x b):=by
  unfold Za4
  rw [List.zipWith_map,List.zipWith_self]
  refine List.map_congr_left fun a _ => ?_
  unfold Zb1 ZcC
  split<;>rfl
 congr 1
 ·rw [List.take_append_of_le_length (by simp),List.take_of_length_le (by simp)]
 ·rw [List.drop_append_of_le_length (by simp),List.drop_of_length_le (by simp),List.nil_append,hz]
end Go.Vs.Tryz
