/- Substitution as the program does it (plain): the result is the instance in which the name stands for the expression. (Parts of one proof, put together.) -/
import Derived.Test.YtlcncicmkkelcaaGreatDoorRGa
import Derived.Test.YtlcncicmkkelcaaGreatDoorRCa
set_option linter.unusedSimpArgs false
set_option linter.unusedVariables false
set_option linter.deprecated false
set_option maxHeartbeats 16000000
set_option maxRecDepth 10000
namespace Go.Vs.Tryz
open Go Go.Vs
structure PrepOk (x:Str)(b e e':Exp):Prop where
 head:headEq e e'
 con:e.kind=2→e.name=e'.name
 arms:ZbZ e e'
 kids:∀ (i:Nat) x0 x1,e.children[i]?=some x0→e'.children[i]?=some x1→KidOk x b x0 x1 (e.bound i) (e'.bound i)
 sum:(e'.arms.map fun a=>a.1.vars.length).sum=(e.arms.map fun a=>a.1.vars.length).sum
 vars:∀ a∈e'.arms,inj a.1.vars
theorem ZqR {e e':Exp}(hl:e'.arms.length=e.arms.length)(h:∀ (i:Nat) p q,e.arms[i]?=some p→e'.arms[i]?=some q→p.1.vars.length=q.1.vars.length) :
 (e'.arms.map fun a=>a.1.vars.length).sum=(e.arms.map fun a=>a.1.vars.length).sum:=by
 congr 1
 refine List.ext_getElem? fun i => ?_
 rw [List.getElem?_map,List.getElem?_map]
 cases hp:e.arms[i]? with
 | none =>
  have:e'.arms[i]?=none:=by rw [List.getElem?_eq_none_iff] at hp ⊢;omega
  rw [this]
 | some p =>
  obtain ⟨q,hq⟩:=Zaa (l:=e'.arms) (i:=i) (by have:=(List.getElem?_eq_some_iff.1 hp).1;omega)
  rw [hq]
  simp only [Option.map_some,h i p q hp hq]
theorem ZnG {x:Str}{b e:Exp}(hs:shp e)(hp:properP e)(h:∀ (i:Nat) x0,e.children[i]?=some x0→x∉e.bound i→x∈Zag x0→∀ u∈Zag b,u∉e.bound i):PrepOk x b e e:=by
 refine ⟨⟨rfl,rfl,rfl,rfl,rfl⟩,fun _=>rfl,fun i p q hp hq => ?_,fun i x0 x1 h0 h1 => ?_,rfl,hp.one⟩
 ·rw [hp] at hq
  cases hq
  exact ⟨rfl,rfl⟩
 ·rw [h0] at h1
  cases h1
  have hm:=List.mem_of_getElem? h0
  exact ⟨rfl,fun _=>⟨rfl,rfl⟩,fun q=>q,Zdh (hs.child hm),h i x0 h0,rfl,hs.child hm,hp.child hm⟩
theorem Zbw {e:Exp}(h:e.kind≠8)(hs:shp1 e):e.arms=[]∧e.children=e.kids:=by
 have:=hs.1.2.1 h
 exact ⟨this,by simp [Exp.children,this]⟩
theorem Zd9 {e:Exp}(h:e.kind=4∨e.kind=6∨e.kind=7)(hs:shp1 e){i:Nat}(hi:i<e.children.length):e.bound i=if i<ZaV e then [] else [e.name]:=by
 have hc:=(Zbw (by omega) hs).2
 have hk:=hs.2.2
 rw [hc,hk] at hi
 unfold Zmo at hi
 unfold Exp.bound ZaV
 rcases h with h|h|h
 ·rw [if_pos (.inl h),if_neg (by omega:¬e.kind=6),if_neg (by omega)]
 ·rw [if_pos (by omega)] at hi
  by_cases h1:i=1
  ·rw [if_pos (.inr (.inr ⟨h,h1⟩)),if_pos h,if_neg (by omega)]
  ·rw [if_neg (by omega),if_neg (by omega),if_pos h,if_pos (by omega)]
 ·rw [if_pos (.inr (.inl h)),if_neg (by omega:¬e.kind=6),if_neg (by omega)]
theorem Zke {x:Str}{b e:Exp}(hs:shp e)(hp:properP e)(hk:e.kind=4∨e.kind=6∨e.kind=7):PrepOk x b e (ZcP x (Zag b) e):=by
 obtain ⟨ha,hc⟩:=Zbw (by omega) hs.one
 have hkl:ZaV e<e.kids.length:=by
  have h:=hs.one.2.2
  unfold Zmo at h
  unfold ZaV
  rcases hk with k|k|k
  ·rw [if_neg (by omega),if_pos (by omega)] at h
   rw [if_neg (by omega),h]
   decide
  ·rw [if_pos (by omega)] at h
   rw [if_pos (by omega),h]
   decide
  ·rw [if_pos (by omega)] at h
   rw [if_neg (by omega),h]
   decide
 unfold ZcP
 split
 ·rename_i hc1
  refine ZnG hs hp fun i x0 h0 hxb hxf u hu hub => ?_
  have hi:=(List.getElem?_eq_some_iff.1 h0).1
  rw [Zd9 hk hs.one hi] at hxb hub
  by_cases his:i<ZaV e
  ·rw [if_pos his] at hub
   simp at hub
  ·rw [if_neg his] at hxb hub
   rw [List.mem_singleton] at hxb hub
   rcases hc1 with h1|h1|h1
   ·exact hxb h1.symm
   ·omega
   ·refine h1 ⟨hub▸hu,x0,?_,hxf⟩
    refine List.mem_of_getElem? (i:=i-ZaV e) ?_
    rw [List.getElem?_drop,←hc,show ZaV e+(i-ZaV e)=i by omega]
    exact h0
 ·rename_i hc1
  simp only [not_or,Classical.not_not] at hc1
  obtain ⟨hxn,_,hhit⟩:=hc1
  have hfresh:=Zdl 0 (allP e++Zag b++[x])
  generalize ZaX 0 (allP e++Zag b++[x])=to at hfresh ⊢
  simp only [List.mem_append,List.mem_singleton,not_or] at hfresh
  obtain ⟨⟨f1,f2⟩,f3⟩:=hfresh
  have hkid:∀ (i:Nat) x0,e.kids[i]?=some x0→(e.kids.zipIdx.map fun p=>if p.2<ZaV e then p.1 else repl e.name to p.1)[i]?=some (if i<ZaV e then x0 else repl e.name to x0):=fun i x0 h=>by simp [h]
  have hkn:(e.kids.zipIdx.map fun p=>if p.2<ZaV e then p.1 else repl e.name to p.1).length=e.kids.length:=by simp
  generalize (e.kids.zipIdx.map fun p=>if p.2<ZaV e then p.1 else repl e.name to p.1)=ks at hkid hkn ⊢
  have hc':(Exp.mk e.kind e.pos to e.num ks e.arms e.ty).children=ks:=by rw [Za3,ha];simp
  refine ⟨⟨rfl,rfl,rfl,hkn.symm,rfl⟩,fun h2=>by omega,fun i p q h1 h2 => ?_,fun i x0 x1 h0 h1 => ?_,rfl,hp.one⟩
  ·rw [Zdu,h1] at h2
   cases h2
   exact ⟨rfl,rfl⟩
  ·have hi:=(List.getElem?_eq_some_iff.1 h0).1
   have hm:=List.mem_of_getElem? h0
   rw [hc'] at h1
   have hbn:(Exp.mk e.kind e.pos to e.num ks e.arms e.ty).bound i=if i<ZaV e then [] else [to]:=by
    have he:=Zd9 hk hs.one hi
    rw [ZaH] at he
    rw [ZdH]
    by_cases c:e.kind=4∨e.kind=7∨e.kind=6∧i=1
    ·rw [if_pos c] at he ⊢
     by_cases his:i<ZaV e
     ·rw [if_pos his] at he
      simp at he
     ·rw [if_neg his]
    ·rw [if_neg c,if_neg (by omega)] at he ⊢
     by_cases his:i<ZaV e
     ·rw [if_pos his]
     ·rw [if_neg his] at he
      simp at he
   rw [hc] at h0
   rw [hkid i x0 h0] at h1
   cases h1
   rw [hbn,Zd9 hk hs.one hi]
   by_cases his:i<ZaV e
   ·rw [if_pos his,if_pos his,if_pos his]
    exact ⟨rfl,fun q=>by simp at q,fun q=>q,Zdh (hs.child hm),fun _ _ u _=>by simp,rfl,hs.child hm,hp.child hm⟩
   ·rw [if_neg his,if_neg his,if_neg his]
    have hnx:to∉allP x0:=fun h=>f1 (Zat.2 (.inr ⟨i,x0,by rw [hc];exact h0,.inr h⟩))
    refine ⟨rfl,fun q=>absurd (List.mem_singleton.1 q).symm hxn,fun _ q=>f3 (List.mem_singleton.1 q).symm,?_,fun _ _ u hu q=>f2 (List.mem_singleton.1 q▸hu),Zg4 _ _ _,Zlm _ _ _ (hs.child hm),Zhj _ _ _ (hs.child hm).wf (hp.child hm)⟩
    refine (Zg7 e.name to x0 (hs.child hm) hnx).mono _ _ _ _ fun s hsx d hd => ?_
    obtain ⟨t,ht,hv⟩:=hd
    by_cases hsn:s=e.name
    ·rw [if_pos hsn] at ht
     subst ht
     refine .inl ⟨by simp [hsn],t,by simp,?_,hv⟩
     rw [hsn,Zgp (l:=[e.name]) (i:=0) rfl (fun j y hj hy=>by cases j<;>simp_all),Zgp (l:=[t]) (i:=0) rfl (fun j y hj hy=>by cases j<;>simp_all)]
    ·rw [if_neg hsn] at ht
     subst ht
     refine .inr ⟨by simp [hsn],Zbj.2 hv,fun u hu => ?_⟩
     rw [hv.free,List.mem_singleton] at hu
     subst hu
     intro q
     exact hnx (List.mem_singleton.1 q▸Zhe x0 u hsx)
theorem Zos {x:Str}{b e:Exp}(hs:shp e)(hp:properP e)(hk:e.kind=8):PrepOk x b e (.mk e.kind e.pos e.name e.num e.kids (e.arms.map (armP x (Zag b))) e.ty):=by
 have hk1:=hs.one.1.1 hk
 have harm:∀ (i:Nat) p q,e.arms[i]?=some p→(e.arms.map (armP x (Zag b)))[i]?=some q→q.1.con=p.1.con∧inj q.1.vars∧KidOk x b p.2 q.2 p.1.vars q.1.vars:=by
  intro i p q h1 h2
  rw [List.getElem?_map,h1] at h2
  cases h2
  have hm:=Zc7 (List.mem_of_getElem? h1)
  exact ZsG (hp.one p (List.mem_of_getElem? h1)) (hs.child hm) (hp.child hm)
 have hvl:∀ (i:Nat) p q,e.arms[i]?=some p→(e.arms.map (armP x (Zag b)))[i]?=some q→p.1.vars.length=q.1.vars.length:=fun i p q h1 h2=>(harm i p q h1 h2).2.2.len
 have hal:(e.arms.map (armP x (Zag b))).length=e.arms.length:=by simp
 generalize e.arms.map (armP x (Zag b))=am at harm hvl hal ⊢
 refine ⟨⟨rfl,rfl,rfl,rfl,hal.symm⟩,fun h=>rfl,fun i p q h1 h2=>⟨(harm i p q h1 h2).1.symm,hvl i p q h1 h2⟩,fun i x0 x1 h0 h1 => ?_,ZqR hal hvl,fun q hq => ?_⟩
 ·rw [ZdH,ZaH,if_neg (show ¬(e.kind=4∨e.kind=7∨e.kind=6∧i=1) by omega),if_neg (show ¬(e.kind=4∨e.kind=7∨e.kind=6∧i=1) by omega)]
  rcases Zkq h0 with h0k|⟨j,p,rfl,hp',rfl⟩
  ·have hi:=(List.getElem?_eq_some_iff.1 h0k).1
   have h1':e.kids[i]?=some x1:=by
    rw [Za3,List.getElem?_append_left hi] at h1
    exact h1
   rw [h0k] at h1'
   cases h1'
   have hm:=List.mem_of_getElem? h0
   rw [if_neg (show ¬(e.kind=8∧0<i) by omega),if_neg (show ¬(e.kind=8∧0<i) by omega)]
   exact ⟨rfl,fun q=>by simp at q,fun q=>q,Zdh (hs.child hm),fun _ _ u _=>by simp,rfl,hs.child hm,hp.child hm⟩
  ·rw [Za3,List.getElem?_append_right (by omega),Nat.add_sub_cancel_left,List.getElem?_map] at h1
   obtain ⟨q,hq,rfl⟩:=Option.map_eq_some_iff.1 h1
   rw [if_pos ⟨hk,by omega⟩,if_pos ⟨hk,by omega⟩,hk1,show 1+j-1=j by omega,hp',hq]
   exact (harm j p q hp' hq).2.2
 ·rw [Zdu] at hq
  obtain ⟨i,hi⟩:=List.mem_iff_getElem?.1 hq
  obtain ⟨p,hp'⟩:=Zaa (l:=e.arms) (i:=i) (by have:=(List.getElem?_eq_some_iff.1 hi).1;omega)
  exact (harm i p q hp' hi).2.1
theorem ZfO {x:Str}{b e:Exp}(hs:shp e)(hp:properP e):PrepOk x b e (ZcQ x (Zag b) e):=by
 unfold ZcQ
 by_cases h:e.kind=4∨e.kind=6∨e.kind=7
 ·rw [if_pos h]
  exact Zke hs hp h
 ·rw [if_neg h]
  by_cases h8:e.kind=8
  ·rw [if_pos h8]
   exact Zos hs hp h8
  ·rw [if_neg h8]
   refine ZnG hs hp fun i x0 _ _ _ u _ => ?_
   rw [ZaH,if_neg (by omega),if_neg (by omega)]
   simp
theorem ZbL {x:Str}{b e e':Exp}(h:PrepOk x b e e'):e'.children.length=e.children.length:=h.head.children.symm
theorem ZcE (x:Str)(b:Exp)(hb:shp b):∀ (n:Nat) (e:Exp),e.weight≤n→shp e→properP e→instR e (subN n e x b) (subV x b)
 | 0,e,h,_,_=>by have:=e.weight_pos;omega
 | n+1,e,h,hs,hp=>by
  rw [Zdf]
  by_cases hk:e.kind=1
  ·obtain ⟨a1,a2,a3⟩:=ZcL hs.one.1 hk
   obtain ⟨m,t⟩:=hs.one.2.1 hk
   rw [if_pos hk]
   refine .mkVar hk ?_
   unfold subV
   by_cases hx:e.name=x
   ·rw [if_pos hx,if_pos hx]
   ·rw [if_neg hx,if_neg hx]
    exact ⟨hk,rfl,m,t,a1,a2⟩
  ·rw [if_neg hk]
   have hP:=ZfO (x:=x) (b:=b) hs hp
   generalize ZcQ x (Zag b) e=e' at hP ⊢
   have hl:=subC_len n e' x b
   obtain ⟨g1,g2⟩:=ZgU hl
   refine .mk hk ⟨⟨hP.head.1.trans g1.1,hP.head.2.1.trans g1.2.1,hP.head.2.2.1.trans g1.2.2.1,hP.head.2.2.2.1.trans g1.2.2.2.1,hP.head.2.2.2.2.trans g1.2.2.2.2⟩,fun h2=>hP.con h2,fun i p q hp' hq => ?_,fun i x0 y h0 hy => ?_⟩
   ·obtain ⟨r,hr⟩:=Zaa (l:=e'.arms) (i:=i) (by have:=hP.head.2.2.2.2;have:=(List.getElem?_eq_some_iff.1 hp').1;omega)
    exact ⟨(hP.arms i p r hp' hr).1.trans (g2 i r q hr hq).1,(hP.arms i p r hp' hr).2.trans (g2 i r q hr hq).2⟩
   ·obtain ⟨x1,h1⟩:=Zaa (l:=e'.children) (i:=i) (by rw [ZbL hP];exact (List.getElem?_eq_some_iff.1 h0).1)
    have hK:=hP.kids i x0 x1 h0 h1
    rw [(Zbo hl).2.2.1,ZdD h1] at hy
    cases hy
    rw [Zev hl]
    by_cases hx:x∈e'.bound i
    ·rw [if_pos hx]
     have hxb:x∈e.bound i:=Classical.byContradiction fun q=>hK.notin q hx
     obtain ⟨rfl,he⟩:=hK.skip hxb
     rw [he]
     exact ZmL hK.shape hxb
    ·rw [if_neg hx]
     refine Zmk hK.inst (ZcE x b hb n x1 ?_ hK.shape hK.proper) hx (hK.apart hx)
     have:=Exp.child_lt (List.mem_of_getElem? h0)
     have:=hK.weight
     omega
theorem ZdE (x:Str)(b:Exp)(hb:shp b):∀ (n:Nat) (e:Exp),e.weight≤n→shp e→properP e→shp (subN n e x b)
 | 0,e,h,hs,_=>hs
 | n+1,e,h,hs,hp=>by
  rw [Zdf]
  by_cases hk:e.kind=1
  ·rw [if_pos hk]
   split
   ·exact hb
   ·exact hs
  ·rw [if_neg hk]
   have hP:=ZfO (x:=x) (b:=b) hs hp
   generalize ZcQ x (Zag b) e=e' at hP ⊢
   refine ZkS (subC_len n e' x b) (hP.head.1▸hk) (hP.head.shp1 hk hs.one) fun c hc => ?_
   obtain ⟨i,hi⟩:=List.mem_iff_getElem?.1 hc
   obtain ⟨x1,h1⟩:=Zaa (l:=e'.children) (i:=i) (by have:=(List.getElem?_eq_some_iff.1 hi).1;rw [subC_len,←e'.children_len] at this;exact this)
   obtain ⟨x0,h0⟩:=Zaa (l:=e.children) (i:=i) (by rw [←ZbL hP];exact (List.getElem?_eq_some_iff.1 h1).1)
   have hK:=hP.kids i x0 x1 h0 h1
   rw [ZdD h1] at hi
   cases hi
   split
   ·exact hK.shape
   ·refine ZdE x b hb n x1 ?_ hK.shape hK.proper
    have:=Exp.child_lt (List.mem_of_getElem? h0)
    have:=hK.weight
    omega
theorem Zeu (x:Str)(b:Exp)(hb:properP b):∀ (n:Nat) (e:Exp),e.weight≤n→shp e→properP e→properP (subN n e x b)
 | 0,e,h,_,hp=>hp
 | n+1,e,h,hs,hp=>by
  rw [Zdf]
  by_cases hk:e.kind=1
  ·rw [if_pos hk]
   split
   ·exact hb
   ·exact hp
  ·rw [if_neg hk]
   have hP:=ZfO (x:=x) (b:=b) hs hp
   generalize ZcQ x (Zag b) e=e' at hP ⊢
   obtain ⟨_,_,h3,h4⟩:=Zbo (subC_len n e' x b)
   rw [Zby]
   refine ⟨Zjd h4 hP.vars,fun c hc => ?_⟩
   rw [h3] at hc
   obtain ⟨i,hi⟩:=List.mem_iff_getElem?.1 hc
   obtain ⟨x1,h1⟩:=Zaa (l:=e'.children) (i:=i) (by have:=(List.getElem?_eq_some_iff.1 hi).1;rw [subC_len,←e'.children_len] at this;exact this)
   obtain ⟨x0,h0⟩:=Zaa (l:=e.children) (i:=i) (by rw [←ZbL hP];exact (List.getElem?_eq_some_iff.1 h1).1)
   have hK:=hP.kids i x0 x1 h0 h1
   rw [ZdD h1] at hi
   cases hi
   split
   ·exact hK.proper
   ·refine Zeu x b hb n x1 ?_ hK.shape hK.proper
    have:=Exp.child_lt (List.mem_of_getElem? h0)
    have:=hK.weight
    omega
theorem Zh8 (x:Str)(b:Exp):∀ (n:Nat) (e:Exp),e.weight≤n→shp e→properP e→(subN n e x b).weight≤e.weight*b.weight
 | 0,e,h,_,_=>by have:=e.weight_pos;omega
 | n+1,e,h,hs,hp=>by
  have hbp:=b.weight_pos
  rw [Zdf]
  by_cases hk:e.kind=1
  ·rw [if_pos hk]
   have he:=e.weight_pos
   split
   ·exact Nat.le_mul_of_pos_left _ he
   ·exact Nat.le_mul_of_pos_right _ hbp
  ·rw [if_neg hk]
   have hP:=ZfO (x:=x) (b:=b) hs hp
   generalize ZcQ x (Zag b) e=e' at hP ⊢
   rw [ZgK (subC_len n e' x b),hP.sum,e.weight_eq,Nat.add_mul]
   refine Nat.add_le_add (Nat.le_mul_of_pos_right _ hbp) ?_
   have key:∀ k,((subC n e' x b).take k |>.map Exp.weight).sum≤((e.children.take k).map Exp.weight).sum*b.weight:=by
    intro k
    induction k with
    | zero=>simp
    | succ k ih =>
     by_cases hkl:k<e.children.length
     ·obtain ⟨x0,h0⟩:=Zaa hkl
      obtain ⟨x1,h1⟩:=Zaa (l:=e'.children) (i:=k) (by rw [ZbL hP];exact hkl)
      have hK:=hP.kids k x0 x1 h0 h1
      have hg:=ZdD (n:=n) (x:=x) (b:=b) h1
      rw [ZaC hg,ZaC h0,List.map_append,List.map_append,List.sum_append,List.sum_append,Nat.add_mul]
      refine Nat.add_le_add ih ?_
      simp only [List.map_cons,List.map_nil,List.sum_cons,List.sum_nil,Nat.add_zero]
      split
      ·rw [hK.weight]
       exact Nat.le_mul_of_pos_right _ hbp
      ·rw [←hK.weight]
       refine Zh8 x b n x1 ?_ hK.shape hK.proper
       have:=Exp.child_lt (List.mem_of_getElem? h0)
       have:=hK.weight
       omega
     ·have hl:(subC n e' x b).length=e.children.length:=by rw [subC_len,←e'.children_len,ZbL hP]
      rw [List.take_of_length_le (by omega),List.take_of_length_le (by omega)]
      rw [List.take_of_length_le (by omega),List.take_of_length_le (by omega)] at ih
      exact ih
   have:=key e.children.length
   rw [List.take_of_length_le (by rw [subC_len,←e'.children_len,ZbL hP];omega),List.take_of_length_le (Nat.le_refl _)] at this
   exact this
def subP (e:Exp)(x:Str)(b:Exp):Exp:=subN e.weight e x b
end Go.Vs.Tryz
namespace Go.Vs
open Go
section
variable {L:Nat→Option Obj}
@[simp] theorem toC_vw {d k N lo n:Nat}:W.toC L (d+1) (.vw k N lo n)=arrK (L k) fun _ rows _=>bif rows.length == N && Nat.ble (lo+n) N then (Zae (Zae (W.toC L d)) ((rows.drop lo).take n)).map .sl else none:=by
 simp only [W.toC,arrK]
 cases L k with
 | none=>rfl
 | some o=>cases o<;>rfl
@[simp] theorem ids_vw {d k N lo n:Nat}:W.ids L (d+1) (.vw k N lo n)=k::(match L k with | some (.arr _ rows _)=>rows.flatMap (·.flatMap (W.ids L d)) | _=>[]):=rfl
end
theorem ZnB (rows:List (List Cell))(i n:Nat)(h:n=rows.length):((wr rows).drop i).take (n-i)=wr (rows.drop i):=by
 subst h
 unfold wr
 rw [←List.map_drop,List.take_of_length_le (by simp)]
end Go.Vs
namespace Go.Vs.Tryz
open Go Go.Vs
variable {A:Zac}
abbrev Zca (x:Str)(b:Exp)(free:List Str):List W:=[.c (.str x),.c (.int .i64 b.kind),.c (.int .i64 b.pos),.c (.str b.name),.c (.int .i64 b.num),.c (.sl (Exp.rows b.kids)),.c (.sl (Exp.armRows b.arms)),.c (.int .i64 b.ty.kind),.c (.str b.ty.name),.c (.int .i64 b.ty.id),.c (.int .i64 b.ty.home),.c (.sl (Ty.rows b.ty.args)),.c (.sl (Zaf free))]
theorem hit246 (x:Str)(b:Exp)(free:List Str)(e:Exp)(hw:e.wf)(hl:e.weight≤1073741824):(K A).call 246 [expV e,.sc (.ptr 0 0)] [.box (Zca x b free)]=some (Zah (decide (x∈Zag e)),[.box (Zca x b free)]):=by
 refine Zas (vf:=v246) (by kernel_rfl) rfl (by simp) ?_
 have h1:=Zq4 (A:=A) e hw hl
 have h2:=ZbA (A:=A) (Zag e) x (by have:=ZcK e;omega)
 unfold v246
 simp (maxSteps:=4000000) (disch:=first|omega|(simp;done)|(simp;omega)) [h1,h2,-getElem?_pos]
theorem Zqb (x:Str)(b:Exp)(free:List Str)(l:List Exp)(hn:l.length≤1073741824)(hw:∀ e∈l,e.wf∧e.weight≤1073741824) :
 ∃ r,(∃ z:Int,(0≤z↔∃ e∈l,x∈Zag e)∧r=(intV z,[Obj.box (Zca x b free)]))∧(K A).call 164 [exsV l,.sc (.clo 246 [true] [[.ptr 0 0]])] [.box (Zca x b free)]=some r:=by
 refine ZcD _ (vf:=v164) (by kernel_rfl) rfl (by simp) ?_
 unfold v164
 simp (disch:=first|omega|(simp;done)|(simp;omega))
 refine Zal (fun i s=>(∀ (j:Nat) e,j<i→l[j]?=some e→x∉Zag e)∧s=⟨[(0,exsV l),(1,.sc (.clo 246 [true] [[.ptr 0 0]])),(7,intV l.length),(8,intV i)],[(0,some (.box (Zca x b free)))]⟩) l.length ⟨by omega,by simp⟩ ?_ ?_
 ·rintro i s hi ⟨hs,rfl⟩
  obtain ⟨e,he⟩:=Zaa hi
  have hm:=List.mem_of_getElem? he
  have hc:=hit246 (A:=A) x b free e (hw e hm).1 (hw e hm).2
  unfold Zor
  by_cases hx:x∈Zag e
  ·simp (maxSteps:=4000000) (disch:=first|omega|(simp;done)|(simp;omega)) [hi,he,hc,hx,-getElem?_pos]
   exact ⟨e,hm,hx⟩
  ·simp (maxSteps:=4000000) (disch:=first|omega|(simp;done)|(simp;omega)) [hi,he,hc,hx,-getElem?_pos]
   intro j e' hj he'
   by_cases hji:j=i
   ·subst hji
    rw [he] at he'
    cases he'
    exact hx
   ·exact hs j e' (by omega) he'
 ·rintro s ⟨hs,rfl⟩
  unfold Zor
  simp (maxSteps:=4000000) (disch:=first|omega|(simp;done)|(simp;omega)) [-getElem?_pos]
  intro e he
  obtain ⟨j,hj⟩:=List.mem_iff_getElem?.1 he
  exact hs j e (List.getElem?_eq_some_iff.1 hj).1 hj
theorem Zkv (x:Str)(b:Exp)(free:List Str)(l:List Exp)(hn:l.length≤1073741824)(hw:∀ e∈l,e.wf∧e.weight≤1073741824) :
 (K A).call 117 [exsV l,.sc (.clo 246 [true] [[.ptr 0 0]])] [.box (Zca x b free)]=some (Zah (decide (∃ e∈l,x∈Zag e)),[.box (Zca x b free)]):=by
 refine Zas (vf:=v117) (by kernel_rfl) rfl (by simp) ?_
 obtain ⟨_,⟨z,hz,rfl⟩,hc⟩:=Zqb (A:=A) x b free l hn hw
 have hd:decide (∃ e∈l,x∈Zag e)=decide (0≤z):=by rw [decide_eq_decide];exact hz.symm
 rw [hd]
 unfold v117
 simp (maxSteps:=4000000) (disch:=first|omega|(simp;done)|(simp;omega)) [hc,-getElem?_pos]
theorem Zq6 (x:Str)(b:Exp)(free:List Str)(n:Str)(l:List Exp)(hf:free.length≤4294967296)(hn:l.length≤1073741824)(hw:∀ e∈l,e.wf∧e.weight≤1073741824) :
 (K A).call 206 [.ag (Zca x b free),strV n,exsV l] []=some (Zah (decide (hitP x free n l)),[]):=by
 refine Zas (vf:=v206) (by kernel_rfl) rfl (by simp) ?_
 have h1:=ZbA (A:=A) free n hf
 have h2:=Zkv (A:=A) x b free l hn hw
 unfold v206
 by_cases hm:n∈free
 ·have hd:decide (hitP x free n l)=decide (∃ e∈l,x∈Zag e):=by
   rw [decide_eq_decide]
   exact ⟨fun h=>h.2,fun h=>⟨hm,h⟩⟩
  rw [hd]
  generalize decide (∃ e∈l,x∈Zag e)=v at *
  simp (maxSteps:=4000000) (disch:=first|omega|(simp;done)|(simp;omega)) [h1,h2,hm,-getElem?_pos]
 ·have hd:decide (hitP x free n l)=false:=by
   rw [decide_eq_false_iff_not]
   exact fun h=>hm h.1
  rw [hd]
  simp (maxSteps:=4000000) (disch:=first|omega|(simp;done)|(simp;omega)) [h1,hm,-getElem?_pos]
def ZjY (x:Str)(free:List Str)(e:Exp):List Exp:=e.kids.zipIdx.map fun p=>if p.2<ZaV e then p.1 else repl e.name (ZaX 0 (allP e++free++[x])) p.1
theorem Znc (x:Str)(b:Exp)(free:List Str)(e:Exp)(hs:shp e)(hk:e.kind=4∨e.kind=6∨e.kind=7)(hl:e.weight≤67108864)(hfl:free.length≤67108864)(hn:nmL e)(hnf:∀ s∈free,s.length≤1000)(hx:x.length≤1000) :
 (K A).call 143 [.ag (Zca x b free),expV e] []=some (expV (ZcP x free e),[]):=by
 refine Zas (vf:=v143) (by kernel_rfl) rfl (by simp) ?_
 obtain ⟨ha,hch⟩:=Zbw (by omega) hs.one
 have hkl:ZaV e<e.kids.length∧e.kids.length≤2:=by
  have h:=hs.one.2.2
  unfold Zmo at h
  unfold ZaV
  rcases hk with k|k|k
  ·rw [if_neg (by omega),if_pos (by omega)] at h
   rw [if_neg (by omega),h]
   decide
  ·rw [if_pos (by omega)] at h
   rw [if_pos (by omega),h]
   decide
  ·rw [if_pos (by omega)] at h
   rw [if_neg (by omega),h]
   decide
 obtain ⟨hk1,hk2⟩:=hkl
 have hkw:∀ y∈e.kids,y.wf∧y.weight≤67108864:=fun y hy=>⟨(hs.child (Zlg hy)).wf,by have:=Exp.child_lt (Zlg hy);omega⟩
 have hkne:e.kids≠[]:=fun h=>by rw [h] at hk1;simp at hk1
 have hc:=Zof (A:=A) e.kids hkne (by omega)
 have hhit:=Zq6 (A:=A) x b free e.name (e.kids.drop (ZaV e)) (by omega) (by rw [List.length_drop];omega) (fun y hy=>by have:=hkw y (List.mem_of_mem_drop hy);exact ⟨this.1,by omega⟩)
 have hall:=Zrn (A:=A) e hs.wf (by omega)
 have hal:=Zeq e hs.wf
 have hfr:=ZlP (A:=A) (allP e++free++[x]) (by simp;omega) (fun s h=>by
  simp only [List.mem_append,List.mem_singleton] at h
  rcases h with (h|h)|h
  ·exact hn s h
  ·exact hnf s h
  ·exact h▸hx)
 have hrow0:wc e.row=[.c (.int .i64 e.kind),.c (.int .i64 e.pos),.c (.str e.name),.c (.int .i64 e.num),.c (.sl (Exp.rows e.kids)),.c (.sl (Exp.armRows e.arms)),.c (.int .i64 e.ty.kind),.c (.str e.ty.name),.c (.int .i64 e.ty.id),.c (.int .i64 e.ty.home),.c (.sl (Ty.rows e.ty.args))]:=by rw [Exp.row_eq];rfl
 have hvw:∀ i,((wr (Exp.rows e.kids)).drop i).take (e.kids.length-i)=wr (Exp.rows (e.kids.drop i)):=fun i=>by
  rw [ZnB _ _ _ (by simp),Exp.rows_map,Exp.rows_map,List.map_drop]
 have hbin:ZcP x free e=if e.name=x∨¬hitP x free e.name (e.kids.drop (ZaV e)) then e else .mk e.kind e.pos (ZaX 0 (allP e++free++[x])) e.num (ZjY x free e) e.arms e.ty:=by
  unfold ZcP
  by_cases h1:e.name=x
  ·rw [if_pos (.inl h1),if_pos (.inl h1)]
  ·by_cases h2:hitP x free e.name (e.kids.drop (ZaV e))
   ·rw [if_neg (fun q=>q.elim h1 fun q=>q.elim (fun q=>by omega) fun q=>q h2),if_neg (fun q=>q.elim h1 fun q=>q h2)]
    rfl
   ·rw [if_pos (.inr (.inr h2)),if_pos (.inr h2)]
 have hsc:(ZaV e:Int)=if e.kind=6 then 1 else 0:=by unfold ZaV;split<;>rfl
 have hge:¬(e.kids.length:Int)≤ZaV e:=by omega
 have hKl:(ZjY x free e).length=e.kids.length:=by simp [ZjY]
 have hKg:∀ (i:Nat) y,e.kids[i]?=some y→(ZjY x free e)[i]?=some (if i<ZaV e then y else repl e.name (ZaX 0 (allP e++free++[x])) y):=fun i y h=>by simp [ZjY,h]
 have hK0:(ZjY x free e).take (ZaV e)++e.kids.drop (ZaV e)=e.kids:=by
  refine List.ext_getElem? fun i => ?_
  by_cases hi:i<ZaV e
  ·obtain ⟨y,hy⟩:=Zaa (l:=e.kids) (i:=i) (by omega)
   rw [List.getElem?_append_left (by rw [List.length_take];omega),List.getElem?_take,if_pos hi,hKg i y hy,if_pos hi,hy]
  ·rw [List.getElem?_append_right (by rw [List.length_take];omega),List.length_take,List.getElem?_drop,show ZaV e+(i-min (ZaV e) (ZjY x free e).length)=i by omega]
 have hrowR:∀ to ks,wc (Exp.mk e.kind e.pos to e.num ks e.arms e.ty).row=[.c (.int .i64 e.kind),.c (.int .i64 e.pos),.c (.str to),.c (.int .i64 e.num),.c (.sl (Exp.rows ks)),.c (.sl (Exp.armRows e.arms)),.c (.int .i64 e.ty.kind),.c (.str e.ty.name),.c (.int .i64 e.ty.id),.c (.int .i64 e.ty.home),.c (.sl (Ty.rows e.ty.args))]:=fun to ks=>by rw [Exp.row_eq];rfl
 rw [hbin]
 clear hbin
 have hv0:=hvw 0
 have hv1:=hvw 1
 simp only [Nat.sub_zero,List.drop_zero] at hv0
 generalize hS:ZaV e=sc at *
 unfold v143
 refine ZfQ ⟨[(2,.sc (.ptr 64 0)),(3,.sc (.ptr 128 0)),(4,.sc (.ptr 192 0))],[(64,some (.box (Zca x b free))),(128,some (.box (wc e.row))),(192,some Zde)]⟩ (by simp) ?_
 refine ZfQ ⟨[(2,.sc (.ptr 64 0)),(3,.sc (.ptr 128 0)),(4,.sc (.ptr 192 0)),(5,.sc (.arr 416 e.kids.length))],[(64,some (.box (Zca x b free))),(128,some (.box (wc e.row))),(192,some Zde),(416,some (.arr 11 (wr (Exp.rows e.kids)) 0))]⟩ (by simp (disch:=first|omega|(simp;done)|(simp;omega)) [hc]) ?_
 refine ZfQ ⟨[(2,.sc (.ptr 64 0)),(3,.sc (.ptr 128 0)),(4,.sc (.ptr 192 0)),(5,.sc (.arr 416 e.kids.length)),(6,intV 0)],[(64,some (.box (Zca x b free))),(128,some (.box (wc e.row))),(192,some Zde),(416,some (.arr 11 (wr (Exp.rows e.kids)) 0))]⟩ (by simp) ?_
 by_cases h1:e.name=x
 ·rw [if_pos (.inl h1)]
  subst h1
  by_cases h6:e.kind=6
  ·simp (maxSteps:=4000000) (disch:=first|omega|(simp;done)|(simp;omega)) [h6,hrow0,-getElem?_pos]
  ·simp (maxSteps:=4000000) (disch:=first|omega|(simp;done)|(simp;omega)) [h6,hrow0,-getElem?_pos]
 ·by_cases h2:hitP x free e.name (e.kids.drop sc)
  ·rw [if_neg (fun q=>q.elim h1 fun q=>q h2)]
   refine ZlS ⟨[(2,.sc (.ptr 64 0)),(3,.sc (.ptr 128 0)),(4,.sc (.ptr 192 0)),(5,.sc (.arr 416 e.kids.length)),(6,intV (sc:Int)),(35,Zah false)],[(64,some (.box (Zca x b free))),(128,some (.box (wc e.row))),(192,some Zde),(416,some (.arr 11 (wr (Exp.rows e.kids)) 0))]⟩ (by
    by_cases h6:e.kind=6
    ·rw [if_pos h6] at hsc
     have hsc1:sc=1:=by omega
     subst hsc1
     have hg1:¬(e.kids.length:Int)≤1:=by omega
     have hsl:∀ L:Nat→Option Obj,Zbn L 11 (.sc (.arr 416 e.kids.length)) (some (.sc (.c (.int .i64 1)))) none none=arrK (L 416) fun s' rows _=>bif rows.length == e.kids.length && s' == 11 then some (.sc (.vw 416 e.kids.length 1 (e.kids.length-1)),[]) else none:=fun L=>slice_arr_from (i:=1) (by omega)
     have hle1:1+(e.kids.length-1)=e.kids.length:=by omega
     simp (maxSteps:=4000000) (disch:=first|omega|(simp;done)|(simp;omega)) [h1,h2,h6,hg1,hsl,hle1,hkne,hhit,hv1,-List.drop_one,-getElem?_pos]
    ·rw [if_neg h6] at hsc
     have hsc0:sc=0:=by omega
     subst hsc0
     rw [List.drop_zero] at hhit h2
     have hsl:∀ L:Nat→Option Obj,Zbn L 11 (.sc (.arr 416 e.kids.length)) (some (.sc (.c (.int .i64 0)))) none none=arrK (L 416) fun s' rows _=>bif rows.length == e.kids.length && s' == 11 then some (.sc (.vw 416 e.kids.length 0 (e.kids.length-0)),[]) else none:=fun L=>slice_arr_from (i:=0) (by omega)
     simp (maxSteps:=4000000) (disch:=first|omega|(simp;done)|(simp;omega)) [h1,h2,h6,hsl,hkne,hhit,hv0,-getElem?_pos]) ?_
   generalize allP e=ap at *
   generalize ZaX 0 (ap++free++[x])=to at *
   generalize ZjY x free e=kr at *
   rw [List.append_assoc] at hfr
   simp (maxSteps:=4000000) (disch:=first|omega|(simp;done)|(simp;omega)) [hall,hfr,Nat.add_assoc,-getElem?_pos]
   refine Zaz (fun j=>⟨[(3,.sc (.ptr 128 0)),(4,.sc (.ptr 192 0)),(5,.sc (.arr 416 e.kids.length)),(7,strV to),(8,intV ((sc+j:Nat):Int))],[(128,some (.box (wc e.row))),(192,some Zde),(416,some (.arr 11 (wr (Exp.rows (kr.take (sc+j)++e.kids.drop (sc+j)))) 0)),(2400,some (.arr 1 (wr (Zaf (ap++(free++[x])))) 0))]⟩) (e.kids.length-sc) ?_ ?_ ?_
   ·simp [hK0]
   ·intro j hj
    obtain ⟨y,hy⟩:=Zaa (l:=e.kids) (i:=sc+j) (by omega)
    have hyw:=hkw y (List.mem_of_getElem? hy)
    have hz:=hKg (sc+j) y hy
    rw [if_neg (by omega)] at hz
    have hg:=Zb2 (i:=sc+j) hKl (by omega)
    rw [hy] at hg
    have hst:=Zb8 hKl hz
    have hln:=Zb1 (i:=sc+j) hKl
    have hrep:=ZhD (A:=A) e.name to y hyw.1 (by omega)
    rw [show sc+(j+1)=sc+j+1 from rfl,←hst]
    generalize kr.take (sc+j)++e.kids.drop (sc+j)=zr at *
    have hset:=Zfy zr (sc+j) (repl e.name to y)
    have hlt:((sc+j:Nat):Int)<e.kids.length:=by omega
    have hltn:sc+j<e.kids.length:=by omega
    have hcast:((sc+j+1:Nat):Int)=((sc+j:Nat):Int)+1:=by omega
    rw [hcast]
    generalize sc+j=q at *
    unfold Zm4
    simp (maxSteps:=4000000) (disch:=first|omega|(simp;done)|(simp;omega)) [hlt,hltn,hg,hln,hrep,hset,Za6,-getElem?_pos]
   ·have htk:kr.take (sc+(e.kids.length-sc))++e.kids.drop (sc+(e.kids.length-sc))=kr:=by
     rw [show sc+(e.kids.length-sc)=e.kids.length by omega,List.drop_of_length_le (by omega),List.append_nil,List.take_of_length_le (by omega)]
    have hlt:¬((sc+(e.kids.length-sc):Nat):Int)<e.kids.length:=by omega
    rw [htk]
    generalize sc+(e.kids.length-sc)=q at *
    unfold Zm4
    simp (maxSteps:=4000000) (disch:=first|omega|(simp;done)|(simp;omega)) [hlt,hrow0,hrowR,hKl,Za6,-getElem?_pos]
  ·rw [if_pos (.inr h2)]
   by_cases h6:e.kind=6
   ·rw [if_pos h6] at hsc
    have hsc1:sc=1:=by omega
    subst hsc1
    have hg1:¬(e.kids.length:Int)≤1:=by omega
    have hsl:∀ L:Nat→Option Obj,Zbn L 11 (.sc (.arr 416 e.kids.length)) (some (.sc (.c (.int .i64 1)))) none none=arrK (L 416) fun s' rows _=>bif rows.length == e.kids.length && s' == 11 then some (.sc (.vw 416 e.kids.length 1 (e.kids.length-1)),[]) else none:=fun L=>slice_arr_from (i:=1) (by omega)
    have hle1:1+(e.kids.length-1)=e.kids.length:=by omega
    simp (maxSteps:=4000000) (disch:=first|omega|(simp;done)|(simp;omega)) [h1,h2,h6,hg1,hsl,hle1,hkne,hhit,hv1,-List.drop_one,hrow0,-getElem?_pos]
   ·rw [if_neg h6] at hsc
    have hsc0:sc=0:=by omega
    subst hsc0
    rw [List.drop_zero] at hhit h2
    have hsl:∀ L:Nat→Option Obj,Zbn L 11 (.sc (.arr 416 e.kids.length)) (some (.sc (.c (.int .i64 0)))) none none=arrK (L 416) fun s' rows _=>bif rows.length == e.kids.length && s' == 11 then some (.sc (.vw 416 e.kids.length 0 (e.kids.length-0)),[]) else none:=fun L=>slice_arr_from (i:=0) (by omega)
    simp (maxSteps:=4000000) (disch:=first|omega|(simp;done)|(simp;omega)) [h1,h2,h6,hsl,hkne,hhit,hv0,hrow0,-getElem?_pos]
variable {A:Zac}
theorem Zft {x:Str}{free vars:List Str}{b:Exp}(hn:inj vars)(hx:x∉vars)(hs:shp b)(hp:properP b)(hl:b.weight+vars.length+free.length≤134217728)(hb:nmL b)(hv:∀ s∈vars,s.length≤1000) :
 ∀ k,k≤vars.length→nmL (ZeT x free vars b k).2∧∀ s∈(ZeT x free vars b k).1,s.length≤1000
 | 0,_=>⟨hb,hv⟩
 | k+1,hk=>by
  obtain ⟨h1,h2⟩:=Zft (free:=free) hn hx hs hp hl hb hv k (by omega)
  have ho:=Zgk (free:=free) hn hx hs hp k (by omega)
  rw [ZfM]
  generalize ZeT x free vars b k=p at *
  obtain ⟨vs,bk⟩:=p
  simp only at *
  unfold ZeK
  simp only
  cases hv2:vs[k]? with
  | none=>exact ⟨h1,h2⟩
  | some v =>
   simp only
   split
   ·exact ⟨h1,h2⟩
   ·have hal:=Zeq bk ho.shape.wf
    have hf:=ZdY 0 (allP bk++vs++free++[x]) (by have:=ho.weight;have:=ho.len;simp;omega)
    refine ⟨ZiB h1 hf,fun s hs => ?_⟩
    rcases Zku hs with hs|hs
    ·exact h2 s hs
    ·exact hs▸hf
theorem arm145 (x:Str)(b:Exp)(free:List Str)(a:ArmH × Exp)(hi:inj a.1.vars)(hs:shp a.2)(hp:properP a.2)(hl:a.2.weight+a.1.vars.length+free.length≤134217728)(hn:nmL a.2)(hv:∀ s∈a.1.vars,s.length≤1000)(hnf:∀ s∈free,s.length≤1000)(hxl:x.length≤1000) :
 (K A).call 145 [.ag (Zca x b free),armV a] []=some (armV (armP x free a),[]):=by
 refine Zas (vf:=v145) (by kernel_rfl) rfl (by simp) ?_
 have hc0:=ZbA (A:=A) a.1.vars x (by omega)
 unfold armP
 unfold v145
 by_cases hx:x∈a.1.vars
 ·rw [if_pos hx]
  have hrow:wc (Zar a)=[.c (.int .i64 a.1.pos),.c (.str a.1.con),.c (.sl (Zaf a.1.vars)),.c (.int .i64 a.2.kind),.c (.int .i64 a.2.pos),.c (.str a.2.name),.c (.int .i64 a.2.num),.c (.sl (Exp.rows a.2.kids)),.c (.sl (Exp.armRows a.2.arms)),.c (.int .i64 a.2.ty.kind),.c (.str a.2.ty.name),.c (.int .i64 a.2.ty.id),.c (.int .i64 a.2.ty.home),.c (.sl (Ty.rows a.2.ty.args))]:=by rw [Zar,Exp.row_eq];rfl
  simp (maxSteps:=4000000) (disch:=first|omega|(simp;done)|(simp;omega)) [hc0,hx,hrow,-getElem?_pos]
 ·rw [if_neg hx]
  have hok:=Zgk (free:=free) hi hx hs hp
  have hnm:=Zft (free:=free) hi hx hs hp hl hn hv
  have hst:=ZfM x free a.1.vars a.2
  have h0:ZeT x free a.1.vars a.2 0=(a.1.vars,a.2):=rfl
  have hcl:=ZrI (A:=A) a.1.vars (by omega)
  obtain ⟨⟨ap,ac,vars⟩,ab⟩:=a
  simp only at *
  have hsp0:splice (wc (Zar ((⟨ap,ac,vars⟩:ArmH),ab))) 2 [W.arr 864 vars.length]=some (W.c (.int .i64 ap)::W.c (.str ac)::W.arr 864 vars.length::wc ab.row):=by
   rw [Zar,Exp.row_eq ab]
   rfl
  have hcu2:∀ y:Exp,cut (W.c (.int .i64 ap)::W.c (.str ac)::W.arr 864 vars.length::wc y.row) 2 1=some [W.arr 864 vars.length]:=by
   intro y
   rw [Exp.row_eq y]
   rfl
  have hcu3:∀ y:Exp,cut (W.c (.int .i64 ap)::W.c (.str ac)::W.arr 864 vars.length::wc y.row) 3 11=some (wc y.row):=by
   intro y
   rw [Exp.row_eq y]
   rfl
  have hsp3:∀ y z:Exp,splice (W.c (.int .i64 ap)::W.c (.str ac)::W.arr 864 vars.length::wc y.row) 3 (wc z.row)=some (W.c (.int .i64 ap)::W.c (.str ac)::W.arr 864 vars.length::wc z.row):=by
   intro y z
   rw [Exp.row_eq y,Exp.row_eq z]
   rfl
  simp (maxSteps:=4000000) (disch:=first|omega|(simp;done)|(simp;omega)) [hc0,hx,hcl,hsp0,hcu2,-getElem?_pos]
  refine Zaz (fun k=>⟨[(2,.sc (.ptr 64 0)),(3,.sc (.ptr 128 0)),(4,.sc (.ptr 192 0)),(19,.sc (.arr 864 vars.length)),(20,intV vars.length),(21,intV k)],
   [(64,some (.box (Zca x b free))),(128,some (.box (W.c (.int .i64 ap)::W.c (.str ac)::W.arr 864 vars.length::wc (ZeT x free vars ab k).2.row))),(192,some (.box [zi,zs,.nil,zi,zi,zs,zi,.nil,.nil,zi,zs,zi,zi,.nil])),(864,some (.arr 1 (wr (Zaf (ZeT x free vars ab k).1)) 0))]⟩) vars.length ?_ ?_ ?_
  ·simp [h0]
  ·intro k hk
   have ho:=hok k (by omega)
   obtain ⟨hn1,hn2⟩:=hnm k (by omega)
   rw [hst k]
   generalize ZeT x free vars ab k=p at *
   obtain ⟨vs,bk⟩:=p
   simp only at *
   have hvl:=ho.len
   have hw:=ho.weight
   obtain ⟨v,hvk⟩:=Zaa (l:=vs) (i:=k) (by omega)
   have hct:=ZbA (A:=A) (vs.drop (k+1)) v (by rw [List.length_drop];omega)
   have hhit:=Zq6 (A:=A) x b free v [bk] (by omega) (by simp) (fun y hy=>by rw [List.mem_singleton.1 hy];exact ⟨ho.shape.wf,by omega⟩)
   have hex:Exp.rows [bk]=[bk.row]:=by rw [Exp.rows,Exp.rows]
   simp only [exsV,hex] at hhit
   have hall:=Zrn (A:=A) bk ho.shape.wf (by omega)
   have hal:=Zeq bk ho.shape.wf
   have hfr:=ZlP (A:=A) (allP bk++vs++free++[x]) (by simp;omega) (fun s h=>by
    simp only [List.mem_append,List.mem_singleton] at h
    rcases h with ((h|h)|h)|h
    ·exact hn1 s h
    ·exact hn2 s h
    ·exact hnf s h
    ·exact h▸hxl)
   have hkI:(k:Int)<vars.length:=by omega
   have hsl:∀ L:Nat→Option Obj,Zbn L 1 (.sc (.arr 864 vars.length)) (some (.sc (.c (.int .i64 ((k:Int)+1))))) none none=arrK (L 864) fun s' rows _=>bif rows.length == vars.length && s' == 1 then some (.sc (.vw 864 vars.length (k+1) (vars.length-(k+1))),[]) else none:=fun L=>slice_arr_from (i:=k+1) (by omega)
   have hvw:((wr (Zaf vs)).drop (k+1)).take (vars.length-(k+1))=wr (Zaf (vs.drop (k+1))):=by
    rw [ZnB _ _ _ (by simp;omega)]
    simp [Zaf]
   have hkle:k+1+(vars.length-(k+1))=vars.length:=by omega
   unfold ZeK
   simp only [hvk]
   have wbk:∀ L d,Zae (W.toC L d) (wc bk.row)=some bk.row:=fun L d=>by simp
   unfold ZnX
   by_cases hd:v∈vs.drop (k+1)
   ·rw [if_pos (.inl hd)]
    simp (maxSteps:=4000000) (disch:=first|omega|(simp;done)|(simp;omega)) [hkI,hvk,hvl,hcu2,hsl,hvw,hkle,hct,hd,-getElem?_pos]
   ·by_cases hh:hitP x free v [bk]
    ·rw [if_neg (fun q=>q.elim hd fun q=>q hh)]
     have hrep:=fun to=>ZhD (A:=A) v to bk ho.shape.wf (by omega)
     generalize allP bk=al at *
     generalize ZaX 0 (al++vs++free++[x])=to at *
     simp only [List.append_assoc] at hfr
     have hset:=ZgO vs k to
     simp (maxSteps:=4000000) (disch:=first|omega|(simp;done)|(simp;omega)) [hk,hkI,hvk,hvl,hcu2,hcu3,hsp3,hsl,hvw,hkle,hct,hd,hhit,hh,hall,hfr,hrep,hset,Nat.add_assoc,-getElem?_pos]
    ·rw [if_pos (.inr hh)]
     simp (maxSteps:=4000000) (disch:=first|omega|(simp;done)|(simp;omega)) [hkI,hvk,hvl,hcu2,hcu3,hsl,hvw,hkle,hct,hd,hhit,hh,-getElem?_pos]
  ·have ho:=hok vars.length (Nat.le_refl _)
   generalize ZeT x free vars ab vars.length=p at *
   obtain ⟨vs,bk⟩:=p
   simp only at *
   have hvl:=ho.len
   have hrow:wc (Zar ((⟨ap,ac,vs⟩:ArmH),bk))=[.c (.int .i64 ap),.c (.str ac),.c (.sl (Zaf vs)),.c (.int .i64 bk.kind),.c (.int .i64 bk.pos),.c (.str bk.name),.c (.int .i64 bk.num),.c (.sl (Exp.rows bk.kids)),.c (.sl (Exp.armRows bk.arms)),.c (.int .i64 bk.ty.kind),.c (.str bk.ty.name),.c (.int .i64 bk.ty.id),.c (.int .i64 bk.ty.home),.c (.sl (Ty.rows bk.ty.args))]:=by rw [Zar,Exp.row_eq];rfl
   have hrowb:wc bk.row=[.c (.int .i64 bk.kind),.c (.int .i64 bk.pos),.c (.str bk.name),.c (.int .i64 bk.num),.c (.sl (Exp.rows bk.kids)),.c (.sl (Exp.armRows bk.arms)),.c (.int .i64 bk.ty.kind),.c (.str bk.ty.name),.c (.int .i64 bk.ty.id),.c (.int .i64 bk.ty.home),.c (.sl (Ty.rows bk.ty.args))]:=by rw [Exp.row_eq];rfl
   unfold ZnX
   simp (maxSteps:=4000000) (disch:=first|omega|(simp;done)|(simp;omega)) [hrow,hrowb,hvl,-getElem?_pos]
end Go.Vs.Tryz
