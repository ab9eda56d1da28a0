/- Instances: what comes of an expression when its free variables stand for others, nothing captured (plain). (Parts of one proof, put together.) -/
import Derived.Test.YtlcncicmkkelcaaGreatDoorR6a
import Derived.Test.YtlcncicmkkelcaaGreatDoorR5a
import Derived.Sort.AssemblyPlain
import Derived.Test.YtlcncicmkkelcaaGreatDoorR2a
set_option linter.unusedSimpArgs false
set_option linter.unusedVariables false
set_option linter.deprecated false
set_option maxHeartbeats 8000000
namespace Go.Vs.Tryz
open Go Go.Vs
abbrev Rep:=Str→Exp→Prop
def isVar (s:Str)(c:Exp):Prop:=c.kind=1∧c.name=s∧c.num=0∧c.ty=tz∧c.kids=[]∧c.arms=[]
def Rep.ext (V:Rep)(bs cs:List Str):Rep:=fun s c=>(s∈bs∧∃ t,t∈cs∧rlast bs s=rlast cs t∧isVar t c)∨(s∉bs∧V s c∧∀ u∈Zag c,u∉cs)
def instF (a:Exp)(l:List (Exp→Rep→Prop))(c:Exp)(V:Rep):Prop :=
 (a.kind=1→V a.name c)∧(a.kind≠1→headEq a c∧(a.kind=2→a.name=c.name)∧ZbZ a c∧∀ (i:Nat) f y,l[i]?=some f→c.children[i]?=some y→f y (V.ext (a.bound i) (c.bound i)))
def instR (a:Exp):Exp→Rep→Prop:=a.fold instF
theorem Zgl (a c:Exp)(V:Rep):instR a c V=((a.kind=1→V a.name c)∧(a.kind≠1→headEq a c∧(a.kind=2→a.name=c.name)∧ZbZ a c ∧
 ∀ (i:Nat) x y,a.children[i]?=some x→c.children[i]?=some y→instR x y (V.ext (a.bound i) (c.bound i)))):=by
 unfold instR
 rw [Exp.fold_eq]
 unfold instF
 simp only [List.getElem?_map,Option.map_eq_some_iff]
 apply propext
 refine and_congr_right fun _=>forall_congr' fun _=>and_congr_right fun _=>and_congr_right fun _=>and_congr_right fun _=>forall_congr' fun i => ?_
 constructor
 ·exact fun h x y hx hy=>h _ y ⟨x,hx,rfl⟩ hy
 ·rintro h f y ⟨x,hx,rfl⟩ hy
  exact h x y hx hy
theorem instR.var {a c:Exp}{V:Rep}(h:instR a c V)(hk:a.kind=1):V a.name c:=by rw [Zgl] at h;exact h.1 hk
theorem instR.node {a c:Exp}{V:Rep}(h:instR a c V)(hk:a.kind≠1):headEq a c∧(a.kind=2→a.name=c.name)∧ZbZ a c ∧
 ∀ (i:Nat) x y,a.children[i]?=some x→c.children[i]?=some y→instR x y (V.ext (a.bound i) (c.bound i)):=by rw [Zgl] at h;exact h.2 hk
theorem instR.mkVar {a c:Exp}{V:Rep}(hk:a.kind=1)(h:V a.name c):instR a c V:=by rw [Zgl];exact ⟨fun _=>h,fun k=>absurd hk k⟩
theorem instR.mk {a c:Exp}{V:Rep}(hk:a.kind≠1)(h:headEq a c∧(a.kind=2→a.name=c.name)∧ZbZ a c ∧
 ∀ (i:Nat) x y,a.children[i]?=some x→c.children[i]?=some y→instR x y (V.ext (a.bound i) (c.bound i))):instR a c V:=by rw [Zgl];exact ⟨fun k=>absurd k hk,fun _=>h⟩
theorem isVar.free {s:Str}{c:Exp}(h:isVar s c):Zag c=[s]:=by rw [Zbz,if_pos h.1,h.2.1]
theorem isVar.inst {s:Str}{c d:Exp}{V:Rep}(h:isVar s c):instR c d V↔V s d :=
 ⟨fun hi=>h.2.1▸hi.var h.1,fun hv=>.mkVar h.1 (h.2.1.symm▸hv)⟩
theorem instR.mono (a:Exp):∀ (c:Exp)(V W:Rep),instR a c V→(∀ s∈Zag a,∀ d,V s d→W s d)→instR a c W:=by
 induction a using Exp.ind with
 | h a ih =>
  intro c V W h hm
  by_cases hk:a.kind=1
  ·exact .mkVar hk (hm _ ((ZbC hk).2 rfl) _ (h.var hk))
  ·obtain ⟨h1,h2,h3,h4⟩:=h.node hk
   refine .mk hk ⟨h1,h2,h3,fun i x y hx hy=>ih x (List.mem_of_getElem? hx) y _ _ (h4 i x y hx hy) fun s hs d hd => ?_⟩
   rcases hd with hd|⟨q1,q2,q3⟩
   ·exact .inl hd
   ·exact .inr ⟨q1,hm s ((Zcn hk).2 ⟨i,x,hx,hs,q1⟩) d q2,q3⟩
theorem instR.free_from (a:Exp):∀ (c:Exp)(V:Rep),shp1 a→(∀ x∈a.children,shp x)→instR a c V→∀ u∈Zag c,∃ s∈Zag a,∃ d,V s d∧u∈Zag d:=by
 induction a using Exp.ind with
 | h a ih =>
  intro c V hs1 hs h u hu
  by_cases hk:a.kind=1
  ·exact ⟨a.name,(ZbC hk).2 rfl,c,h.var hk,hu⟩
  ·obtain ⟨h1,h2,h3,h4⟩:=h.node hk
   obtain ⟨i,y,hy,huy,hub⟩:=(Zcn (h1.1▸hk)).1 hu
   obtain ⟨x,hx⟩:=Zaa (l:=a.children) (i:=i) (by rw [h1.children];exact (List.getElem?_eq_some_iff.1 hy).1)
   have hmx:=List.mem_of_getElem? hx
   obtain ⟨s,hs',d,hd,hud⟩:=ih x hmx y _ (hs x hmx).one (fun z hz=>(hs x hmx).child hz) (h4 i x y hx hy) u huy
   rcases hd with ⟨_,t,ht,_,hv⟩|⟨q1,q2,_⟩
   ·rw [hv.free,List.mem_singleton] at hud
    exact absurd (hud▸ht) hub
   ·exact ⟨s,(Zcn hk).2 ⟨i,x,hx,hs',q1⟩,d,q2,hud⟩
theorem instR.free_to (a:Exp):∀ (c:Exp)(V:Rep),instR a c V→∀ s∈Zag a,∃ d,V s d∧∀ u∈Zag d,u∈Zag c:=by
 induction a using Exp.ind with
 | h a ih =>
  intro c V h s hs
  by_cases hk:a.kind=1
  ·rw [ZbC hk] at hs
   subst hs
   exact ⟨c,h.var hk,fun u hu=>hu⟩
  ·obtain ⟨h1,h2,h3,h4⟩:=h.node hk
   obtain ⟨i,x,hx,hsx,hsb⟩:=(Zcn hk).1 hs
   obtain ⟨y,hy⟩:=Zaa (l:=c.children) (i:=i) (by rw [←h1.children];exact (List.getElem?_eq_some_iff.1 hx).1)
   obtain ⟨d,hd,hf⟩:=ih x (List.mem_of_getElem? hx) y _ (h4 i x y hx hy) s hsx
   rcases hd with ⟨q,_⟩|⟨_,q2,q3⟩
   ·exact absurd q hsb
   ·exact ⟨d,q2,fun u hu=>(Zcn (h1.1▸hk)).2 ⟨i,y,hy,hf u hu,q3 u hu⟩⟩
def Rep.comp (V W:Rep):Rep:=fun s d=>∃ c,V s c∧shp c∧instR c d W
theorem ZpM {V W:Rep}{bs cs ds:List Str}{s:Str}{c d:Exp}(h1:V.ext bs cs s c)(hc:shp c)(h2:instR c d (W.ext cs ds)):(V.comp W).ext bs ds s d:=by
 rcases h1 with ⟨hs,t,ht,hr,hv⟩|⟨hs,hv,hf⟩
 ·rw [hv.inst] at h2
  rcases h2 with ⟨_,u,hu,hru,hvu⟩|⟨q,_⟩
  ·exact .inl ⟨hs,u,hu,hr.trans hru,hvu⟩
  ·exact absurd ht q
 ·have hm:instR c d W:=h2.mono _ _ _ _ fun u hu e he=>by
   rcases he with ⟨q,_⟩|⟨_,q,_⟩
   ·exact absurd q (hf u hu)
   ·exact q
  refine .inr ⟨hs,⟨c,hv,hc,hm⟩,fun u hu hud => ?_⟩
  obtain ⟨t,ht,e,he,hue⟩:=instR.free_from c d _ hc.one (fun x hx=>hc.child hx) h2 u hu
  rcases he with ⟨q,_⟩|⟨_,_,q⟩
  ·exact hf t ht q
  ·exact q u hue hud
def Rep.ok (V:Rep):Prop:=∀ s c,V s c→shp c
theorem isVar.shp {s:Str}{c:Exp}(h:isVar s c):shp c:=by
 obtain ⟨k,_,n,t,ks,am⟩:=h
 rw [Ze2]
 refine ⟨⟨⟨fun h8=>by omega,fun _=>am,fun _=>ks⟩,fun _=>⟨n,t⟩,?_⟩,fun x hx => ?_⟩
 ·rw [ks,k]
  rfl
 ·simp [Exp.children,ks,am] at hx
theorem Rep.ok.ext {V:Rep}(h:V.ok)(bs cs:List Str):(V.ext bs cs).ok:=by
 rintro s c (⟨_,t,_,_,hv⟩|⟨_,hv,_⟩)
 ·exact hv.shp
 ·exact h s c hv
theorem instR.comp (a:Exp):∀ (c d:Exp)(V W:Rep),V.ok→instR a c V→instR c d W→instR a d (V.comp W):=by
 induction a using Exp.ind with
 | h a ih =>
  intro c d V W ho h h'
  by_cases hk:a.kind=1
  ·exact .mkVar hk ⟨c,h.var hk,ho _ _ (h.var hk),h'⟩
  ·obtain ⟨h1,h2,h3,h4⟩:=h.node hk
   have hkc:c.kind≠1:=h1.1▸hk
   obtain ⟨g1,g2,g3,g4⟩:=h'.node hkc
   refine .mk hk ⟨⟨h1.1.trans g1.1,h1.2.1.trans g1.2.1,h1.2.2.1.trans g1.2.2.1,h1.2.2.2.1.trans g1.2.2.2.1,h1.2.2.2.2.trans g1.2.2.2.2⟩,fun k=>(h2 k).trans (g2 (h1.1▸k)),fun i p q hp hq => ?_,fun i x z hx hz => ?_⟩
   ·obtain ⟨u,hu⟩:=Zaa (l:=c.arms) (i:=i) (by have:=h1.2.2.2.2;have:=(List.getElem?_eq_some_iff.1 hp).1;omega)
    exact ⟨(h3 i p u hp hu).1.trans (g3 i u q hu hq).1,(h3 i p u hp hu).2.trans (g3 i u q hu hq).2⟩
   ·obtain ⟨y,hy⟩:=Zaa (l:=c.children) (i:=i) (by rw [←h1.children];exact (List.getElem?_eq_some_iff.1 hx).1)
    refine (ih x (List.mem_of_getElem? hx) y z _ _ (ho.ext _ _) (h4 i x y hx hy) (g4 i y z hy hz)).mono _ _ _ _ fun s _ e he => ?_
    obtain ⟨b,hb,hsb,hbe⟩:=he
    exact ZpM hb hsb hbe
def ofR (R:Str→Str→Prop):Rep:=fun s c=>∃ t,R s t∧isVar t c
def idV:Rep:=ofR fun s t=>s=t
theorem instR.refl (a:Exp):∀ V:Rep,shp a→(∀ s∈Zag a,∀ c,isVar s c→V s c)→instR a a V:=by
 induction a using Exp.ind with
 | h a ih =>
  intro V hs h
  by_cases hk:a.kind=1
  ·obtain ⟨a1,a2,a3⟩:=ZcL hs.one.1 hk
   obtain ⟨n,t⟩:=hs.one.2.1 hk
   exact .mkVar hk (h a.name ((ZbC hk).2 rfl) a ⟨hk,rfl,n,t,a1,a2⟩)
  ·refine .mk hk ⟨⟨rfl,rfl,rfl,rfl,rfl⟩,fun _=>rfl,fun i p q hp hq => ?_,fun i x y hx hy => ?_⟩
   ·rw [hp] at hq
    cases hq
    exact ⟨rfl,rfl⟩
   ·rw [hx] at hy
    cases hy
    refine ih x (List.mem_of_getElem? hx) _ (hs.child (List.mem_of_getElem? hx)) fun s hsx c hc => ?_
    by_cases hb:s∈a.bound i
    ·exact .inl ⟨hb,s,hb,rfl,hc⟩
    ·refine .inr ⟨hb,h s ((Zcn hk).2 ⟨i,x,hx,hsx,hb⟩) c hc,fun u hu => ?_⟩
     rw [hc.free,List.mem_singleton] at hu
     subst hu
     exact hb
theorem instR.uniq (a:Exp):∀ (a' c c':Exp)(R Q V V':Rep),instR a a' R→instR a c V→instR a' c' V' →
 (∀ s e d d',R s e→V s d→instR e d' V'→instR d d' Q)→(∀ s e,R s e→∃ t,isVar t e)→(∀ u e e',Q u e→Q u e'→∀ w∈Zag e,w∈Zag e')→instR c c' Q:=by
 induction a using Exp.ind with
 | h a ih =>
  intro a' c c' R Q V V' h hv hv' hq hR hQ
  by_cases hk:a.kind=1
  ·exact hq a.name a' c c' (h.var hk) (hv.var hk) hv'
  ·obtain ⟨h1,h2,h3,h4⟩:=h.node hk
   obtain ⟨v1,v2,v3,v4⟩:=hv.node hk
   obtain ⟨w1,w2,w3,w4⟩:=hv'.node (h1.1▸hk)
   have hkc:c.kind≠1:=v1.1▸hk
   refine .mk hkc ⟨⟨v1.1.symm.trans (h1.1.trans w1.1),v1.2.1.symm.trans (h1.2.1.trans w1.2.1),v1.2.2.1.symm.trans (h1.2.2.1.trans w1.2.2.1),v1.2.2.2.1.symm.trans (h1.2.2.2.1.trans w1.2.2.2.1),v1.2.2.2.2.symm.trans (h1.2.2.2.2.trans w1.2.2.2.2)⟩,
    fun k=>(v2 (v1.1.trans k)).symm.trans ((h2 (v1.1.trans k)).trans (w2 (h1.1.symm.trans (v1.1.trans k)))),fun i p q hp hq' => ?_,fun i y z hy hz => ?_⟩
   ·obtain ⟨u,hu⟩:=Zaa (l:=a.arms) (i:=i) (by have:=v1.2.2.2.2;have:=(List.getElem?_eq_some_iff.1 hp).1;omega)
    obtain ⟨w,hw⟩:=Zaa (l:=a'.arms) (i:=i) (by have:=h1.2.2.2.2;have:=(List.getElem?_eq_some_iff.1 hu).1;omega)
    have e1:=v3 i u p hu hp
    have e2:=h3 i u w hu hw
    have e3:=w3 i w q hw hq'
    exact ⟨e1.1.symm.trans (e2.1.trans e3.1),e1.2.symm.trans (e2.2.trans e3.2)⟩
   ·obtain ⟨x,hx⟩:=Zaa (l:=a.children) (i:=i) (by rw [v1.children];exact (List.getElem?_eq_some_iff.1 hy).1)
    obtain ⟨x',hx'⟩:=Zaa (l:=a'.children) (i:=i) (by rw [←h1.children];exact (List.getElem?_eq_some_iff.1 hx).1)
    refine ih x (List.mem_of_getElem? hx) x' y z _ _ _ _ (h4 i x x' hx hx') (v4 i x y hx hy) (w4 i x' z hx' hz) ?_ ?_ ?_
    ·intro s e d d' hs hd hd'
     rcases hs with ⟨hs,t,ht,hr,hvt⟩|⟨hs,hr,hf⟩
     ·rcases hd with ⟨_,u,hu,hru,hvu⟩|⟨q,_⟩
      ·rw [hvt.inst] at hd'
       rcases hd' with ⟨_,w,hw,hrw,hvw⟩|⟨q,_⟩
       ·rw [hvu.inst]
        exact .inl ⟨hu,w,hw,hru.symm.trans (hr.trans hrw),hvw⟩
       ·exact absurd ht q
      ·exact absurd hs q
     ·rcases hd with ⟨q,_⟩|⟨_,hd,hfd⟩
      ·exact absurd q hs
      ·obtain ⟨t,hvt⟩:=hR s e hr
       rw [hvt.inst] at hd'
       have htf:=hf t (by rw [hvt.free];simp)
       rcases hd' with ⟨q,_⟩|⟨_,hd',hfd'⟩
       ·exact absurd q htf
       ·have hdd:=hq s e d d' hr hd (hvt.inst.2 hd')
        refine hdd.mono _ _ _ _ ?_
        intro u hu e' he'
        obtain ⟨e2,he2,hf2⟩:=instR.free_to d d' Q hdd u hu
        exact .inr ⟨hfd u hu,he',fun w hw=>hfd' w (hf2 w (hQ u e' e2 he' he2 w hw))⟩
    ·rintro s e (⟨_,t,_,_,hv⟩|⟨_,hr,_⟩)
     ·exact ⟨t,hv⟩
     ·exact hR s e hr
    ·rintro u e e' (⟨h1,t,ht,hr,hv⟩|⟨h1,he,_⟩) (⟨g1,t',ht',hr',hv'⟩|⟨g1,he',_⟩) w hw
     ·have e1:=Ze8 ht
      have e2:=Ze8 ht'
      rw [←hr] at e1
      rw [←hr',e1] at e2
      have htt:t=t':=Option.some.inj e2
      rw [hv.free] at hw
      rw [hv'.free,←htt]
      exact hw
     ·exact absurd h1 g1
     ·exact absurd g1 h1
     ·exact hQ u e e' he he' w hw
variable {A:Zac}
variable {A:Zac}
def ltN (x y:Nat):Bool:=decide (x<y)
theorem swoN:Sort.SWO ltN:=⟨fun x=>by simp [ltN],fun x y z h1 h2=>by simp only [ltN,decide_eq_true_eq] at *;omega,fun x y z h1 h2=>by simp only [ltN,decide_eq_false_iff_not] at *;omega⟩
theorem Zf8 (x y:Nat):ltN x y=decide (x<y):=rfl
abbrev arrA (d:Array Nat):Obj:=arrU d.toList
def Is (e:Array Nat)(l:List Nat):Prop:=e.toList=l
theorem Za0 {e:Array Nat}{l:List Nat}(h:Is e l){i:Nat}(hi:i<e.size):l[i]?=some e[i]! :=by
 cases h
 rw [Array.getElem?_toList]
 simp [hi]
theorem Zd4 {e:Array Nat}{l:List Nat}(h:Is e l)(i j:Nat):Is (Sort.swp e i j) ((l.set i e[j]!).set j e[i]!):=by
 cases h
 unfold Is
 simp [Sort.swp]
theorem ZaK {e:Array Nat}{l:List Nat}(h:Is e l):l.length=e.size:=by cases h;simp
theorem isEq {e:Array Nat}{l:List Nat}(h:Is e l):e.toList=l:=h
@[simp] theorem swp_size (d:Array Nat) (i j:Nat):(Sort.swp d i j).size=d.size:=by simp [Sort.swp]
theorem ZpX {a j:Nat}(e:Array Nat)(h:a<j):Sort.insInner ltN a j e=if e[j]! < e[j-1]! then Sort.insInner ltN a (j-1) (Sort.swp e j (j-1)) else e:=by
 obtain ⟨k,rfl⟩:∃ k,j=k+1:=⟨j-1,by omega⟩
 rw [Sort.insInner]
 simp only [Nat.add_sub_cancel,ltN,h,decide_true,Bool.true_and,decide_eq_true_eq,gt_iff_lt]
theorem ZqP {a:Nat}(e:Array Nat):Sort.insInner ltN a a e=e:=by
 cases a with
 | zero=>rw [Sort.insInner]
 | succ a=>rw [Sort.insInner];simp
theorem Zr4 (d:Array Nat)(a b:Nat)(hab:a≤b)(hb:b≤d.size)(hl:d.size≤1073741824) :
 (K A).call 192 [.sc (.arr 0 d.size),intV a,intV b] [arrA d]=some (retV,[arrA (Sort.insertionSort ltN d a b)]):=by
 generalize hR:Sort.insertionSort ltN d a b=R
 unfold Sort.insertionSort at hR
 have hd:Is d d.toList:=rfl
 generalize hn:d.size=n at *
 refine Zas (vf:=v192) (by kernel_rfl) rfl (by simp) ?_
 unfold v192
 by_cases h0:a=b
 ·subst h0
  rw [Sort.insOuter,if_neg (by omega)] at hR
  subst hR
  have h1:¬(a:Int)+1<a:=by omega
  simp (disch:=first|omega|(simp;done)|(simp;omega))
  refine Zal (fun i s=>s=⟨[(0,.sc (.arr 0 n)),(1,intV a),(2,intV a),(6,intV ((a:Int)+1))],[(0,some (arrU d.toList))]⟩) 0 (by simp) (fun i s hi=>by omega) ?_
  rintro s rfl
  unfold ZlI
  simp (disch:=first|omega|(simp;done)|(simp;omega)) [h1,retV]
 ·simp (disch:=first|omega|(simp;done)|(simp;omega))
  refine Zal (fun i s=>∃ (e:Array Nat) (l:List Nat),Is e l∧e.size=n∧Sort.insOuter ltN a b (a+1+i) e=R∧s=⟨[(0,.sc (.arr 0 n)),(1,intV a),(2,intV b),(6,intV ((a+1+i:Nat):Int))],[(0,some (arrU l))]⟩) (b-(a+1))
   ⟨d,d.toList,hd,hn,hR,by simp⟩ ?_ ?_
  ·rintro i s hi ⟨e,l,hel,he,hR,rfl⟩
   generalize hi0:a+1+i=i0 at *
   have hi1:(a:Int)+1+(i+1)=(i0:Int)+1:=by omega
   have hib:(i0:Int)<b:=by omega
   have hll:=ZaK hel
   rw [Sort.insOuter,if_pos (by omega)] at hR
   unfold ZlI
   simp (disch:=first|omega|(simp;done)|(simp;omega)) [hib]
   refine Zal (fun r s=>∃ (e2:Array Nat) (l2:List Nat),Is e2 l2∧e2.size=n∧Sort.insOuter ltN a b (i0+1) (Sort.insInner ltN a (i0-r) e2)=R ∧
    s=⟨[(0,.sc (.arr 0 n)),(1,intV a),(2,intV b),(6,intV i0),(7,intV ((i0-r:Nat):Int))],[(0,some (arrU l2))]⟩) (i0-a)
    ⟨e,l,hel,he,hR,by simp⟩ ?_ ?_
   ·rintro r s hr ⟨e2,l2,hel2,he2,hR2,rfl⟩
    generalize hj:i0-r=j at *
    have hx:=Za0 hel2 (i:=j) (by omega)
    have hy:=Za0 hel2 (i:=j-1) (by omega)
    have hsw:=Zd4 hel2 j (j-1)
    rw [ZpX e2 (by omega)] at hR2
    have hl2:=ZaK hel2
    generalize e2[j]! = x at *
    generalize e2[j-1]! = y at *
    have hja:(a:Int)<j:=by omega
    have hj1:(j:Int)-1=((j-1:Nat):Int):=by omega
    have hless:=ZbG (A:=A) x y
    have hjl:j<l2.length:=by omega
    have hjl2:j-1<l2.length:=by omega
    unfold Zo2
    by_cases hxy:x<y
    ·rw [if_pos hxy] at hR2
     simp (maxSteps:=4000000) (disch:=first|omega|(simp;done)|(simp;omega)) [hja,hj1,hx,hy,hl2,he2,hless,hxy,-getElem?_pos]
     have e1:i0-(r+1)=j-1:=by omega
     exact ⟨_,_,hsw,by simp [he2],by rw [e1];exact hR2,by simp [e1]⟩
    ·rw [if_neg hxy] at hR2
     simp (maxSteps:=4000000) (disch:=first|omega|(simp;done)|(simp;omega)) [hja,hj1,hx,hy,hl2,he2,hless,hxy,-getElem?_pos]
     refine ⟨e2,l2,hel2,he2,?_,?_⟩
     ·rw [show a+1+(i+1)=i0+1 by omega]
      exact hR2
     ·simp [hi1]
   ·rintro s ⟨e2,l2,hel2,he2,hR2,rfl⟩
    have hja:i0-(i0-a)=a:=by omega
    rw [hja,ZqP] at hR2
    rw [hja]
    unfold Zo2
    simp (maxSteps:=4000000) (disch:=first|omega|(simp;done)|(simp;omega)) [-getElem?_pos]
    refine ⟨e2,l2,hel2,he2,?_,?_⟩
    ·rw [show a+1+(i+1)=i0+1 by omega]
     exact hR2
    ·simp [hi1]
  ·rintro s ⟨e,l,hel,he,hR,rfl⟩
   have hbe:a+1+(b-(a+1))=b:=by omega
   rw [hbe,Sort.insOuter,if_neg (by omega)] at hR
   subst hR
   rw [hbe]
   unfold ZlI
   simp (disch:=first|omega|(simp;done)|(simp;omega)) [retV,isEq hel]
theorem Zfj {hi first root:Nat}(d:Array Nat)(h:2*root+1≥hi):Sort.siftDown ltN hi first root d=d:=by
 rw [Sort.siftDown,dif_pos h]
theorem Zrt {hi first root:Nat}(d:Array Nat)(h:2*root+2<hi)(hlt:d[first+(2*root+1)]! < d[first+(2*root+2)]!) :
 Sort.siftDown ltN hi first root d=if d[first+root]! < d[first+(2*root+2)]! then Sort.siftDown ltN hi first (2*root+2) (Sort.swp d (first+root) (first+(2*root+2))) else d:=by
 rw [Sort.siftDown,dif_neg (by omega),show 2*root+1+1=2*root+2 by omega,show first+(2*root+1)+1=first+(2*root+2) by omega]
 simp only [ltN,h,hlt,decide_true,Bool.and_self,if_true,dite_true]
 by_cases h2:d[first+root]! < d[first+(2*root+2)]!
 ·simp [h2]
 ·simp [h2]
theorem Zrb {hi first root:Nat}(d:Array Nat)(h:2*root+1<hi)(hlt:¬(2*root+2<hi∧d[first+(2*root+1)]! < d[first+(2*root+2)]!)) :
 Sort.siftDown ltN hi first root d=if d[first+root]! < d[first+(2*root+1)]! then Sort.siftDown ltN hi first (2*root+1) (Sort.swp d (first+root) (first+(2*root+1))) else d:=by
 rw [Sort.siftDown,dif_neg (by omega),show 2*root+1+1=2*root+2 by omega,show first+(2*root+1)+1=first+(2*root+2) by omega]
 have hc:(decide (2*root+2<hi) && ltN d[first+(2*root+1)]! d[first+(2*root+2)]!)=false:=by
  rw [ltN,←Bool.decide_and,decide_eq_false_iff_not]
  exact hlt
 rw [hc]
 simp only [Bool.false_eq_true,if_false,ltN]
 by_cases h2:d[first+root]! < d[first+(2*root+1)]!
 ·simp [h2]
 ·simp [h2]
theorem siftA (d:Array Nat)(lo hi first:Nat)(hh:first+hi≤d.size)(hlo:lo≤1073741824)(hl:d.size≤1073741824) :
 (K A).call 240 [.sc (.arr 0 d.size),intV lo,intV hi,intV first] [arrA d]=some (retV,[arrA (Sort.siftDown ltN hi first lo d)]):=by
 generalize hR:Sort.siftDown ltN hi first lo d=R
 have hd:Is d d.toList:=rfl
 generalize hn:d.size=n at *
 refine Zas (vf:=v240) (by kernel_rfl) rfl (by simp) ?_
 unfold v240
 simp (disch:=first|omega|(simp;done)|(simp;omega))
 refine Zal (fun r s=>∃ (root:Nat) (e:Array Nat) (l:List Nat),Is e l∧e.size=n∧Sort.siftDown ltN hi first root e=R∧r≤root∧root≤1073741824 ∧
  s=⟨[(0,.sc (.arr 0 n)),(2,intV hi),(3,intV first),(8,intV root)],[(0,some (arrU l))]⟩) hi
  ⟨lo,d,d.toList,hd,hn,hR,Nat.zero_le _,hlo,by simp⟩ ?_ ?_
 ·rintro r s hr ⟨root,e,l,hel,he,hR,hrr,hrl,rfl⟩
  have hll:=ZaK hel
  unfold ZoN
  by_cases hstop:hi≤2*root+1
  ·rw [Zfj e hstop] at hR
   subst hR
   have hs:(hi:Int)≤2*root+1:=by omega
   simp (maxSteps:=4000000) (disch:=first|omega|(simp;done)|(simp;omega)) [hs,retV,isEq hel,hll,he,-getElem?_pos]
  ·have hs:¬(hi:Int)≤2*root+1:=by omega
   have hz:=Za0 hel (i:=first+root) (by omega)
   have hx:=Za0 hel (i:=first+(2*root+1)) (by omega)
   generalize hc:2*root+1=c at *
   have hcI:2*(root:Int)+1=c:=by omega
   have hsN:¬hi≤c:=by omega
   generalize hp0:first+root=p0 at *
   generalize hp:first+c=p at *
   have hp0I:(first:Int)+root=p0:=by omega
   have hpI:(first:Int)+c=p:=by omega
   have hp0l:p0<l.length:=by omega
   have hpl:p<l.length:=by omega
   by_cases hr2:c+1<hi∧e[p]! < e[p+1]!
   ·obtain ⟨h1,h2⟩:=hr2
    have hy:=Za0 hel (i:=p+1) (by omega)
    have hsw:=Zd4 hel p0 (p+1)
    have hR2:=Zrt (first:=first) (root:=root) e (by omega:2*root+2<hi) (by rw [show 2*root+2=c+1 by omega,show 2*root+1=c by omega,hp,show first+(c+1)=p+1 by omega];exact h2)
    rw [hR,hp0,show 2*root+2=c+1 by omega,show first+(c+1)=p+1 by omega] at hR2
    have hless:=ZbG (A:=A) e[p]! e[p+1]!
    have hless2:=ZbG (A:=A) e[p0]! e[p+1]!
    generalize e[p0]! = z at *
    generalize e[p]! = x at *
    generalize e[p+1]! = y at *
    have h1I:(c:Int)+1<hi:=by omega
    have hpI2:(first:Int)+(c+1)=((p+1:Nat):Int):=by omega
    have hpI3:(p:Int)+1=((p+1:Nat):Int):=by omega
    generalize hq:p+1=q at *
    have hql:q<l.length:=by omega
    by_cases hzy:z<y
    ·rw [if_pos hzy] at hR2
     simp (maxSteps:=4000000) (disch:=first|omega|(simp;done)|(simp;omega)) [hs,hsN,hcI,hp0I,hpI,hpI2,hpI3,h1I,h2,hx,hy,hz,hll,he,hless,hless2,hzy,-getElem?_pos]
     exact ⟨c+1,_,_,hsw,by simp [he],hR2.symm,by omega,by omega,by simp⟩
    ·rw [if_neg hzy] at hR2
     subst hR2
     simp (maxSteps:=4000000) (disch:=first|omega|(simp;done)|(simp;omega)) [hs,hsN,hcI,hp0I,hpI,hpI2,hpI3,h1I,h2,hx,hy,hz,hll,he,hless,hless2,hzy,retV,isEq hel,-getElem?_pos]
   ·have hsw:=Zd4 hel p0 p
    have hR2:=Zrb (first:=first) (root:=root) e (by omega:2*root+1<hi) (by rw [show 2*root+2=c+1 by omega,show 2*root+1=c by omega,hp,show first+(c+1)=p+1 by omega];exact hr2)
    rw [hR,hp0,show 2*root+1=c by omega,hp] at hR2
    have hless2:=ZbG (A:=A) e[p0]! e[p]!
    by_cases h1:c+1<hi
    ·have h2:¬e[p]! < e[p+1]! := fun h=>hr2 ⟨h1,h⟩
     have hy:=Za0 hel (i:=p+1) (by omega)
     have hless:=ZbG (A:=A) e[p]! e[p+1]!
     clear hr2
     generalize e[p0]! = z at *
     generalize e[p]! = x at *
     generalize e[p+1]! = y at *
     have h1I:(c:Int)+1<hi:=by omega
     have hpI2:(first:Int)+(c+1)=((p+1:Nat):Int):=by omega
     have hpI3:(p:Int)+1=((p+1:Nat):Int):=by omega
     generalize hq:p+1=q at *
     have hql:q<l.length:=by omega
     by_cases hzy:z<x
     ·rw [if_pos hzy] at hR2
      simp (maxSteps:=4000000) (disch:=first|omega|(simp;done)|(simp;omega)) [hs,hsN,hcI,hp0I,hpI,hpI2,hpI3,h1I,h2,hx,hy,hz,hll,he,hless,hless2,hzy,-getElem?_pos]
      exact ⟨c,_,_,hsw,by simp [he],hR2.symm,by omega,by omega,by simp⟩
     ·rw [if_neg hzy] at hR2
      subst hR2
      simp (maxSteps:=4000000) (disch:=first|omega|(simp;done)|(simp;omega)) [hs,hsN,hcI,hp0I,hpI,hpI2,hpI3,h1I,h2,hx,hy,hz,hll,he,hless,hless2,hzy,retV,isEq hel,-getElem?_pos]
    ·clear hr2
     generalize e[p0]! = z at *
     generalize e[p]! = x at *
     have h1I:¬(c:Int)+1<hi:=by omega
     by_cases hzy:z<x
     ·rw [if_pos hzy] at hR2
      simp (maxSteps:=4000000) (disch:=first|omega|(simp;done)|(simp;omega)) [hs,hsN,hcI,hp0I,hpI,h1I,hx,hz,hll,he,hless2,hzy,-getElem?_pos]
      exact ⟨c,_,_,hsw,by simp [he],hR2.symm,by omega,by omega,by simp⟩
     ·rw [if_neg hzy] at hR2
      subst hR2
      simp (maxSteps:=4000000) (disch:=first|omega|(simp;done)|(simp;omega)) [hs,hsN,hcI,hp0I,hpI,h1I,hx,hz,hll,he,hless2,hzy,retV,isEq hel,-getElem?_pos]
 ·rintro s ⟨root,e,l,hel,he,hR,hrr,hrl,rfl⟩
  have hll:=ZaK hel
  rw [Zfj e (by omega)] at hR
  subst hR
  have hs:(hi:Int)≤2*root+1:=by omega
  unfold ZoN
  simp (maxSteps:=4000000) (disch:=first|omega|(simp;done)|(simp;omega)) [hs,retV,isEq hel,hll,he,-getElem?_pos]
variable {A:Zac}
theorem Zgw (hi first:Nat):∀ (k root:Nat)(d:Array Nat),hi-root≤k→(Sort.siftDown ltN hi first root d).size=d.size
 | 0,root,d,h=>by rw [Zfj d (by omega)]
 | k+1,root,d,h=>by
  by_cases h1:2*root+1≥hi
  ·rw [Zfj d h1]
  ·by_cases h2:2*root+2<hi∧d[first+(2*root+1)]! < d[first+(2*root+2)]!
   ·rw [Zrt d h2.1 h2.2]
    split
    ·rw [Zgw hi first k _ _ (by omega),swp_size]
    ·rfl
   ·rw [Zrb d (by omega) h2]
    split
    ·rw [Zgw hi first k _ _ (by omega),swp_size]
    ·rfl
@[simp] theorem siftDown_size (hi first root:Nat) (d:Array Nat):(Sort.siftDown ltN hi first root d).size=d.size:=Zgw hi first _ root d (Nat.le_refl _)
theorem siftL {e:Array Nat}{l:List Nat}(h:Is e l){n:Nat}(hn:e.size=n)(lo hi first:Nat)(hh:first+hi≤n)(hlo:lo≤1073741824)(hl:n≤1073741824) :
 (K A).call 240 [.sc (.arr 0 n),intV lo,intV hi,intV first] [arrU l]=some (retV,[arrU (Sort.siftDown ltN hi first lo e).toList]):=by
 cases h
 subst hn
 exact siftA e lo hi first hh hlo hl
theorem heapA (d:Array Nat)(a b:Nat)(hab:a<b)(hb:b≤d.size)(hl:d.size≤1073741824) :
 (K A).call 193 [.sc (.arr 0 d.size),intV a,intV b] [arrA d]=some (retV,[arrA (Sort.heapSort ltN d a b)]):=by
 generalize hR:Sort.heapSort ltN d a b=R
 unfold Sort.heapSort at hR
 have hd:Is d d.toList:=rfl
 generalize hn:d.size=n at *
 refine Zas (vf:=v193) (by kernel_rfl) rfl (by simp) ?_
 unfold v193
 generalize hh:b-a=hi at *
 have hhI:(b:Int)-a=hi:=by omega
 have hm1:(hi:Int)-1=((hi-1:Nat):Int):=by omega
 have hq:Int.tdiv ((hi-1:Nat):Int) 2=(((hi-1) / 2:Nat):Int):=by
  rw [Int.tdiv_eq_ediv_of_nonneg (by omega)]
  omega
 generalize hk:(hi-1) / 2=k0 at *
 simp (maxSteps:=4000000) (disch:=first|omega|(simp;done)|(simp;omega)) [hhI,hm1,hq]
 refine Zal (fun r s=>∃ (e:Array Nat) (l:List Nat),Is e l∧e.size=n∧Sort.heapPop ltN a hi (Sort.heapBuild ltN hi a (k0+1-r) e)=R ∧
  s=⟨[(0,.sc (.arr 0 n)),(6,intV a),(7,intV 0),(8,intV hi),(9,intV ((k0:Int)-r))],[(0,some (arrU l))]⟩) (k0+1)
  ⟨d,d.toList,hd,hn,by rw [←hR,Nat.sub_zero],by simp⟩ ?_ ?_
 ·rintro r s hr ⟨e,l,hel,he,hR,rfl⟩
  obtain ⟨i,hi1⟩:∃ i,k0+1-r=i+1:=⟨k0-r,by omega⟩
  rw [hi1,Sort.heapBuild] at hR
  have hiI:(k0:Int)-r=(i:Int):=by omega
  have hs:=siftL (A:=A) hel he i hi a (by omega) (by omega) (by omega)
  have hsz:(Sort.siftDown ltN hi a i e).size=n:=by simp [he]
  rw [hiI]
  generalize hg:Sort.siftDown ltN hi a i e=g at *
  have hgl:g.toList.length=n:=by simp [hsz]
  unfold ZoR
  simp (maxSteps:=4000000) (disch:=first|omega|(simp;done)|(simp;omega)) [hs,ZaK hel,he,hsz,retV,V.ren]
  refine ⟨g,g.toList,rfl,hsz,?_,?_⟩
  ·rw [show k0-r=i by omega]
   exact hR
  ·simp
   omega
 ·rintro s ⟨e,l,hel,he,hR,rfl⟩
  rw [show k0+1-(k0+1)=0 by omega,Sort.heapBuild] at hR
  have hneg:¬(0:Int)≤(k0:Int)-((k0+1:Nat):Int):=by omega
  have hneg2:(k0:Int)-((k0:Int)+1)=-1:=by omega
  unfold ZoR
  simp (maxSteps:=4000000) (disch:=first|omega|(simp;done)|(simp;omega)) [hneg,hneg2,hm1]
  refine Zal (fun r s=>∃ (e:Array Nat) (l:List Nat),Is e l∧e.size=n∧Sort.heapPop ltN a (hi-r) e=R ∧
   s=⟨[(0,.sc (.arr 0 n)),(6,intV a),(7,intV 0),(10,intV ((hi:Int)-1-r))],[(0,some (arrU l))]⟩) hi
   ⟨e,l,hel,he,hR,by simp;omega⟩ ?_ ?_
  ·rintro r s hr ⟨e,l,hel,he,hR,rfl⟩
   obtain ⟨i,hi1⟩:∃ i,hi-r=i+1:=⟨hi-r-1,by omega⟩
   rw [hi1,Sort.heapPop] at hR
   have hiI:(hi:Int)-1-r=(i:Int):=by omega
   rw [hiI]
   have hx:=Za0 hel (i:=a) (by omega)
   have hy:=Za0 hel (i:=a+i) (by omega)
   have hsw:=Zd4 hel a (a+i)
   have hpI:(a:Int)+i=((a+i:Nat):Int):=by omega
   have hs:=siftL (A:=A) hsw (by simp [he]) 0 i a (by omega) (by omega) (by omega:n≤_)
   have hsz:(Sort.siftDown ltN i a 0 (Sort.swp e a (a+i))).size=n:=by simp [he]
   have h00:((0:Nat):Int)=0:=rfl
   rw [h00] at hs
   generalize hp:a+i=p at *
   generalize e[a]! = x at *
   generalize e[p]! = y at *
   have hpl:p<l.length:=by rw [ZaK hel];omega
   have hal:a<l.length:=by rw [ZaK hel];omega
   generalize hg:Sort.siftDown ltN i a 0 (Sort.swp e a p)=g at *
   have hgl:g.toList.length=n:=by simp [hsz]
   obtain ⟨v,hv⟩:=Zaa (l:=l.set a y) (i:=p) (by simp;omega)
   unfold ZmS
   simp (maxSteps:=4000000) (disch:=first|omega|(simp;done)|(simp;omega)) [hv,hx,hy,hpI,hs,ZaK hel,he,hsz,retV,V.ren,-getElem?_pos]
   refine ⟨g,g.toList,rfl,hsz,?_,?_⟩
   ·rw [show hi-(r+1)=i by omega]
    exact hR
   ·simp
    omega
  ·rintro s ⟨e,l,hel,he,hR,rfl⟩
   rw [Nat.sub_self,Sort.heapPop] at hR
   subst hR
   have hneg:¬(0:Int)≤(hi:Int)-1-hi:=by omega
   have hneg3:(hi:Int)-1-hi=-1:=by omega
   unfold ZmS
   simp (maxSteps:=4000000) (disch:=first|omega|(simp;done)|(simp;omega)) [hneg,hneg3,retV,isEq hel]
theorem Zqa (d:Array Nat)(a b:Nat)(hab:a<b)(hb:b≤d.size)(hl:d.size≤1073741824) :
 (K A).call 196 [.sc (.arr 0 d.size),intV a,intV b] [arrA d]=some (retV,[arrA (Sort.reverseRange d a b)]):=by
 generalize hR:Sort.reverseRange d a b=R
 unfold Sort.reverseRange at hR
 have hd:Is d d.toList:=rfl
 generalize hn:d.size=n at *
 refine Zas (vf:=v196) (by kernel_rfl) rfl (by simp) ?_
 unfold v196
 have hb1:(b:Int)-1=((b-1:Nat):Int):=by omega
 simp (maxSteps:=4000000) (disch:=first|omega|(simp;done)|(simp;omega)) [hb1]
 refine Zal (fun r s=>∃ (i j:Nat) (e:Array Nat) (l:List Nat),Is e l∧e.size=n∧Sort.reverseLoop i j e=R∧j+r≤b-1∧i≤b ∧
  s=⟨[(0,.sc (.arr 0 n)),(6,intV i),(7,intV j)],[(0,some (arrU l))]⟩) b
  ⟨a,b-1,d,d.toList,hd,hn,hR,by omega,by omega,by simp⟩ ?_ ?_
 ·rintro r s hr ⟨i,j,e,l,hel,he,hR,hj,hib,rfl⟩
  rw [Sort.reverseLoop] at hR
  unfold Zrq
  by_cases hij:i<j
  ·rw [if_pos hij] at hR
   have hx:=Za0 hel (i:=i) (by omega)
   have hy:=Za0 hel (i:=j) (by omega)
   have hsw:=Zd4 hel i j
   generalize e[i]! = x at *
   generalize e[j]! = y at *
   have hil:i<l.length:=by rw [ZaK hel];omega
   have hjl:j<l.length:=by rw [ZaK hel];omega
   have hj1:(j:Int)-1=((j-1:Nat):Int):=by omega
   simp (maxSteps:=4000000) (disch:=first|omega|(simp;done)|(simp;omega)) [hij,hx,hy,hj1,ZaK hel,he,-getElem?_pos]
   exact ⟨i+1,j-1,_,_,hsw,by simp [he],hR,by omega,by omega,by simp⟩
  ·rw [if_neg hij] at hR
   subst hR
   simp (maxSteps:=4000000) (disch:=first|omega|(simp;done)|(simp;omega)) [hij,retV,isEq hel]
 ·rintro s ⟨i,j,e,l,hel,he,hR,hj,hib,rfl⟩
  omega
end Go.Vs.Tryz
