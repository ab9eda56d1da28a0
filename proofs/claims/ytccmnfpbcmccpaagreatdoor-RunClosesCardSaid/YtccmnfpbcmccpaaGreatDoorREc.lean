/- Alpha equality by the program, walked. (Parts of one proof, put together.) -/
import Derived.Test.YtccmnfpbcmccpaaGreatDoorRDc
import Derived.Test.YtccmnfpbcmccpaaGreatDoorR5c
import Derived.Test.YtccmnfpbcmccpaaGreatDoorRCc
import Derived.Test.YtccmnfpbcmccpaaGreatDoorR4c
import Derived.Test.YtccmnfpbcmccpaaGreatDoorR0c
import Derived.Test.YtccmnfpbcmccpaaGreatDoorR2c
import Derived.Test.YtccmnfpbcmccpaaGreatDoorM6c
import Derived.Test.YtccmnfpbcmccpaaGreatDoorR3c
import Derived.Sort.AssemblyPlain
set_option linter.unusedSimpArgs false
set_option linter.unusedVariables false
set_option linter.deprecated false
namespace Go.Vs
open Go
@[simp] theorem ownV_arr {oid k n:Nat} {own:List (Nat × Nat)} {L:Nat→Option Obj} {u:Upd}:ownV oid own L (.sc (.arr k n),u)=some (.sc (.arr k n),u):=by
 cases own with
 | nil=>rfl
 | cons p own=>simp [ownV]
end Go.Vs
namespace Go.Vs.Tryz
open Go Go.Vs
variable {A:Zac}
def kidsN (k:Int):Nat:=if k=5∨k=6∨k=7 then 2 else if k=4∨k=8∨k=9∨k=11 then 1 else 0
def shp1 (e:Exp):Prop:=e.wf1∧(e.kind=1→e.num=0∧e.ty=tz)∧e.kids.length=kidsN e.kind
def shp (e:Exp):Prop:=e.fold fun e l=>shp1 e∧∀ p∈l,p
theorem Zig (e:Exp):shp e=(shp1 e∧∀ x∈e.children,shp x):=by
 have:=Exp.fold_eq (fun e (l:List Prop)=>shp1 e∧∀ p∈l,p) e
 unfold shp
 rw [this]
 simp only [List.forall_mem_map]
theorem shp.one {e:Exp}(h:shp e):shp1 e:=by rw [Zig] at h;exact h.1
theorem shp.child {e x:Exp}(h:shp e)(hx:x∈e.children):shp x:=by rw [Zig] at h;exact h.2 x hx
theorem shp.wf {e:Exp}:shp e→e.wf:=by
 induction e using Exp.ind with
 | h e ih =>
  intro h
  rw [Exp.wf_eq]
  exact ⟨h.one.1,fun x hx=>ih x hx (h.child hx)⟩
def zeroE:Exp:=.mk 0 0 [] 0 [] [] tz
def Zno (e:Exp):List Exp:=List.replicate e.children.length zeroE
@[simp] theorem zerosM_len (e:Exp):(Zno e).length=e.kids.length+e.arms.length:=by rw [Zno,List.length_replicate,e.children_len]
def zrows (e:Exp)(i:Nat):List Exp:=(Zno e).take i++e.children.drop i
variable {A:Zac}
theorem rawE1.shp1 {ds:List DataD}{e:Exp}(h:rawE1 ds e):shp1 e:=by
 refine ⟨h.wf1,?_,?_⟩
 ·intro hk
  exact ⟨h.2.2.2.2.1 (by omega),h.2.2.2.1 (by omega)⟩
 ·obtain ⟨_,_,_,_,_,h⟩:=h
  unfold kidsN
  rcases h with ⟨k,_,hk,ha⟩|⟨k,_,hk,ha⟩|⟨k,_,hk,ha⟩|⟨k,_,⟨x,hk⟩,ha⟩|⟨k,_,⟨x,y,hk⟩,ha⟩|⟨k,_,⟨x,y,hk⟩,ha⟩|⟨k,_,⟨x,hk⟩,ha⟩|⟨k,_,x,hk⟩
  ·rw [hk,if_neg (by omega),if_neg (by omega)];rfl
  ·rw [hk,if_neg (by omega),if_neg (by omega)];rfl
  ·rw [hk,if_neg (by omega),if_neg (by omega)];rfl
  ·rw [hk,if_neg (by omega),if_pos (by omega)];rfl
  ·rw [hk,if_pos (by omega)];rfl
  ·rw [hk,if_pos (by omega)];rfl
  ·rw [hk,if_neg (by omega),if_pos (by omega)];rfl
  ·rw [hk,if_neg (by omega),if_pos (by omega)];rfl
theorem rawE.shp {ds:List DataD}{e:Exp}:rawE ds e→shp e:=by
 induction e using Exp.ind with
 | h e ih =>
  intro h
  rw [Zig]
  exact ⟨h.one.shp1,fun x hx=>ih x hx (h.child hx)⟩
theorem headEq.shp1 {e c:Exp}(h:headEq e c)(hk:e.kind≠1)(hs:shp1 e):shp1 c:=by
 obtain ⟨h1,h2,h3,h4,h5⟩:=h
 obtain ⟨⟨w1,w2,w3⟩,_,w5⟩:=hs
 refine ⟨⟨fun h8 => ?_,fun h8 => ?_,fun h8=>absurd (h1.trans h8) hk⟩,fun h8=>absurd (h1.trans h8) hk,?_⟩
 ·rw [←h4];exact w1 (h1.trans h8)
 ·have:=w2 (by rw [h1];exact h8)
  rw [this] at h5
  exact List.length_eq_zero_iff.1 h5.symm
 ·rw [←h4,w5,h1]
theorem ZkY (e:Exp):tyBd e→tyBd (Zag e):=by
 induction e using Exp.ind with
 | h e ih =>
  intro h
  obtain ⟨h1,h2,h3,h4,h5,h6,h7,h8⟩:=Zbr e
  rw [ZcA]
  refine ⟨by rw [h4];exact h.one,fun y hy => ?_⟩
  rw [h7] at hy
  obtain ⟨x,hx,rfl⟩:=List.mem_map.1 hy
  exact ih x hx (h.child hx)
theorem IffB.get {P:Prop}{r:V × List Obj}(h:IffB P r)(hp:P):r=(ZaG true,[]):=by
 obtain ⟨v,hv,rfl⟩:=h
 rw [hv.2 hp]
variable {A:Zac}
abbrev u64V (n:Nat):V:=.sc (.c (.int .u64 n))
def ZgA (n:Nat):List Cell:=[.int .u64 n]
def Zb8 (d:List Nat):List (List Cell):=d.map ZgA
@[simp] theorem u64Row_len (n:Nat):(ZgA n).length=1:=rfl
@[simp] theorem u64Rows_len (d:List Nat):(Zb8 d).length=d.length:=by simp [Zb8]
@[simp] theorem u64Rows_get (d:List Nat) (i:Nat):(Zb8 d)[i]?=(d[i]?).map ZgA:=by simp [Zb8]
@[simp] theorem okRows_u64 (d:List Nat):ZaM 1 (wr (Zb8 d))=true:=Za2 d u64Row_len
@[simp] theorem wc_u64 (n:Nat):wc (ZgA n)=[.c (.int .u64 n)]:=rfl
@[simp] theorem u64Rows_snoc (d:List Nat) (x:Nat):wr (Zb8 d)++[[W.c (.int .u64 x)]]=wr (Zb8 (d++[x])):=by simp [Zb8,wr,ZgA]
@[simp] theorem u64_set (d:List Nat) (i x:Nat):setRow (wr (Zb8 d)) i [W.c (.int .u64 x)]=wr (Zb8 (d.set i x)):=by
 rw [setRow_set]
 simp [Zb8,wr,List.map_set,ZgA]
abbrev arrU (d:List Nat):Obj:=.arr 1 (wr (Zb8 d)) 0
def Zoc (a b:Nat)(d:List Nat):Prop:=∀ (p q x y:Nat),a≤p→p<q→q<b→d[p]?=some x→d[q]?=some y→x≤y
def SortR (a b:Nat)(d e:List Nat):Prop:=e.Perm d∧(∀ k,k<a∨b≤k→e[k]?=d[k]?)∧Zoc a b e
def butAt (a i j:Nat)(d:List Nat):Prop:=∀ (p q x y:Nat),a≤p→p<q→q≤i→q≠j→d[p]?=some x→d[q]?=some y→x≤y
def retV:V:=.tu []
def ZnZ (d:List Nat):Nat→List Nat
 | 0=>[]
 | m+1=>match d[m]? with
  | none=>ZnZ d m
  | some x=>if 0<m∧d[m-1]?=some x then ZnZ d m else ZnZ d m++[x]
def ascend (l:List Nat):Prop:=∀ (p q x y:Nat),p<q→l[p]?=some x→l[q]?=some y→x<y
def bump (k i:Nat):Nat:=if i≤k then k+1 else k
def below (l:List Nat)(k:Nat):Nat:=(l.filter fun j=>decide (j<k)).length
def freeN (taken:List Str)(a b:Nat):Nat:=((List.range b).filter fun j=>decide (a≤j∧ZhX j∉taken)).length
theorem ZjQ {e:Exp}{s:Str}:∀ n,s∈outP e n→n≤e.children.length→∃ (i:Nat) (x:Exp),e.children[i]?=some x∧s∈Zbw x∧s∉e.bound i
 | 0,h,_=>by simp [outP] at h
 | n+1,h,hn=>by
  obtain ⟨x,hx⟩:=Zaa (l:=e.children) (i:=n) (by omega)
  rw [Zib hx,ZdF] at h
  rcases h with h|h
  ·exact ZjQ n h (by omega)
  ·exact ⟨n,x,hx,h.1,h.2⟩
theorem Zd3 {e:Exp}{s:Str}(hk:e.kind≠1):s∈Zbw e↔∃ (i:Nat) (x:Exp),e.children[i]?=some x∧s∈Zbw x∧s∉e.bound i:=by
 constructor
 ·intro h
  rw [Ze3,if_neg hk,←Zjv] at h
  exact ZjQ _ h (Nat.le_refl _)
 ·rintro ⟨i,x,hx,hs,hb⟩
  exact (ZkK hk hx hs).resolve_left hb
theorem ZcU {e:Exp}{s:Str}(hk:e.kind=1):s∈Zbw e↔s=e.name:=by rw [Ze3,if_pos hk,List.mem_singleton]
theorem Zl4 {e:Exp}(h:e.wf1)(hk:e.kind=1):e.kids=[]∧e.arms=[]∧e.children=[]:=by
 have h1:=h.2.2 hk
 have h2:=h.2.1 (by rw [hk];decide)
 exact ⟨h1,h2,by simp [Exp.children,h1,h2]⟩
def nmN1 (e:Exp):Prop:=e.kind=1∨e.kind=2∨e.kind=4∨e.kind=6∨e.kind=7∨e.name=[]
def nmN (e:Exp):Prop:=e.fold fun e l=>nmN1 e∧∀ p∈l,p
theorem ZlC (e:Exp):nmN e=(nmN1 e∧∀ x∈e.children,nmN x):=by
 have:=Exp.fold_eq (fun e (l:List Prop)=>nmN1 e∧∀ p∈l,p) e
 unfold nmN
 rw [this]
 simp only [List.forall_mem_map]
theorem nmN.one {e:Exp}(h:nmN e):nmN1 e:=by rw [ZlC] at h;exact h.1
theorem nmN.child {e x:Exp}(h:nmN e)(hx:x∈e.children):nmN x:=by rw [ZlC] at h;exact h.2 x hx
theorem rawE.nmN {ds:List DataD}{e:Exp}:rawE ds e→nmN e:=by
 induction e using Exp.ind with
 | h e ih =>
  intro h
  rw [ZlC]
  refine ⟨?_,fun x hx=>ih x hx (h.child hx)⟩
  obtain ⟨_,_,_,_,_,h⟩:=h.one
  unfold nmN1
  rcases h with ⟨k,_⟩|⟨k,_⟩|⟨_,n,_⟩|⟨k,_⟩|⟨_,n,_⟩|⟨k,_⟩|⟨_,n,_⟩|⟨_,n,_⟩
  ·exact .inl k
  ·exact .inr (.inl k)
  ·exact .inr (.inr (.inr (.inr (.inr n))))
  ·exact .inr (.inr (.inl k))
  ·exact .inr (.inr (.inr (.inr (.inr n))))
  ·rcases k with k|k
   ·exact .inr (.inr (.inr (.inl k)))
   ·exact .inr (.inr (.inr (.inr (.inl k))))
  ·exact .inr (.inr (.inr (.inr (.inr n))))
  ·exact .inr (.inr (.inr (.inr (.inr n))))
abbrev Rep:=Str→Exp→Prop
def isVar (s:Str)(c:Exp):Prop:=c.kind=1∧c.name=s∧c.num=0∧c.ty=tz∧c.kids=[]∧c.arms=[]
def Rep.ext (V:Rep)(bs cs:List Str):Rep:=fun s c=>(s∈bs∧∃ t,t∈cs∧rlast bs s=rlast cs t∧isVar t c)∨(s∉bs∧V s c∧∀ u∈Zbw c,u∉cs)
def instF (a:Exp)(l:List (Exp→Rep→Prop))(c:Exp)(V:Rep):Prop :=
 (a.kind=1→V a.name c)∧(a.kind≠1→headEq a c∧(a.kind=2→a.name=c.name)∧Zga a c∧∀ (i:Nat) f y,l[i]?=some f→c.children[i]?=some y→f y (V.ext (a.bound i) (c.bound i)))
def instR (a:Exp):Exp→Rep→Prop:=a.fold instF
theorem Ze4 (a c:Exp)(V:Rep):instR a c V=((a.kind=1→V a.name c)∧(a.kind≠1→headEq a c∧(a.kind=2→a.name=c.name)∧Zga a c ∧
 ∀ (i:Nat) x y,a.children[i]?=some x→c.children[i]?=some y→instR x y (V.ext (a.bound i) (c.bound i)))):=by
 unfold instR
 rw [Exp.fold_eq]
 unfold instF
 simp only [List.getElem?_map,Option.map_eq_some_iff]
 apply propext
 refine and_congr_right fun _=>forall_congr' fun _=>and_congr_right fun _=>and_congr_right fun _=>and_congr_right fun _=>forall_congr' fun i => ?_
 constructor
 ·exact fun h x y hx hy=>h _ y ⟨x,hx,rfl⟩ hy
 ·rintro h f y ⟨x,hx,rfl⟩ hy
  exact h x y hx hy
theorem instR.var {a c:Exp}{V:Rep}(h:instR a c V)(hk:a.kind=1):V a.name c:=by rw [Ze4] at h;exact h.1 hk
theorem instR.node {a c:Exp}{V:Rep}(h:instR a c V)(hk:a.kind≠1):headEq a c∧(a.kind=2→a.name=c.name)∧Zga a c ∧
 ∀ (i:Nat) x y,a.children[i]?=some x→c.children[i]?=some y→instR x y (V.ext (a.bound i) (c.bound i)):=by rw [Ze4] at h;exact h.2 hk
theorem instR.mkVar {a c:Exp}{V:Rep}(hk:a.kind=1)(h:V a.name c):instR a c V:=by rw [Ze4];exact ⟨fun _=>h,fun k=>absurd hk k⟩
theorem instR.mk {a c:Exp}{V:Rep}(hk:a.kind≠1)(h:headEq a c∧(a.kind=2→a.name=c.name)∧Zga a c ∧
 ∀ (i:Nat) x y,a.children[i]?=some x→c.children[i]?=some y→instR x y (V.ext (a.bound i) (c.bound i))):instR a c V:=by rw [Ze4];exact ⟨fun k=>absurd k hk,fun _=>h⟩
theorem isVar.free {s:Str}{c:Exp}(h:isVar s c):Zbw c=[s]:=by rw [Ze3,if_pos h.1,h.2.1]
theorem isVar.inst {s:Str}{c d:Exp}{V:Rep}(h:isVar s c):instR c d V↔V s d :=
 ⟨fun hi=>h.2.1▸hi.var h.1,fun hv=>.mkVar h.1 (h.2.1.symm▸hv)⟩
theorem instR.mono (a:Exp):∀ (c:Exp) (V W:Rep),instR a c V→(∀ s∈Zbw a,∀ d,V s d→W s d)→instR a c W:=by
 induction a using Exp.ind with
 | h a ih =>
  intro c V W h hm
  by_cases hk:a.kind=1
  ·exact .mkVar hk (hm _ ((ZcU hk).2 rfl) _ (h.var hk))
  ·obtain ⟨h1,h2,h3,h4⟩:=h.node hk
   refine .mk hk ⟨h1,h2,h3,fun i x y hx hy=>ih x (List.mem_of_getElem? hx) y _ _ (h4 i x y hx hy) fun s hs d hd => ?_⟩
   rcases hd with hd|⟨q1,q2,q3⟩
   ·exact .inl hd
   ·exact .inr ⟨q1,hm s ((Zd3 hk).2 ⟨i,x,hx,hs,q1⟩) d q2,q3⟩
theorem instR.free_from (a:Exp):∀ (c:Exp) (V:Rep),shp1 a→(∀ x∈a.children,shp x)→instR a c V→∀ u∈Zbw c,∃ s∈Zbw a,∃ d,V s d∧u∈Zbw d:=by
 induction a using Exp.ind with
 | h a ih =>
  intro c V hs1 hs h u hu
  by_cases hk:a.kind=1
  ·exact ⟨a.name,(ZcU hk).2 rfl,c,h.var hk,hu⟩
  ·obtain ⟨h1,h2,h3,h4⟩:=h.node hk
   obtain ⟨i,y,hy,huy,hub⟩:=(Zd3 (h1.1▸hk)).1 hu
   obtain ⟨x,hx⟩:=Zaa (l:=a.children) (i:=i) (by rw [h1.children];exact (List.getElem?_eq_some_iff.1 hy).1)
   have hmx:=List.mem_of_getElem? hx
   obtain ⟨s,hs',d,hd,hud⟩:=ih x hmx y _ (hs x hmx).one (fun z hz=>(hs x hmx).child hz) (h4 i x y hx hy) u huy
   rcases hd with ⟨_,t,ht,_,hv⟩|⟨q1,q2,_⟩
   ·rw [hv.free,List.mem_singleton] at hud
    exact absurd (hud▸ht) hub
   ·exact ⟨s,(Zd3 hk).2 ⟨i,x,hx,hs',q1⟩,d,q2,hud⟩
def Rep.comp (V W:Rep):Rep:=fun s d=>∃ c,V s c∧shp c∧instR c d W
theorem Zpe {V W:Rep}{bs cs ds:List Str}{s:Str}{c d:Exp}(h1:V.ext bs cs s c)(hc:shp c)(h2:instR c d (W.ext cs ds)):(V.comp W).ext bs ds s d:=by
 rcases h1 with ⟨hs,t,ht,hr,hv⟩|⟨hs,hv,hf⟩
 ·rw [hv.inst] at h2
  rcases h2 with ⟨_,u,hu,hru,hvu⟩|⟨q,_⟩
  ·exact .inl ⟨hs,u,hu,hr.trans hru,hvu⟩
  ·exact absurd ht q
 ·have hm:instR c d W:=h2.mono _ _ _ _ fun u hu e he=>by
   rcases he with ⟨q,_⟩|⟨_,q,_⟩
   ·exact absurd q (hf u hu)
   ·exact q
  refine .inr ⟨hs,⟨c,hv,hc,hm⟩,fun u hu hud => ?_⟩
  obtain ⟨t,ht,e,he,hue⟩:=instR.free_from c d _ hc.one (fun x hx=>hc.child hx) h2 u hu
  rcases he with ⟨q,_⟩|⟨_,_,q⟩
  ·exact hf t ht q
  ·exact q u hue hud
def Rep.ok (V:Rep):Prop:=∀ s c,V s c→shp c
theorem isVar.shp {s:Str}{c:Exp}(h:isVar s c):shp c:=by
 obtain ⟨k,_,n,t,ks,am⟩:=h
 rw [Zig]
 refine ⟨⟨⟨fun h8=>by omega,fun _=>am,fun _=>ks⟩,fun _=>⟨n,t⟩,?_⟩,fun x hx => ?_⟩
 ·rw [ks,k]
  rfl
 ·simp [Exp.children,ks,am] at hx
theorem Rep.ok.ext {V:Rep}(h:V.ok)(bs cs:List Str):(V.ext bs cs).ok:=by
 rintro s c (⟨_,t,_,_,hv⟩|⟨_,hv,_⟩)
 ·exact hv.shp
 ·exact h s c hv
theorem instR.comp (a:Exp):∀ (c d:Exp) (V W:Rep),V.ok→instR a c V→instR c d W→instR a d (V.comp W):=by
 induction a using Exp.ind with
 | h a ih =>
  intro c d V W ho h h'
  by_cases hk:a.kind=1
  ·exact .mkVar hk ⟨c,h.var hk,ho _ _ (h.var hk),h'⟩
  ·obtain ⟨h1,h2,h3,h4⟩:=h.node hk
   have hkc:c.kind≠1:=h1.1▸hk
   obtain ⟨g1,g2,g3,g4⟩:=h'.node hkc
   refine .mk hk ⟨⟨h1.1.trans g1.1,h1.2.1.trans g1.2.1,h1.2.2.1.trans g1.2.2.1,h1.2.2.2.1.trans g1.2.2.2.1,h1.2.2.2.2.trans g1.2.2.2.2⟩,fun k=>(h2 k).trans (g2 (h1.1▸k)),fun i p q hp hq => ?_,fun i x z hx hz => ?_⟩
   ·obtain ⟨u,hu⟩:=Zaa (l:=c.arms) (i:=i) (by have:=h1.2.2.2.2;have:=(List.getElem?_eq_some_iff.1 hp).1;omega)
    exact ⟨(h3 i p u hp hu).1.trans (g3 i u q hu hq).1,(h3 i p u hp hu).2.trans (g3 i u q hu hq).2⟩
   ·obtain ⟨y,hy⟩:=Zaa (l:=c.children) (i:=i) (by rw [←h1.children];exact (List.getElem?_eq_some_iff.1 hx).1)
    refine (ih x (List.mem_of_getElem? hx) y z _ _ (ho.ext _ _) (h4 i x y hx hy) (g4 i y z hy hz)).mono _ _ _ _ fun s _ e he => ?_
    obtain ⟨b,hb,hsb,hbe⟩:=he
    exact Zpe hb hsb hbe
def ofR (R:Str→Str→Prop):Rep:=fun s c=>∃ t,R s t∧isVar t c
def idV:Rep:=ofR fun s t=>s=t
theorem instR.refl (a:Exp):∀ V:Rep,shp a→(∀ s∈Zbw a,∀ c,isVar s c→V s c)→instR a a V:=by
 induction a using Exp.ind with
 | h a ih =>
  intro V hs h
  by_cases hk:a.kind=1
  ·obtain ⟨a1,a2,a3⟩:=Zl4 hs.one.1 hk
   obtain ⟨n,t⟩:=hs.one.2.1 hk
   exact .mkVar hk (h a.name ((ZcU hk).2 rfl) a ⟨hk,rfl,n,t,a1,a2⟩)
  ·refine .mk hk ⟨⟨rfl,rfl,rfl,rfl,rfl⟩,fun _=>rfl,fun i p q hp hq => ?_,fun i x y hx hy => ?_⟩
   ·rw [hp] at hq
    cases hq
    exact ⟨rfl,rfl⟩
   ·rw [hx] at hy
    cases hy
    refine ih x (List.mem_of_getElem? hx) _ (hs.child (List.mem_of_getElem? hx)) fun s hsx c hc => ?_
    by_cases hb:s∈a.bound i
    ·exact .inl ⟨hb,s,hb,rfl,hc⟩
    ·refine .inr ⟨hb,h s ((Zd3 hk).2 ⟨i,x,hx,hsx,hb⟩) c hc,fun u hu => ?_⟩
     rw [hc.free,List.mem_singleton] at hu
     subst hu
     exact hb
variable {A:Zac}
def ltN (x y:Nat):Bool:=decide (x<y)
abbrev arrA (d:Array Nat):Obj:=arrU d.toList
def Is (e:Array Nat)(l:List Nat):Prop:=e.toList=l
@[simp] theorem swp_size (d:Array Nat) (i j:Nat):(Sort.swp d i j).size=d.size:=by simp [Sort.swp]
theorem ZhV {hi first root:Nat}(d:Array Nat)(h:2*root+1≥hi):Sort.siftDown ltN hi first root d=d:=by
 rw [Sort.siftDown,dif_pos h]
theorem sift_r {hi first root:Nat}(d:Array Nat)(h:2*root+2<hi)(hlt:d[first+(2*root+1)]! < d[first+(2*root+2)]!) :
 Sort.siftDown ltN hi first root d=if d[first+root]! < d[first+(2*root+2)]! then Sort.siftDown ltN hi first (2*root+2) (Sort.swp d (first+root) (first+(2*root+2))) else d:=by
 rw [Sort.siftDown,dif_neg (by omega),show 2*root+1+1=2*root+2 by omega,show first+(2*root+1)+1=first+(2*root+2) by omega]
 simp only [ltN,h,hlt,decide_true,Bool.and_self,if_true,dite_true]
 by_cases h2:d[first+root]! < d[first+(2*root+2)]!
 ·simp [h2]
 ·simp [h2]
theorem sift_l {hi first root:Nat}(d:Array Nat)(h:2*root+1<hi)(hlt:¬(2*root+2<hi∧d[first+(2*root+1)]! < d[first+(2*root+2)]!)) :
 Sort.siftDown ltN hi first root d=if d[first+root]! < d[first+(2*root+1)]! then Sort.siftDown ltN hi first (2*root+1) (Sort.swp d (first+root) (first+(2*root+1))) else d:=by
 rw [Sort.siftDown,dif_neg (by omega),show 2*root+1+1=2*root+2 by omega,show first+(2*root+1)+1=first+(2*root+2) by omega]
 have hc:(decide (2*root+2<hi) && ltN d[first+(2*root+1)]! d[first+(2*root+2)]!)=false:=by
  rw [ltN,←Bool.decide_and,decide_eq_false_iff_not]
  exact hlt
 rw [hc]
 simp only [Bool.false_eq_true,if_false,ltN]
 by_cases h2:d[first+root]! < d[first+(2*root+1)]!
 ·simp [h2]
 ·simp [h2]
variable {A:Zac}
theorem ZfK (hi first:Nat):∀ (k root:Nat) (d:Array Nat),hi-root≤k→(Sort.siftDown ltN hi first root d).size=d.size
 | 0,root,d,h=>by rw [ZhV d (by omega)]
 | k+1,root,d,h=>by
  by_cases h1:2*root+1≥hi
  ·rw [ZhV d h1]
  ·by_cases h2:2*root+2<hi∧d[first+(2*root+1)]! < d[first+(2*root+2)]!
   ·rw [sift_r d h2.1 h2.2]
    split
    ·rw [ZfK hi first k _ _ (by omega),swp_size]
    ·rfl
   ·rw [sift_l d (by omega) h2]
    split
    ·rw [ZfK hi first k _ _ (by omega),swp_size]
    ·rfl
@[simp] theorem siftDown_size (hi first root:Nat) (d:Array Nat):(Sort.siftDown ltN hi first root d).size=d.size:=ZfK hi first _ root d (Nat.le_refl _)
end Go.Vs.Tryz
namespace Go.Vs
open Go
def shlI (k:IntKind)(a b:Int):Int:=k.wrap (a*2 ^ (min b.toNat k.bits))
def xorI (k:IntKind)(a b:Int):Int:=k.wrap (BitVec.ofInt k.bits a ^^^ BitVec.ofInt k.bits b).toNat
@[simp] theorem b_shl {k k':IntKind} {a b:Int} (h:0≤b):binV .shl 0 (.sc (.c (.int k a))) (.sc (.c (.int k' b)))=some (.sc (.c (.int k (shlI k a b))),[]):=by
 simp [binV,binW,ZaY,Zdp,Int.not_lt.2 h,shlI]
@[simp] theorem b_xor {k:IntKind} {a b:Int}:binV .xor 0 (.sc (.c (.int k a))) (.sc (.c (.int k b)))=some (.sc (.c (.int k (xorI k a b))),[]):=by simp [binV,binW,ZaY,ZbS,xorI]
end Go.Vs
namespace Go.Vs.Tryz
open Go Go.Vs
variable {A:Zac}
abbrev boxI (s:Nat):Obj:=.box [.c (.int .i64 (s:Int))]
def hintN:Sort.Hint→Nat
 | .unknown=>0
 | .increasing=>1
 | .decreasing=>2
def pivR (e:Array Nat)(a b:Nat):Nat × Nat :=
 if b-a≥8 then
  if b-a≥50 then
   Sort.median ltN e (Sort.medianAdjacent ltN e (a+(b-a) / 4*1) 0).1 (Sort.medianAdjacent ltN e (a+(b-a) / 4*2) (Sort.medianAdjacent ltN e (a+(b-a) / 4*1) 0).2).1
    (Sort.medianAdjacent ltN e (a+(b-a) / 4*3) (Sort.medianAdjacent ltN e (a+(b-a) / 4*2) (Sort.medianAdjacent ltN e (a+(b-a) / 4*1) 0).2).2).1
    (Sort.medianAdjacent ltN e (a+(b-a) / 4*3) (Sort.medianAdjacent ltN e (a+(b-a) / 4*2) (Sort.medianAdjacent ltN e (a+(b-a) / 4*1) 0).2).2).2
  else Sort.median ltN e (a+(b-a) / 4*1) (a+(b-a) / 4*2) (a+(b-a) / 4*3) 0
 else (a+(b-a) / 4*2,0)
def hintOf (s:Nat):Sort.Hint:=if s=0 then .increasing else if s=12 then .decreasing else .unknown
variable {A:Zac}
def isIntR (r:Option (V × List Obj)):Bool:=match r with
 | some (.sc (.c (.int .i64 _)),[])=>true
 | _=>false
def isStrR (s:Str)(r:Option (V × List Obj)):Bool:=match r with
 | some (.sc (.c (.str t)),[])=>decide (t=s)
 | _=>false
theorem SortR.len {a b:Nat}{d e:List Nat}(h:SortR a b d e):e.length=d.length:=h.1.length_eq
def dig2 (k:Nat):Str:=if k<10 then [UInt8.ofNat (48+k)] else [UInt8.ofNat (48+k / 10),UInt8.ofNat (48+k % 10)]
variable {A:Zac}
def stp (a len md idx:Nat):Nat→UInt64 × Array Nat→UInt64 × Array Nat
 | 0,st=>st
 | k+1,st=>stp a len md idx k (Sort.breakStep a len md st (idx+(2-k)))
variable {A:Zac}
variable {A:Zac}
variable {A:Zac}
variable {A:Zac}
abbrev S5 (n a b i st:Nat)(xs:Env):Env:=(0,.sc (.arr 0 n))::(1,intV a)::(2,intV b)::(7,intV i)::(8,intV st)::xs
def up197:VCode:=(sq [oM 95 2,oM 96 7,oB 97 .sub 95 96,oK 98 .geq 97 2] [0,1,2,7,8,98] (cd 98 (sq [oM 99 7,oK 100 .add 99 1,oM 10 100] [0,1,2,7,8,10] (lp 6 Zpq)) .skip))
variable {A:Zac}
def t9 (d:Array Nat)(a b lim piv:Nat):Array Nat :=
 if (Sort.partition ltN d a b piv).1-a<b-(Sort.partition ltN d a b piv).1 then
  Sort.pdq ltN (Sort.pdq ltN (Sort.partition ltN d a b piv).2.2 a (Sort.partition ltN d a b piv).1 lim true true) ((Sort.partition ltN d a b piv).1+1) b lim
   (decide ((Sort.partition ltN d a b piv).1-a≥(b-a) / 8)) (Sort.partition ltN d a b piv).2.1
 else
  Sort.pdq ltN (Sort.pdq ltN (Sort.partition ltN d a b piv).2.2 ((Sort.partition ltN d a b piv).1+1) b lim true true) a (Sort.partition ltN d a b piv).1 lim
   (decide (b-(Sort.partition ltN d a b piv).1≥(b-a) / 8)) (Sort.partition ltN d a b piv).2.1
def t8 (d:Array Nat)(a b lim:Nat)(wb wq:Bool)(piv:Nat):Array Nat :=
 if (decide (a>0) && !ltN d[a-1]! d[piv]!)=true then Sort.pdq ltN (Sort.partitionEqual ltN d a b piv).2 (Sort.partitionEqual ltN d a b piv).1 b lim wb wq
 else t9 d a b lim piv
def t7 (d:Array Nat)(a b lim:Nat)(wb wq:Bool)(piv:Nat)(hint:Sort.Hint):Array Nat :=
 if (if (wb && wq && decide (hint=.increasing))=true then Sort.partialInsertionSort ltN d a b else (d,false)).2=true then
  (if (wb && wq && decide (hint=.increasing))=true then Sort.partialInsertionSort ltN d a b else (d,false)).1
 else t8 (if (wb && wq && decide (hint=.increasing))=true then Sort.partialInsertionSort ltN d a b else (d,false)).1 a b lim wb wq piv
def t5 (d:Array Nat)(a b lim:Nat)(wb wq:Bool):Array Nat :=
 t7 (if (Sort.choosePivot ltN d a b).2=.decreasing then Sort.reverseRange d a b else d) a b lim wb wq
  (if (Sort.choosePivot ltN d a b).2=.decreasing then (b-1)-((Sort.choosePivot ltN d a b).1-a) else (Sort.choosePivot ltN d a b).1)
  (if (Sort.choosePivot ltN d a b).2=.decreasing then .increasing else (Sort.choosePivot ltN d a b).2)
def p9:VCode:=(sq [oM 95 0,oM 96 1,oM 97 2,oM 98 11,cA 99 278 [ta 95,fa 96,fa 97,fa 98] 5760,oM 94 99,oE 100 94 0,oE 101 94 1,oM 14 100,oM 15 101] [0,1,2,3,8,9,10,14,15] (sq [oM 102 15,oM 9 102] [0,1,2,3,8,9,10,14] (sq [oM 103 14,oM 104 1,oB 105 .sub 103 104,oM 106 2,oM 107 14,oB 108 .sub 106 107,oM 16 105,oM 17 108] [0,1,2,3,8,9,10,14,16,17] (sq [oM 109 10,oK 110 .quo 109 8,oM 18 110] [0,1,2,3,8,9,14,16,17,18] (sq [oM 111 16,oM 112 17,oB 113 .lss 111 112] [0,1,2,3,8,9,14,16,17,18,113] (cd 113 (sq [oM 114 16,oM 115 18,oB 116 .geq 114 115,oM 8 116] [0,1,2,3,8,9,14] (sq [oM 117 0,oM 118 1,oM 119 14,oM 120 3,cA 121 249 [ta 117,fa 118,fa 119,fa 120] 7680] [0,1,2,3,8,9,14] (rg [oM 122 14,oK 123 .add 122 1,oM 1 123] [0,1,2,3,8,9]))) (sq [oM 124 17,oM 125 18,oB 126 .geq 124 125,oM 8 126] [0,1,2,3,8,9,14] (sq [oM 127 0,oM 128 14,oK 129 .add 128 1,oM 130 2,oM 131 3,cA 132 249 [ta 127,fa 129,fa 130,fa 131] 8512] [0,1,2,3,8,9,14] (rg [oM 133 14,oM 2 133] [0,1,2,3,8,9])))))))))
def p8:VCode:=(.seq (.seq (.region [] [oM 73 1,oK 74 .gtr 73 0,oM 75 74,gM 76 0 75 true,gM 77 1 75 true,og 78 (.bin .sub 0 (tv 77) (ki 1)) 75 true,gX 79 1 76 78 75 true,gL 80 79 75 true,gM 81 0 75 true,gM 82 11 75 true,gX 83 1 81 82 75 true,gL 84 83 75 true,gA 85 276 [fa 80,fa 84] 75 true 4800,gU 86 85 75 true,oQ 87 75 86] [(6,10),(7,10),(6,11),(7,11)] [0,1,2,3,8,9,10,11,87]) (cd 87 (sq [oM 88 0,oM 89 1,oM 90 2,oM 91 11,cA 92 277 [ta 88,fa 89,fa 90,fa 91] 5248,oM 13 92] [0,1,2,3,8,9,13] (sq [oM 93 13,oM 1 93] [0,1,2,3,8,9] (.exit 1))) .skip))
 p9)
def p7:VCode:=(.seq (sq [oM 61 8,oM 62 61,gM 63 9 62 true,oQ 64 62 63,oM 65 64,gM 66 12 65 true,og 67 (.bin .eql 0 (tv 66) (ki 1)) 65 true,oQ 68 65 67] [0,1,2,3,8,9,10,11,68] (cd 68 (sq [oM 69 0,oM 70 1,oM 71 2,cA 72 275 [ta 69,fa 70,fa 71] 3968] [0,1,2,3,8,9,10,11,72] (cd 72 .ret .skip)) .skip))
 p8)
def p5:VCode:=(sq [oM 43 0,oM 44 1,oM 45 2,cA 46 273 [ta 43,fa 44,fa 45] 1984,oM 42 46,oE 47 42 0,oE 48 42 1,oM 11 47,oM 12 48] [0,1,2,3,8,9,10,11,12] (.seq (sq [oM 49 12,oK 50 .eql 49 2] [0,1,2,3,8,9,10,11,12,50] (cd 50 (sq [oM 51 0,oM 52 1,oM 53 2,cA 54 274 [ta 51,fa 52,fa 53] 2688] [0,1,2,3,8,9,10,11] (sq [oM 55 2,oK 56 .sub 55 1,oM 57 11,oM 58 1,oB 59 .sub 57 58,oB 60 .sub 56 59,oM 11 60] [0,1,2,3,8,9,10,11] (rg [oJ 12 1] [0,1,2,3,8,9,10,11,12]))) .skip))
 p7))
def p4:VCode:=(.seq (sq [oM 34 8,oU 35 34] [0,1,2,3,8,9,10,35] (cd 35 (sq [oM 36 0,oM 37 1,oM 38 2,cA 39 272 [ta 36,fa 37,fa 38] 1536] [0,1,2,3,8,9,10] (rg [oM 40 3,oK 41 .sub 40 1,oM 3 41] [0,1,2,3,8,9,10])) .skip))
 p5)
abbrev S6 (n a b lim:Nat)(wb wq:Bool)(xs:Env):Env:=(0,.sc (.arr 0 n))::(1,intV a)::(2,intV b)::(3,intV lim)::(8,ZaG wb)::(9,ZaG wq)::xs
structure Owes (Q:Ex→St→Prop)(n L:Nat)(R:Array Nat):Prop where
 ret:∀ (env:Env) (l:List Nat),Is R l→R.size=n→Q .ret ⟨env,[(0,some (arrU l))]⟩
 next:∀ (x:Ex) (a b lim:Nat) (wb wq:Bool) (e:Array Nat) (l:List Nat),(x=.normal∨x=.exit 1)→Is e l→e.size=n→Sort.pdq ltN e a b lim wb wq=R→a≤b→b≤n→lim≤1000→b-a<L →
  Q x ⟨S6 n a b lim wb wq [],[(0,some (arrU l))]⟩
def Shorter (A:Zac)(n L:Nat):Prop:=∀ (e:Array Nat) (l:List Nat) (a b lim:Nat),Is e l→e.size=n→a≤b→b≤n→lim≤1000→b-a<L →
 (K A).call 249 [.sc (.arr 0 n),intV a,intV b,intV lim] [arrU l]=some (retV,[arrU (Sort.pdq ltN e a b lim true true).toList])∧(Sort.pdq ltN e a b lim true true).size=n
end Go.Vs.Tryz
namespace Go.Vs
open Go
variable {C:Ctx}{E:Nat→Option V}{L:Nat→Option Obj}{oid:Nat}
def clrK (L:Nat→Option Obj)(s:Nat)(zero:List W):V→Option (V × Upd)
 | .sc (.vw k N lo n)=>arrK (L k) fun s' rows p=>bif rows.length == N && s' == s && zero.length == s && zero.all Zas && Nat.ble (lo+n) N && Nat.ble p lo && Nat.blt 0 n then
  some (.sc .un,[(k,some (.arr s (rows.take lo++List.replicate n zero++rows.drop (lo+n)) p))]) else none
 | _=>none
@[simp] theorem x_clr {s:Nat} {zero:List W} {x:Opd}:Zae C E L oid (.clr s zero x)=clrK L s zero (x.val C E):=by
 simp only [Zae]
 generalize x.val C E=v
 cases v with
 | sc w =>
  cases w with
  | vw k N lo n =>
   simp only [clrK,arrK]
   cases L k with
   | none=>rfl
   | some o=>cases o<;>rfl
  | c y=>cases y<;>rfl
  | _=>rfl
 | _=>rfl
@[simp] theorem clrK_vw {s:Nat} {zero:List W} {k N lo n:Nat}:clrK L s zero (.sc (.vw k N lo n))=arrK (L k) fun s' rows p=>bif rows.length == N && s' == s && zero.length == s && zero.all Zas && Nat.ble (lo+n) N && Nat.ble p lo && Nat.blt 0 n then
 some (.sc .un,[(k,some (.arr s (rows.take lo++List.replicate n zero++rows.drop (lo+n)) p))]) else none:=rfl
@[simp] theorem slice_arr_from {s k n i:Nat} {kk:IntKind} (h:i≤n):Zbb L s (.sc (.arr k n)) (some (.sc (.c (.int kk (i:Int))))) none none =
 arrK (L k) fun s' rows _=>bif rows.length == n && s' == s then some (.sc (.vw k n i (n-i)),[]) else none:=by
 cases hL:L k with
 | none=>simp [Zbb,hL,arrK]
 | some o =>
  cases o with
  | box c=>simp [Zbb,hL,arrK]
  | arr s' rows p=>simp [Zbb,hL,arrK,Zax,ZbF,ZbY,Nat.lt_succ_of_le h]
@[simp] theorem slice_arr_to {s k n i:Nat} {kk:IntKind} (h:i≤n):Zbb L s (.sc (.arr k n)) none (some (.sc (.c (.int kk (i:Int))))) none =
 arrK (L k) fun s' rows _=>bif rows.length == n && s' == s then some (.sc (.vw k n 0 i),[]) else none:=by
 cases hL:L k with
 | none=>simp [Zbb,hL,arrK]
 | some o =>
  cases o with
  | box c=>simp [Zbb,hL,arrK]
  | arr s' rows p=>simp [Zbb,hL,arrK,Zax,ZbF,ZbY,Nat.lt_succ_of_le h]
end Go.Vs
namespace Go.Vs.Tryz
open Go Go.Vs
variable {A:Zac}
def CompR (d:List Nat)(r:V × List Obj):Prop:=∃ (m:Nat) (d':List Nat),d'.length=d.length∧m≤d.length∧d'.take m=ZnZ d d.length ∧
 ((m=d.length∧r=(.sc (.arr 0 d.length),[arrU d']))∨r=(.sc (.vw 0 d.length 0 m),[arrU d']))
end Go.Vs.Tryz
namespace Go.Vs
open Go
variable {C:Ctx}{E:Nat→Option V}{L:Nat→Option Obj}{oid:Nat}
@[simp] theorem x_idxAA {s len:Nat} {x i:Opd}:Zae C E L oid (.idxAA s len x i)=Za6 (Zaj (i.val C E) len) fun j=>onBy L (j*s) (x.val C E):=by
 simp only [Zae]
 cases Zaj (i.val C E) len<;>rfl
@[simp] theorem x_newA {n:Nat} {zero:List W}:Zae C E L oid (.newA n zero)=newK (L oid) (bif Nat.ble n Zaw then some (.sc (.el oid n 0 0),[(oid,some (.arr zero.length (List.replicate n zero) 0))]) else none):=by
 simp only [Zae]
 cases L oid<;>rfl
def slAK (L:Nat→Option Obj)(s n:Nat)(v:V)(lo hi:Option V):Option (V × Upd):=match v with
 | .sc (.el k N i off)=>arrK (L k) fun s' rows _=>Za6 (Zax hi n n) fun h=>Za6 (Zax lo 0 h) fun l =>
  bif N == n && i == 0 && off == 0 && rows.length == N && s' == s && Nat.blt 0 N then some (.sc (.vw k N l (h-l)),[]) else none
 | _=>none
@[simp] theorem x_slA {s n:Nat} {x:Opd} {lo hi:Option Opd}:Zae C E L oid (.slA s n x lo hi)=slAK L s n (x.val C E) (lo.map (·.val C E)) (hi.map (·.val C E)):=by
 simp only [Zae]
 generalize x.val C E=v
 cases v with
 | sc w =>
  cases w with
  | el k N i off =>
   simp only [slAK,arrK]
   cases L k with
   | none=>rfl
   | some o =>
    cases o with
    | box c=>rfl
    | arr s' rows p =>
     simp only
     cases Zax (hi.map (·.val C E)) n n with
     | none=>rfl
     | some h =>
      simp only [Za6]
      cases Zax (lo.map (·.val C E)) 0 h<;>rfl
  | c y=>cases y<;>rfl
  | _=>rfl
 | _=>rfl
@[simp] theorem slAK_to {s n k N h:Nat} {kk:IntKind} (hh:h≤n):slAK L s n (.sc (.el k N 0 0)) none (some (.sc (.c (.int kk (h:Int))))) =
 arrK (L k) fun s' rows _=>bif N == n && rows.length == N && s' == s && Nat.blt 0 N then some (.sc (.vw k N 0 h),[]) else none:=by
 simp [slAK,Zax,ZbF,ZbY,Nat.lt_succ_of_le hh,Za6]
def cvSK:Option (List (List W))→Option (V × Upd)
 | none=>none
 | some rows=>bif rows.isEmpty then none else (Zad Zcy rows).map fun l=>(.sc (.c (.str l)),[])
@[simp] theorem x_cvS {x:Opd}:Zae C E L oid (.cvS x)=cvSK (ZaU L (x.val C E)):=by
 simp only [Zae,cvSK]
 cases ZaU L (x.val C E)<;>rfl
def bRow (b:UInt8):List Cell:=[.int .u8 b.toNat]
def Zey (w:List UInt8):List (List Cell):=w.map bRow
@[simp] theorem bRow_len (b:UInt8):(bRow b).length=1:=rfl
@[simp] theorem bRows_len (w:List UInt8):(Zey w).length=w.length:=by simp [Zey]
@[simp] theorem bRows_get (w:List UInt8) (i:Nat):(Zey w)[i]?=(w[i]?).map bRow:=by simp [Zey]
@[simp] theorem wc_b (b:UInt8):wc (bRow b)=[.c (.int .u8 b.toNat)]:=rfl
@[simp] theorem b_set (w:List UInt8) (i:Nat) (b:UInt8):setRow (wr (Zey w)) i [W.c (.int .u8 (b.toNat:Int))]=wr (Zey (w.set i b)):=by
 rw [Tryz.setRow_set]
 simp [Zey,wr,List.map_set,bRow]
theorem ZfW:∀ w:List UInt8,Zad Zcy (wr (Zey w))=some w
 | []=>rfl
 | b::w=>by
  have h:=ZfW w
  have hb:b.toNat<256:=b.toNat_lt
  have e:Zcy (wc (bRow b))=some b:=by
   simp only [wc_b,Zcy]
   rw [show (decide ((0:Int)≤(b.toNat:Int)) && decide ((b.toNat:Int)<256))=true by simp;omega]
   simp
  show Zad Zcy (wc (bRow b)::wr (Zey w))=_
  simp only [Zad,e,h]
@[simp] theorem cvSK_b {w:List UInt8} (h:w≠[]):cvSK (some (wr (Zey w)))=some (.sc (.c (.str w)),[]):=by
 simp only [cvSK]
 rw [show (wr (Zey w)).isEmpty=false by cases w<;>simp_all [wr,Zey],ZfW]
 rfl
@[simp] theorem wrap_u32 (x:Int) (h:0≤x∧x<4294967296):IntKind.u32.wrap x=x:=by
 unfold IntKind.wrap
 simp [IntKind.bits,IntKind.signed]
 omega
@[simp] theorem wrap_u8 (x:Int) (h:0≤x∧x<256):IntKind.u8.wrap x=x:=by
 unfold IntKind.wrap
 simp [IntKind.bits,IntKind.signed]
 omega
end Go.Vs
namespace Go.Vs.Tryz
open Go Go.Vs
variable {A:Zac}
def dg (x:Nat):UInt8:=UInt8.ofNat (48+x % 10)
def pd:Nat→Nat→Str
 | 0,_=>[]
 | m+1,k=>dg (k / 10 ^ m)::pd m k
def gs (L:Nat):Nat:=L*78913 / 262144
def ndig (k:Nat):Nat:=gs (Sort.bitsLen k)+if 10 ^ gs (Sort.bitsLen k)≤k then 1 else 0
variable {A:Zac}
abbrev arrB (w:Str):Obj:=.arr 1 (wr (Zey w)) 0
def FB (n k i:Nat)(w:Str):Prop:=w.length=24∧i≤n∧(w.take n).drop i=pd (n-i) k
end Go.Vs.Tryz
