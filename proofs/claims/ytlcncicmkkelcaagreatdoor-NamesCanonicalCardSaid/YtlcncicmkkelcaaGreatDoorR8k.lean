/- The n-th name that is not taken, from the numbers that are taken, in order (plain). (Parts of one proof, put together.) -/
import Derived.Test.YtlcncicmkkelcaaGreatDoorR7k
import Derived.Test.YtlcncicmkkelcaaGreatDoorR2k
import Derived.Test.YtlcncicmkkelcaaGreatDoorR6k
import Derived.Test.YtlcncicmkkelcaaGreatDoorR3k
set_option linter.unusedSimpArgs false
set_option linter.unusedVariables false
set_option linter.deprecated false
set_option maxHeartbeats 8000000
set_option maxRecDepth 10000
namespace Go.Vs.Tryz
open Go Go.Vs
def cmpTo (d:List Nat):Nat→List Nat
 | 0=>[]
 | m+1=>match d[m]? with
  | none=>cmpTo d m
  | some x=>if 0<m∧d[m-1]?=some x then cmpTo d m else cmpTo d m++[x]
theorem cmpTo_keep {d:List Nat}{m x:Nat}(h:d[m]?=some x)(hn:¬(0<m∧d[m-1]?=some x)):cmpTo d (m+1)=cmpTo d m++[x]:=by
 simp only [cmpTo,h,if_neg hn]
theorem cmpTo_drop {d:List Nat}{m x:Nat}(h:d[m]?=some x)(hm:0<m)(hn:d[m-1]?=some x):cmpTo d (m+1)=cmpTo d m:=by
 simp only [cmpTo,h,if_pos (⟨hm,hn⟩:0<m∧d[m-1]?=some x)]
theorem cmpTo_len (d:List Nat):∀ m,(cmpTo d m).length≤m
 | 0=>by simp [cmpTo]
 | m+1=>by
  have:=cmpTo_len d m
  simp only [cmpTo]
  split
  ·omega
  ·split
   ·omega
   ·simp;omega
theorem cmpTo_mem {d:List Nat}{x:Nat}:∀ {m:Nat},x∈cmpTo d m↔∃ k,k<m∧d[k]?=some x
 | 0=>by simp [cmpTo]
 | m+1=>by
  have ih:=@cmpTo_mem d x m
  cases h:d[m]? with
  | none =>
   simp only [cmpTo,h]
   rw [ih]
   constructor
   ·rintro ⟨k,hk,hx⟩
    exact ⟨k,by omega,hx⟩
   ·rintro ⟨k,hk,hx⟩
    refine ⟨k,?_,hx⟩
    rcases Nat.lt_or_ge k m with h1|h1
    ·exact h1
    ·have:k=m:=by omega
     rw [this,h] at hx
     cases hx
  | some y =>
   by_cases hn:0<m∧d[m-1]?=some y
   ·rw [cmpTo_drop h hn.1 hn.2,ih]
    constructor
    ·rintro ⟨k,hk,hx⟩
     exact ⟨k,by omega,hx⟩
    ·rintro ⟨k,hk,hx⟩
     rcases Nat.lt_or_ge k m with h1|h1
     ·exact ⟨k,h1,hx⟩
     ·have:k=m:=by omega
      rw [this,h] at hx
      cases hx
      exact ⟨m-1,by omega,hn.2⟩
   ·rw [cmpTo_keep h hn,List.mem_append,ih]
    simp only [List.mem_singleton]
    constructor
    ·rintro (⟨k,hk,hx⟩|rfl)
     ·exact ⟨k,by omega,hx⟩
     ·exact ⟨m,by omega,h⟩
    ·rintro ⟨k,hk,hx⟩
     rcases Nat.lt_or_ge k m with h1|h1
     ·exact .inl ⟨k,h1,hx⟩
     ·have:k=m:=by omega
      rw [this,h] at hx
      cases hx
      exact .inr rfl
def ascend (l:List Nat):Prop:=∀ (p q x y:Nat),p<q→l[p]?=some x→l[q]?=some y→x<y
theorem ascend_snoc {l:List Nat}{x:Nat}(h:ascend l)(hx:∀ y∈l,y<x):ascend (l++[x]):=by
 intro p q u v hpq hu hv
 have hq:=(List.getElem?_eq_some_iff.1 hv).1
 simp only [List.length_append,List.length_singleton] at hq
 rw [List.getElem?_append_left (by omega)] at hu
 rcases Nat.lt_or_ge q l.length with h1|h1
 ·rw [List.getElem?_append_left h1] at hv
  exact h p q u v hpq hu hv
 ·rw [List.getElem?_append_right h1,show q-l.length=0 by omega] at hv
  cases hv
  exact hx u (List.mem_of_getElem? hu)
theorem cmpTo_ascend {d:List Nat}(hs:sortedIn 0 d.length d):∀ m,ascend (cmpTo d m)
 | 0=>fun p q x y _ hx=>by simp [cmpTo] at hx
 | m+1=>by
  have ih:=cmpTo_ascend hs m
  cases h:d[m]? with
  | none=>simpa only [cmpTo,h] using ih
  | some y =>
   by_cases hn:0<m∧d[m-1]?=some y
   ·rw [cmpTo_drop h hn.1 hn.2]
    exact ih
   ·rw [cmpTo_keep h hn]
    refine ascend_snoc ih fun u hu => ?_
    obtain ⟨k,hk,hx⟩:=cmpTo_mem.1 hu
    have hm:=(List.getElem?_eq_some_iff.1 h).1
    have h1:=hs k m u y (Nat.zero_le _) hk hm hx h
    rcases Nat.lt_or_eq_of_le h1 with h2|h2
    ·exact h2
    ·exfalso
     obtain ⟨z,hz⟩:=get_of_lt (l:=d) (i:=m-1) (by omega)
     have h3:z=y:=by
      have h4:=hs (m-1) m z y (Nat.zero_le _) (by omega) hm hz h
      rcases Nat.lt_or_ge k (m-1) with h5|h5
      ·have h6:=hs k (m-1) u z (Nat.zero_le _) h5 (by omega) hx hz
       omega
      ·have:k=m-1:=by omega
       rw [this,hz] at hx
       cases hx
       omega
     exact hn ⟨by omega,by rw [hz,h3]⟩
def bump (k i:Nat):Nat:=if i≤k then k+1 else k
def below (l:List Nat)(k:Nat):Nat:=(l.filter fun j=>decide (j<k)).length
theorem below_succ:∀ {l:List Nat}{k:Nat},l.Nodup→below l (k+1)=below l k+if k∈l then 1 else 0
 | [],k,_=>by simp [below]
 | a::l,k,h=>by
  have ih:=@below_succ l k (List.nodup_cons.1 h).2
  have hn:=(List.nodup_cons.1 h).1
  unfold below at ih ⊢
  simp only [List.filter_cons]
  by_cases h1:a<k
  ·have h2:a<k+1:=by omega
   have h3:¬k=a:=by omega
   simp only [h1,h2,decide_true,if_true,List.length_cons,List.mem_cons,h3,false_or]
   omega
  ·by_cases h2:a=k
   ·subst h2
    have h3:a<a+1:=by omega
    simp only [h1,h3,decide_true,decide_false,if_true,List.length_cons,List.mem_cons,true_or,Bool.false_eq_true,if_false]
    rw [if_neg hn] at ih
    omega
   ·have h3:¬a<k+1:=by omega
    have h4:¬k=a:=fun h=>h2 h.symm
    simp only [h1,h3,decide_false,Bool.false_eq_true,if_false,List.mem_cons,h4,false_or]
    exact ih
theorem ascend_nodup:∀ {l:List Nat},ascend l→l.Nodup:=by
 intro l h
 rw [List.nodup_iff_pairwise_ne]
 rw [List.pairwise_iff_getElem]
 intro i j hi hj hij heq
 have:=h i j l[i] l[j] hij (List.getElem?_eq_getElem hi) (List.getElem?_eq_getElem hj)
 omega
theorem bump_inv {l:List Nat}(hl:ascend l)(n:Nat):∀ t,t≤l.length→(((l.take t).foldl bump (n+1))=n+1+below (l.take t) ((l.take t).foldl bump (n+1)))∧(l.take t).foldl bump (n+1)∉l.take t
 | 0,_=>by simp [below]
 | t+1,ht=>by
  obtain ⟨h1,h2⟩:=bump_inv hl n t (by omega)
  obtain ⟨c,hc⟩:=get_of_lt (l:=l) (i:=t) (by omega)
  rw [take_next hc,List.foldl_append,List.foldl_cons,List.foldl_nil]
  generalize hk:(l.take t).foldl bump (n+1)=k at h1 h2
  have hlt:∀ x∈l.take t,x<c:=by
   intro x hx
   obtain ⟨i,hi⟩:=List.mem_iff_getElem?.1 hx
   rw [List.getElem?_take] at hi
   split at hi
   ·rename_i hit
    exact hl i t x c hit hi hc
   ·cases hi
  unfold bump
  by_cases hck:c≤k
  ·rw [if_pos hck]
   constructor
   ·unfold below at h1 ⊢
    rw [List.filter_append,List.length_append]
    have e1:((l.take t).filter fun j=>decide (j<k+1))=(l.take t).filter fun j=>decide (j<k):=List.filter_congr fun x hx=>by
     have:=hlt x hx
     have h3:x≠k:=fun h=>h2 (h▸hx)
     simp only [decide_eq_decide]
     omega
    rw [e1]
    have e2:([c].filter fun j=>decide (j<k+1)).length=1:=by
     have:c<k+1:=by omega
     simp [this]
    omega
   ·simp only [List.mem_append,List.mem_singleton,not_or]
    refine ⟨fun h => ?_,by omega⟩
    have:=hlt _ h
    omega
  ·rw [if_neg hck]
   constructor
   ·unfold below at h1 ⊢
    rw [List.filter_append,List.length_append]
    have e2:([c].filter fun j=>decide (j<k)).length=0:=by
     have:¬c<k:=by omega
     simp [this]
    omega
   ·simp only [List.mem_append,List.mem_singleton,not_or]
    exact ⟨h2,by omega⟩
def freeN (taken:List Str)(a b:Nat):Nat:=((List.range b).filter fun j=>decide (a≤j∧vName j∉taken)).length
theorem freeN_succ (taken:List Str)(a b:Nat)(h:a≤b):freeN taken a (b+1)=freeN taken a b+if vName b∉taken then 1 else 0:=by
 unfold freeN
 rw [List.range_succ,List.filter_append,List.length_append]
 congr 1
 by_cases hb:vName b∉taken
 ·simp [hb,h]
 ·simp [hb]
theorem freeN_self (taken:List Str)(a:Nat):freeN taken a a=0:=by
 unfold freeN
 rw [List.length_eq_zero_iff,List.filter_eq_nil_iff]
 intro x hx
 have:=List.mem_range.1 hx
 simp only [decide_eq_true_eq,not_and]
 omega
theorem freeN_split (taken:List Str)(a:Nat):∀ b,a<b→freeN taken a b=(if vName a∉taken then 1 else 0)+freeN taken (a+1) b
 | 0,h=>by omega
 | b+1,h=>by
  rcases Nat.lt_or_ge a b with h1|h1
  ·rw [freeN_succ _ _ _ (by omega),freeN_succ _ _ _ (by omega),freeN_split taken a b h1]
   omega
  ·have:a=b:=by omega
   subst this
   rw [freeN_succ _ _ _ (Nat.le_refl _),freeN_self,freeN_self]
   omega
theorem freshF_count (taken:List Str):∀ f k n,n+vCount taken k<f→freeN taken k (freshF taken f k n)=n
 | 0,k,n,h=>by omega
 | f+1,k,n,h=>by
  simp only [freshF]
  split
  ·rename_i hm
   have h1:=freshF_count taken f (k+1) n (by have:=vCount_lt hm;omega)
   have h2:=freshF_ge taken f (k+1) n
   rw [freeN_split _ _ _ (by omega),h1,if_neg (by simpa using hm)]
   omega
  ·rename_i hm
   split
   ·rename_i h0
    rw [freeN_self,h0]
   ·have h1:=freshF_count taken f (k+1) (n-1) (by have:=vCount_mono taken k;omega)
    have h2:=freshF_ge taken f (k+1) (n-1)
    rw [freeN_split _ _ _ (by omega),h1,if_pos hm]
    omega
theorem freeN_mono (taken:List Str)(a:Nat):∀ {b c},a≤b→b≤c→freeN taken a b≤freeN taken a c:=by
 intro b c hab hbc
 induction c with
 | zero =>
  have:b=0:=by omega
  rw [this]
  exact Nat.le_refl _
 | succ c ih =>
  rcases Nat.lt_or_ge b (c+1) with h|h
  ·rw [freeN_succ _ _ _ (by omega)]
   have:=ih (by omega)
   omega
  ·have:b=c+1:=by omega
   rw [this]
   exact Nat.le_refl _
theorem fresh_unique {taken:List Str}{n k:Nat}(h1:1≤k)(hk:vName k∉taken)(hc:freeN taken 1 k=n):freshK n taken=k:=by
 have hn:=freshS_not n taken
 have hm:freeN taken 1 (freshK n taken)=n:=freshF_count taken _ _ _ (by have:=vCount_le taken 1;omega)
 have h2:1≤freshK n taken:=freshF_ge taken _ 1 n
 have hr:vName (freshK n taken)∉taken:=hn
 generalize freshK n taken=r at hr hm h2 ⊢
 rcases Nat.lt_trichotomy r k with h|h|h
 ·have h3:=freeN_mono taken 1 (b:=r+1) (c:=k) (by omega) (by omega)
  rw [freeN_succ _ _ _ h2,if_pos hr] at h3
  omega
 ·exact h
 ·have h3:=freeN_mono taken 1 (b:=k+1) (c:=r) (by omega) (by omega)
  rw [freeN_succ _ _ _ h1,if_pos hk] at h3
  omega
theorem freshK_congr {t t':List Str}(h:∀ s,s∈t↔s∈t')(n:Nat):freshK n t=freshK n t':=by
 have h1:1≤freshK n t':=freshF_ge t' _ 1 n
 have hm:freeN t' 1 (freshK n t')=n:=freshF_count t' _ _ _ (by have:=vCount_le t' 1;omega)
 refine fresh_unique h1 (fun hk=>freshS_not n t' ((h _).1 hk)) ?_
 calc freeN t 1 (freshK n t')=freeN t' 1 (freshK n t'):=by unfold freeN;simp only [h]
  _=n:=hm
theorem freshS_congr {t t':List Str}(h:∀ s,s∈t↔s∈t')(n:Nat):freshS n t=freshS n t':=by rw [freshS,freshS,freshK_congr h]
theorem news_congr {t t':List Str}(h:∀ s,s∈t↔s∈t')(n k:Nat):news t n k=news t' n k:=by
 unfold news
 exact List.map_congr_left fun j _=>freshS_congr h _
theorem mem_outP {e:Exp}{s:Str}:∀ n,s∈outP e n→n≤e.children.length→∃ (i:Nat)(x:Exp),e.children[i]?=some x∧s∈freeP x∧s∉e.bound i
 | 0,h,_=>by simp [outP] at h
 | n+1,h,hn=>by
  obtain ⟨x,hx⟩:=get_of_lt (l:=e.children) (i:=n) (by omega)
  rw [outP_succ hx,mem_foldNew] at h
  rcases h with h|h
  ·exact mem_outP n h (by omega)
  ·exact ⟨n,x,hx,h.1,h.2⟩
theorem mem_freeP {e:Exp}{s:Str}(hk:e.kind≠1):s∈freeP e↔∃ (i:Nat)(x:Exp),e.children[i]?=some x∧s∈freeP x∧s∉e.bound i:=by
 constructor
 ·intro h
  rw [freeP_eq,if_neg hk,←outP_end] at h
  exact mem_outP _ h (Nat.le_refl _)
 ·rintro ⟨i,x,hx,hs,hb⟩
  exact (free_child hk hx hs).resolve_left hb
theorem mem_freeP_var {e:Exp}{s:Str}(hk:e.kind=1):s∈freeP e↔s=e.name:=by rw [freeP_eq,if_pos hk,List.mem_singleton]
theorem con_children {e:Exp}(h:shp1 e)(hk:e.kind=2):e.children=[]:=by
 have h3:=h.2.2
 rw [hk] at h3
 have h4:=h.1.2.1 (by rw [hk];decide)
 have h5:e.kids=[]:=List.length_eq_zero_iff.1 h3
 simp [Exp.children,h4,h5]
theorem var_parts {e:Exp}(h:e.wf1)(hk:e.kind=1):e.kids=[]∧e.arms=[]∧e.children=[]:=by
 have h1:=h.2.2 hk
 have h2:=h.2.1 (by rw [hk];decide)
 exact ⟨h1,h2,by simp [Exp.children,h1,h2]⟩
theorem alpha_free (a:Exp):∀ b l r,shp a→alphaP a b l r→∀ s,s∈freeP a→s∉l→s∈freeP b∧s∉r:=by
 induction a using Exp.ind with
 | h a ih =>
  intro b l r hs h s hm hl
  rw [alphaP_eq] at h
  obtain ⟨h1,h2,h3,h4⟩:=h
  by_cases hk:a.kind=1
  ·obtain ⟨g1,g2⟩:=h2 hk
   rw [mem_freeP_var hk] at hm
   subst hm
   rw [rlast_no hl] at g1 g2
   have hn:=g2.resolve_left (by omega)
   refine ⟨by rw [mem_freeP_var (h1.1.symm.trans hk)];exact hn,fun hr => ?_⟩
   have:=rlast_mem (hn▸hr)
   omega
  ·by_cases hk2:a.kind=2
   ·obtain ⟨i,x,hx,_⟩:=(mem_freeP hk).1 hm
    rw [con_children hs.one hk2] at hx
    simp at hx
   ·obtain ⟨i,x,hx,hsx,hb⟩:=(mem_freeP hk).1 hm
    obtain ⟨y,hy⟩:=get_of_lt (l:=b.children) (i:=i) (by rw [←h1.children];exact (List.getElem?_eq_some_iff.1 hx).1)
    obtain ⟨q1,q2⟩:=ih x (List.mem_of_getElem? hx) y _ _ (hs.child (List.mem_of_getElem? hx)) ((h4 hk hk2).2 i x y hx hy) s hsx (by simp [hl,hb])
    rw [List.mem_append,not_or] at q2
    exact ⟨(mem_freeP (h1.1▸hk)).2 ⟨i,y,hy,q1,q2.2⟩,q2.1⟩
theorem alpha_free0 {a b:Exp}(ha:shp a)(hb:shp b)(h:alphaP a b [] [])(s:Str):s∈freeP a↔s∈freeP b :=
 ⟨fun hm=>(alpha_free a b [] [] ha h s hm (by simp)).1,fun hm=>(alpha_free b a [] [] hb (alphaP_symm _ _ _ _ h) s hm (by simp)).1⟩
theorem alphaP_trans (a:Exp):∀ b c l m r,alphaP a b l m→alphaP b c m r→alphaP a c l r:=by
 induction a using Exp.ind with
 | h a ih =>
  intro b c l m r h h'
  rw [alphaP_eq] at h h' ⊢
  obtain ⟨h1,h2,h3,h4⟩:=h
  obtain ⟨g1,g2,g3,g4⟩:=h'
  refine ⟨⟨h1.1.trans g1.1,h1.2.1.trans g1.2.1,h1.2.2.1.trans g1.2.2.1,h1.2.2.2.1.trans g1.2.2.2.1,h1.2.2.2.2.trans g1.2.2.2.2⟩,fun hk => ?_,fun hk=>(h3 hk).trans (g3 (h1.1▸hk)),fun k1 k2 => ?_⟩
  ·obtain ⟨v1,v2⟩:=h2 hk
   obtain ⟨w1,w2⟩:=g2 (h1.1▸hk)
   refine ⟨v1.trans w1,?_⟩
   rcases v2 with v2|v2
   ·exact .inl v2
   ·rcases w2 with w2|w2
    ·exact .inl (v1▸w2)
    ·exact .inr (v2.trans w2)
  ·obtain ⟨h5,h6⟩:=h4 k1 k2
   obtain ⟨g5,g6⟩:=g4 (h1.1▸k1) (h1.1▸k2)
   refine ⟨fun i p q hp hq => ?_,fun i x z hx hz => ?_⟩
   ·obtain ⟨u,hu⟩:=get_of_lt (l:=b.arms) (i:=i) (by have:=h1.2.2.2.2;have:=(List.getElem?_eq_some_iff.1 hp).1;omega)
    exact ⟨(h5 i p u hp hu).1.trans (g5 i u q hu hq).1,(h5 i p u hp hu).2.trans (g5 i u q hu hq).2⟩
   ·obtain ⟨y,hy⟩:=get_of_lt (l:=b.children) (i:=i) (by rw [←h1.children];exact (List.getElem?_eq_some_iff.1 hx).1)
    exact ih x (List.mem_of_getElem? hx) y z _ _ _ (h6 i x y hx hy) (g6 i y z hy hz)
theorem same_bound {a b:Exp}(h:sameP a b)(i:Nat):a.bound i=b.bound i:=by
 rw [sameP_eq] at h
 obtain ⟨h1,h2,_,_,_,h6,h7,_⟩:=h
 rw [bound_some,bound_some,h1,h2]
 cases hp:a.arms[i-1]? with
 | none =>
  have:b.arms[i-1]?=none:=by rw [List.getElem?_eq_none_iff] at hp ⊢;omega
  rw [this]
 | some p =>
  obtain ⟨q,hq⟩:=get_of_lt (l:=b.arms) (i:=i-1) (by have:=(List.getElem?_eq_some_iff.1 hp).1;omega)
  rw [hq]
  simp only [Option.map_some,Option.getD_some,(h7 _ p q hp hq).2]
theorem sameP_alpha (a:Exp):∀ b l,sameP a b→alphaP a b l l:=by
 induction a using Exp.ind with
 | h a ih =>
  intro b l h
  have hb:=same_bound h
  rw [sameP_eq] at h
  obtain ⟨h1,h2,h3,h4,h5,h6,h7,h8⟩:=h
  rw [alphaP_eq]
  refine ⟨⟨h1,h3,h4,h5,h6⟩,fun _=>⟨by rw [h2],.inr h2⟩,fun _=>h2,fun _ _=>⟨fun i p q hp hq=>⟨(h7 i p q hp hq).1,by rw [(h7 i p q hp hq).2]⟩,fun i x y hx hy => ?_⟩⟩
  rw [←hb]
  exact ih x (List.mem_of_getElem? hx) y _ (h8 i x y hx hy)
def nmN1 (e:Exp):Prop:=e.kind=1∨e.kind=2∨e.kind=4∨e.kind=6∨e.kind=7∨e.name=[]
def nmN (e:Exp):Prop:=e.fold fun e l=>nmN1 e∧∀ p∈l,p
theorem nmN_eq (e:Exp):nmN e=(nmN1 e∧∀ x∈e.children,nmN x):=by
 have:=Exp.fold_eq (fun e (l:List Prop)=>nmN1 e∧∀ p∈l,p) e
 unfold nmN
 rw [this]
 simp only [List.forall_mem_map]
theorem nmN.one {e:Exp}(h:nmN e):nmN1 e:=by rw [nmN_eq] at h;exact h.1
theorem nmN.child {e x:Exp}(h:nmN e)(hx:x∈e.children):nmN x:=by rw [nmN_eq] at h;exact h.2 x hx
theorem rawE.nmN {ds:List DataD}{e:Exp}:rawE ds e→nmN e:=by
 induction e using Exp.ind with
 | h e ih =>
  intro h
  rw [nmN_eq]
  refine ⟨?_,fun x hx=>ih x hx (h.child hx)⟩
  obtain ⟨_,_,_,_,_,h⟩:=h.one
  unfold nmN1
  rcases h with ⟨k,_⟩|⟨k,_⟩|⟨_,n,_⟩|⟨k,_⟩|⟨_,n,_⟩|⟨k,_⟩|⟨_,n,_⟩|⟨_,n,_⟩
  ·exact .inl k
  ·exact .inr (.inl k)
  ·exact .inr (.inr (.inr (.inr (.inr n))))
  ·exact .inr (.inr (.inl k))
  ·exact .inr (.inr (.inr (.inr (.inr n))))
  ·rcases k with k|k
   ·exact .inr (.inr (.inr (.inl k)))
   ·exact .inr (.inr (.inr (.inr (.inl k))))
  ·exact .inr (.inr (.inr (.inr (.inr n))))
  ·exact .inr (.inr (.inr (.inr (.inr n))))
theorem strip_nmN (e:Exp):nmN e→nmN (stripM e):=by
 induction e using Exp.ind with
 | h e ih =>
  intro h
  obtain ⟨h1,h2,h3,h4,h5,h6,h7,h8⟩:=strip_parts e
  rw [nmN_eq]
  refine ⟨by unfold nmN1;rw [h1,h2];exact h.one,fun y hy => ?_⟩
  rw [h7] at hy
  obtain ⟨x,hx,rfl⟩:=List.mem_map.1 hy
  exact ih x hx (h.child hx)
theorem canon_nmN (taken:List Str)(e:Exp):∀ old names,e.wf→nmN e→nmN (canonM taken e old names):=by
 induction e using Exp.ind with
 | h e ih =>
  intro old names hw h
  by_cases hk:e.kind=1
  ·rw [canonM_var hk]
   split
   ·rw [nmN_eq]
    exact ⟨.inl hk,fun x hx=>h.child hx⟩
   ·exact h
  ·obtain ⟨p1,p2,_⟩:=canon_parts (taken:=taken) (old:=old) (names:=names) hk hw.one
   rw [nmN_eq]
   refine ⟨?_,fun y hy => ?_⟩
   ·rw [canonM_no hk]
    unfold nmN1
    rw [kind_mk,name_mk]
    rcases h.one with h|h|h|h|h|h
    ·exact .inl h
    ·exact .inr (.inl h)
    ·exact .inr (.inr (.inl h))
    ·exact .inr (.inr (.inr (.inl h)))
    ·exact .inr (.inr (.inr (.inr (.inl h))))
    ·by_cases c:e.kind=4∨e.kind=6∨e.kind=7
     ·omega
     ·rw [if_neg c,h]
      exact .inr (.inr (.inr (.inr (.inr rfl))))
   ·rw [p2] at hy
    obtain ⟨i,hi⟩:=List.mem_iff_getElem?.1 hy
    have hlt:i<e.children.length:=by
     rcases Nat.lt_or_ge i (canonC taken e old names).length with h2|h2
     ·rwa [canonC_len,←e.children_len] at h2
     ·rw [List.getElem?_eq_none h2] at hi;cases hi
    obtain ⟨x,hx⟩:=get_of_lt hlt
    rw [canonC_get hx] at hi
    cases hi
    exact ih x (List.mem_of_getElem? hx) _ _ (hw.child (List.mem_of_getElem? hx)) (h.child (List.mem_of_getElem? hx))
theorem canonT_nmN {e:Exp}(taken:List Str)(hw:e.wf)(h:nmN e):nmN (canonT e taken):=canon_nmN _ _ _ _ (strip_wf e hw) (strip_nmN e h)
theorem canon_arm_get {taken:List Str}{e:Exp}{old names:List Str}{i:Nat}{p:ArmH × Exp}(hk:e.kind≠1)(hp:(canonM taken e old names).arms[i]?=some p) :
 ∃ q,e.arms[i]?=some q∧p.1.con=q.1.con∧p.1.vars=news taken old.length q.1.vars.length:=by
 rw [canonM_no hk,arms_mk,List.getElem?_zipWith] at hp
 cases ha:e.arms[i]? with
 | none=>rw [ha] at hp;simp at hp
 | some q =>
  rw [ha] at hp
  cases hc:((canonC taken e old names).drop e.kids.length)[i]? with
  | none=>rw [hc] at hp;simp at hp
  | some c =>
   rw [hc] at hp
   simp only [Option.some.injEq] at hp
   subst hp
   exact ⟨q,rfl,rfl,rfl⟩
theorem canon_same {t t':List Str}(ht:∀ s,s∈t↔s∈t')(a:Exp):∀ b l r N,shp a→shp b→nmN a→nmN b→alphaP a b l r→l.length=r.length→sameP (canonM t a l N) (canonM t' b r N):=by
 induction a using Exp.ind with
 | h a ih =>
  intro b l r N ha hb na nb h hlr
  have h0:=h
  rw [alphaP_eq] at h
  obtain ⟨h1,h2,h3,h4⟩:=h
  by_cases hk:a.kind=1
  ·have hkb:b.kind=1:=h1.1.symm.trans hk
   obtain ⟨g1,g2⟩:=h2 hk
   obtain ⟨a1,a2,a3⟩:=var_parts ha.one.1 hk
   obtain ⟨b1,b2,b3⟩:=var_parts hb.one.1 hkb
   rw [canonM_var hk,canonM_var hkb,←g1]
   by_cases hp:0≤rlast l a.name
   ·rw [if_pos hp,if_pos hp,sameP_eq]
    refine ⟨h1.1,rfl,h1.2.1,h1.2.2.1,h1.2.2.2.1,h1.2.2.2.2,fun i p q hp hq => ?_,fun i x y hx hy => ?_⟩
    ·simp [arms_mk,a2] at hp
    ·simp [children_mk,a1,a2] at hx
   ·rw [if_neg hp,if_neg hp,sameP_eq]
    refine ⟨h1.1,g2.resolve_left hp,h1.2.1,h1.2.2.1,h1.2.2.2.1,h1.2.2.2.2,fun i p q hp hq => ?_,fun i x y hx hy => ?_⟩
    ·simp [a2] at hp
    ·simp [a3] at hx
  ·have hkb:b.kind≠1:=h1.1▸hk
   obtain ⟨p1,p2,p3,p4,p5⟩:=canon_parts (taken:=t) (old:=l) (names:=N) hk ha.one.1
   obtain ⟨q1,q2,q3,q4,q5⟩:=canon_parts (taken:=t') (old:=r) (names:=N) hkb hb.one.1
   have harms:armsEq a b:=by
    by_cases k2:a.kind=2
    ·intro i p q hp _
     rw [ha.one.1.2.1 (by rw [k2];decide)] at hp
     simp at hp
    ·exact (h4 hk k2).1
   rw [sameP_eq]
   refine ⟨?_,?_,?_,?_,?_,?_,fun i p q hp hq => ?_,fun i x y hx hy => ?_⟩
   ·rw [←p1.1,←q1.1,h1.1]
   ·rw [canonM_no hk,canonM_no hkb,name_mk,name_mk]
    by_cases c:a.kind=4∨a.kind=6∨a.kind=7
    ·rw [if_pos c,if_pos (h1.1▸c),hlr,freshS_congr ht]
    ·rw [if_neg c,if_neg (h1.1▸c)]
     by_cases k2:a.kind=2
     ·exact h3 k2
     ·have e1:a.name=[]:=by
       rcases na.one with h|h|h|h|h|h
       ·exact absurd h hk
       ·exact absurd h k2
       ·exact absurd (.inl h) c
       ·exact absurd (.inr (.inl h)) c
       ·exact absurd (.inr (.inr h)) c
       ·exact h
      have e2:b.name=[]:=by
       have kb:=h1.1
       rcases nb.one with h|h|h|h|h|h
       ·exact absurd h hkb
       ·exact absurd (kb.trans h) k2
       ·exact absurd (.inl (kb.trans h)) c
       ·exact absurd (.inr (.inl (kb.trans h))) c
       ·exact absurd (.inr (.inr (kb.trans h))) c
       ·exact h
      rw [e1,e2]
   ·rw [←p1.2.1,←q1.2.1,h1.2.1]
   ·rw [←p1.2.2.1,←q1.2.2.1,h1.2.2.1]
   ·rw [←p1.2.2.2.1,←q1.2.2.2.1,h1.2.2.2.1]
   ·rw [←p1.2.2.2.2,←q1.2.2.2.2,h1.2.2.2.2]
   ·obtain ⟨u,hu,u1,u2⟩:=canon_arm_get hk hp
    obtain ⟨w,hw,w1,w2⟩:=canon_arm_get hkb hq
    obtain ⟨z1,z2⟩:=harms i u w hu hw
    exact ⟨u1.trans (z1.trans w1.symm),by rw [u2,w2,z2,hlr,news_congr ht]⟩
   ·rw [p2] at hx
    rw [q2] at hy
    have hlt:i<a.children.length:=by
     rcases Nat.lt_or_ge i (canonC t a l N).length with h2|h2
     ·rwa [canonC_len,←a.children_len] at h2
     ·rw [List.getElem?_eq_none h2] at hx;cases hx
    obtain ⟨u,hu⟩:=get_of_lt hlt
    obtain ⟨w,hw⟩:=get_of_lt (l:=b.children) (i:=i) (by rw [←h1.children];exact hlt)
    rw [canonC_get hu] at hx
    rw [canonC_get hw] at hy
    cases hx
    cases hy
    have mu:=List.mem_of_getElem? hu
    have mw:=List.mem_of_getElem? hw
    have hbl:=bound_len h1 harms i
    have k2:a.kind≠2:=fun k2=>by rw [con_children ha.one k2] at hu;simp at hu
    have hn:news t l.length (a.bound i).length=news t' r.length (b.bound i).length:=by rw [hlr,hbl,news_congr ht]
    rw [hn]
    exact ih u mu w _ _ _ (ha.child mu) (hb.child mw) (na.child mu) (nb.child mw) ((h4 hk k2).2 i u w hu hw) (by rw [List.length_append,List.length_append,hlr,hbl])
theorem strip_alpha (e:Exp)(l:List Str):alphaP e (stripM e) l l:=alphaP_strip e (stripM e) l l (alphaP_refl (stripM e) l)
theorem strip_alpha2 {a b:Exp}(h:alphaP a b [] []):alphaP (stripM a) (stripM b) [] [] :=
 alphaP_trans _ _ _ _ _ _ (alphaP_symm _ _ _ _ (strip_alpha a [])) (alphaP_trans _ _ _ _ _ _ h (strip_alpha b []))
theorem canonT_same {a b:Exp}(taken:List Str)(ha:shp a)(hb:shp b)(na:nmN a)(nb:nmN b)(h:alphaP a b [] []):sameP (canonT a taken) (canonT b taken) :=
 canon_same (fun s=>by simp only [List.mem_append,alpha_free0 ha hb h s]) _ _ _ _ _ (strip_shp a ha) (strip_shp b hb) (strip_nmN a na) (strip_nmN b nb) (strip_alpha2 h) rfl
theorem canonT_iff {a b:Exp}(taken:List Str)(ha:shp a)(hb:shp b)(na:nmN a)(nb:nmN b):sameP (canonT a taken) (canonT b taken)↔alphaP a b [] []:=by
 refine ⟨fun h => ?_,canonT_same taken ha hb na nb⟩
 exact alphaP_trans _ _ _ _ _ _ (canonT_alpha a taken ha.wf) (alphaP_trans _ _ _ _ _ _ (sameP_alpha _ _ _ h) (alphaP_symm _ _ _ _ (canonT_alpha b taken hb.wf)))
variable {A:Oracle}
theorem words85 (l m:List Str)(h:l.length≤4294967296):(K A).call 85 [strsV l,strsV m] []=some (boolV (decide (l=m)),[]):=by
 refine fn_of (vf:=v85) (by kernel_rfl) rfl (by decide) ?_
 unfold v85
 by_cases hl:l.length=m.length
 ·have hp:=differ_le l m
  simp (disch:=first|omega|(simp;done)|(simp;omega)) [hl]
  refine wp_loop (fun i=>⟨[(0,strsV l),(1,strsV m),(5,intV i)],[]⟩) (differ l m) ?_ ?_ ?_
  ·simp
  ·intro i hi
   obtain ⟨x,hx,hy⟩:=differ_lt hi
   have hlt:i<m.length:=by omega
   unfold l85_0
   simp (disch:=first|omega|(simp;done)|(simp;omega)) [hx,hy,hlt,hl,-getElem?_pos]
  ·unfold l85_0
   by_cases hm:differ l m<l.length
   ·obtain ⟨x,y,hx,hy,hxy⟩:=differ_at hl hm
    have hne:l≠m:=fun h=>by rw [←differ_eq hl] at h;omega
    have hm':differ l m<m.length:=by omega
    simp (disch:=first|omega|(simp;done)|(simp;omega)) [hx,hy,hm',hl,hxy,hne,-getElem?_pos]
   ·have he:l=m:=(differ_eq hl).1 (by omega)
    subst he
    simp (disch:=first|omega|(simp;done)|(simp;omega)) [hm,-getElem?_pos]
 ·have hne:l≠m:=fun h=>hl (by rw [h])
  have hl':¬(l.length:Int)=m.length:=by omega
  simp (disch:=first|omega|(simp;done)|(simp;omega)) [hl',hne,hl]
theorem equalAll86 (l m:List Exp)(hl:l.length≤1073741824)(ih:∀ x∈l,∀ y∈m,∃ r,IffB (sameP x y) r∧(K A).call 35 [expV x,expV y] []=some r) :
 ∃ r,IffB (allR sameP l m) r∧(K A).call 86 [exsV l,exsV m] []=some r:=by
 refine fn_ofE _ (vf:=v86) (by kernel_rfl) rfl (by simp) ?_
 unfold v86
 by_cases hn:l.length=m.length
 ·simp (disch:=first|omega|(simp;done)|(simp;omega)) [hn]
  refine wp_loopI (fun i s=>(∀ (j:Nat) x y,j<i→l[j]?=some x→m[j]?=some y→sameP x y)∧s=⟨[(0,exsV l),(1,exsV m),(5,intV i)],[]⟩) l.length ⟨by omega,by simp⟩ ?_ ?_
  ·rintro i s hi ⟨hs,rfl⟩
   obtain ⟨x,hx⟩:=get_of_lt hi
   obtain ⟨y,hy⟩:=get_of_lt (l:=m) (i:=i) (by omega)
   obtain ⟨_,⟨b,hb,rfl⟩,hc⟩:=ih x (List.mem_of_getElem? hx) y (List.mem_of_getElem? hy)
   unfold l86_0
   cases b with
   | true =>
    have hxy:=hb.1 rfl
    simp (disch:=first|omega|(simp;done)|(simp;omega)) [hi,hx,hy,hc,-getElem?_pos]
    intro j x' y' hj hx' hy'
    by_cases hji:j=i
    ·subst hji
     rw [hx] at hx'
     rw [hy] at hy'
     cases hx'
     cases hy'
     exact hxy
    ·exact hs j x' y' (by omega) hx' hy'
   | false =>
    simp (disch:=first|omega|(simp;done)|(simp;omega)) [hi,hx,hy,hc,-getElem?_pos]
    exact IffB.no fun h=>by have:=hb.2 (h.2 i x y hx hy);cases this
  ·rintro s ⟨hs,rfl⟩
   unfold l86_0
   simp (disch:=first|omega|(simp;done)|(simp;omega))
   exact IffB.yes ⟨hn,fun i x y hx hy=>hs i x y (List.getElem?_eq_some_iff.1 hx).1 hx hy⟩
 ·have hn':¬(l.length:Int)=m.length:=by omega
  simp (disch:=first|omega|(simp;done)|(simp;omega)) [hn,hn']
  exact IffB.no fun h=>hn h.1
theorem equal35 (a:Exp):∀ b,tyBd a→a.weight≤1073741824→b.weight≤1073741824→∃ r,IffB (sameP a b) r∧(K A).call 35 [expV a,expV b] []=some r:=by
 induction a using Exp.ind with
 | h a ih =>
 intro b ht hw hwb
 have hal:=a.children_le
 have hbl:=b.children_le
 have hchA:=a.children_len
 have hchB:=b.children_len
 refine fn_ofE _ (vf:=v35) (by kernel_rfl) rfl (by simp) ?_
 obtain ⟨_,⟨t,h3,rfl⟩,hc3⟩:=teq85 (A:=A) 1073741824 a.ty b.ty ht.one (by omega)
 have hca:=children50 (A:=A) a (by omega)
 have hcb:=children50 (A:=A) b (by omega)
 obtain ⟨_,⟨vk,hK,rfl⟩,hck⟩:=equalAll86 (A:=A) a.children b.children (by omega) fun x hx y hy=>ih x hx y (ht.child hx) (by have:=Exp.child_lt hx;omega) (by have:=Exp.child_lt hy;omega)
 unfold v35
 by_cases q1:a.kind=b.kind
 case neg =>
  simp (disch:=first|omega|(simp;done)|(simp;omega)) [q1]
  exact IffB.no fun h=>by rw [sameP_eq] at h;exact q1 h.1
 by_cases q2:a.name=b.name
 case neg =>
  simp (disch:=first|omega|(simp;done)|(simp;omega)) [q1,q2]
  exact IffB.no fun h=>by rw [sameP_eq] at h;exact q2 h.2.1
 by_cases q3:a.num=b.num
 case neg =>
  simp (disch:=first|omega|(simp;done)|(simp;omega)) [q1,q2,q3]
  exact IffB.no fun h=>by rw [sameP_eq] at h;exact q3 h.2.2.1
 cases t with
 | false =>
  simp (disch:=first|omega|(simp;done)|(simp;omega)) [q1,q2,q3,hc3]
  exact IffB.no fun h=>by rw [sameP_eq] at h;have:=h3.2 h.2.2.2.1;cases this
 | true =>
 have q4:=h3.1 rfl
 by_cases q5:a.kids.length=b.kids.length
 case neg =>
  have q5':¬(a.kids.length:Int)=b.kids.length:=by omega
  simp (disch:=first|omega|(simp;done)|(simp;omega)) [q1,q2,q3,hc3,q5,q5']
  exact IffB.no fun h=>by rw [sameP_eq] at h;exact q5 h.2.2.2.2.1
 by_cases q6:a.arms.length=b.arms.length
 case neg =>
  have q6':¬(a.arms.length:Int)=b.arms.length:=by omega
  simp (disch:=first|omega|(simp;done)|(simp;omega)) [q1,q2,q3,hc3,q5,q6,q6']
  exact IffB.no fun h=>by rw [sameP_eq] at h;exact q6 h.2.2.2.2.2.1
 have hrest:(∀ (i:Nat) p q,a.arms[i]?=some p→b.arms[i]?=some q→p.1.con=q.1.con∧p.1.vars=q.1.vars)→IffB (sameP a b) (boolV vk,[]):=by
  intro harms
  refine ⟨vk,hK.trans ?_,rfl⟩
  rw [sameP_eq]
  exact ⟨fun h=>⟨q1,q2,q3,q4,q5,q6,harms,h.2⟩,fun h=>⟨by omega,h.2.2.2.2.2.2.2⟩⟩
 have hbad:∀ (i:Nat) p q,a.arms[i]?=some p→b.arms[i]?=some q→¬(p.1.con=q.1.con∧p.1.vars=q.1.vars)→IffB (sameP a b) (boolV false,[]):=by
  intro i p q hp hq h
  exact IffB.no fun h'=>by rw [sameP_eq] at h';exact h (h'.2.2.2.2.2.2.1 i p q hp hq)
 generalize sameP a b=P at hrest hbad ⊢
 clear ih hK ht
 simp (disch:=first|omega|(simp;done)|(simp;omega)) [q1,q2,q3,hc3,q5,q6]
 refine wp_loopI (fun i s=>(∀ (j:Nat) p q,j<i→a.arms[j]?=some p→b.arms[j]?=some q→p.1.con=q.1.con∧p.1.vars=q.1.vars)∧s=⟨[(2,.sc (.ptr 64 0)),(3,.sc (.ptr 128 0)),(5,intV i)],[(64,some (.box (wc a.row))),(128,some (.box (wc b.row)))]⟩) a.arms.length ⟨by omega,by simp⟩ ?_ ?_
 ·rintro i s hi ⟨hs,rfl⟩
  obtain ⟨p,hp⟩:=get_of_lt hi
  obtain ⟨q,hq⟩:=get_of_lt (l:=b.arms) (i:=i) (by omega)
  have hv:=Exp.vars_le (List.mem_of_getElem? hp)
  have hc:=words85 (A:=A) p.1.vars q.1.vars (by omega)
  have hib:i<b.arms.length:=by omega
  have bad:=hbad i p q hp hq
  have hiI:(i:Int)<b.arms.length:=by omega
  unfold l35_0
  by_cases c1:p.1.con=q.1.con
  ·by_cases c2:p.1.vars=q.1.vars
   ·rw [c2] at hc
    simp (maxSteps:=4000000) (disch:=first|omega|(simp;done)|(simp;omega)) [hi,hib,hiI,hp,hq,hc,c1,c2,q6,-getElem?_pos]
    intro j x1 x2 y1 y2 hj hx' hy'
    by_cases hji:j=i
    ·subst hji
     rw [hp] at hx'
     rw [hq] at hy'
     cases hx'
     cases hy'
     exact ⟨c1,c2⟩
    ·exact hs j _ _ (by omega) hx' hy'
   ·simp (maxSteps:=4000000) (disch:=first|omega|(simp;done)|(simp;omega)) [hi,hib,hiI,hp,hq,hc,c1,c2,q6,-getElem?_pos]
    exact bad fun h=>c2 h.2
  ·simp (maxSteps:=4000000) (disch:=first|omega|(simp;done)|(simp;omega)) [hi,hib,hiI,hp,hq,hc,c1,q6,-getElem?_pos]
   exact bad fun h=>c1 h.1
 ·rintro s ⟨hs,rfl⟩
  have yes:=hrest fun i p q hp hq=>hs i p q (List.getElem?_eq_some_iff.1 hp).1 hp hq
  unfold l35_0
  simp (maxSteps:=4000000) (disch:=first|omega|(simp;done)|(simp;omega)) [hca,hcb,hck,q6,-getElem?_pos]
  exact yes
variable {A:Oracle}
theorem strip94 (e:Exp):e.wf→e.weight≤1073741824→(K A).call 94 [expV e] []=some (expV (stripM e),[]):=by
 induction e using Exp.ind with
 | h e ih =>
 intro hwf hl
 refine fn_of (vf:=v94) (by kernel_rfl) rfl (by simp) ?_
 have hle:=e.children_le
 rw [e.children_len] at hle
 have hml:(e.children.map stripM).length=e.children.length:=by simp
 have hw:=with146 (A:=A) e (e.children.map stripM) (by rw [hml,e.children_len]) hl
 have hal:(armsW e.arms ((e.children.map stripM).drop e.kids.length)).length=e.arms.length:=by rw [armsW_len,List.length_drop,hml,e.children_len];omega
 rw [strip_kids] at hw
 have hks:(stripM e).kids.length=e.kids.length:=(strip_parts e).2.2.2.2.1
 have has:(stripM e).arms.length=e.arms.length:=(strip_parts e).2.2.2.2.2.1
 have hsa:=strip_arms e
 generalize armsW e.arms ((e.children.map stripM).drop e.kids.length)=ws at *
 have hpl:(armsP ws).length=ws.length:=armsP_len ws
 by_cases hkids:e.kids=[]
 ·have harms:e.arms=[]:=Classical.byContradiction fun h=>by
   have h8:e.kind=8:=Classical.byContradiction fun h8=>h (hwf.one.2.1 h8)
   have:=hwf.one.1 h8
   rw [hkids] at this
   simp at this
  have hc:=children51_leaf (A:=A) e hkids harms
  have hch:e.children=[]:=by simp [Exp.children,hkids,harms]
  rw [hch] at hw
  simp only [List.map_nil,exsV,rows0] at hw
  unfold v94
  simp (maxSteps:=4000000) (disch:=first|omega|(simp;done)|(simp;omega)) [hc,-getElem?_pos]
  refine wp_loop (fun i=>⟨[(1,.sc (.ptr 64 0)),(2,.sc (.ptr 128 0)),(3,.sc (.full [])),(9,.sc (.full [])),(10,intV 0),(11,intV i)],[(64,some (.box (wc e.row))),(128,some zbox2)]⟩) 0 (by simp) (fun i hi=>by omega) ?_
  unfold l94_0
  simp (maxSteps:=4000000) (disch:=first|omega|(simp;done)|(simp;omega)) [hw,hal,-getElem?_pos]
  refine wp_loop (fun i=>⟨[(1,.sc (.ptr 64 0)),(2,.sc (.ptr 128 0)),(28,intV e.arms.length),(29,intV i)],
   [(64,some (.box [.c (.int .i64 e.kind),zi,.c (.str e.name),.c (.int .i64 e.num),.arr 1696 e.kids.length,.arr 1697 e.arms.length,.c (.int .i64 e.ty.kind),.c (.str e.ty.name),.c (.int .i64 e.ty.id),.c (.int .i64 e.ty.home),.c (.sl (Ty.rows e.ty.args))])),(128,some zbox2),(1696,some (.arr 11 (wr (Exp.rows (stripM e).kids)) 0)),(1697,some (.arr 14 (wr (Exp.armRows ((armsP ws).take i++ws.drop i))) 0))]⟩) e.arms.length ?_ ?_ ?_
  ·simp
  ·intro i hi
   obtain ⟨a,ha⟩:=get_of_lt (l:=ws) (i:=i) (by omega)
   have hz:(armsP ws)[i]?=some ((⟨0,a.1.con,a.1.vars⟩:ArmH),a.2):=by
    unfold armsP
    rw [List.getElem?_map,ha]
    rfl
   have hg:=get_step (i:=i) hpl (by omega)
   rw [ha] at hg
   have hs:=set_step hpl hz
   have hln:=len_step (i:=i) hpl
   rw [←hs]
   generalize (armsP ws).take i++ws.drop i=zz at hg hln ⊢
   have hset:=armrows_set zz i ((⟨0,a.1.con,a.1.vars⟩:ArmH),a.2)
   have hsp:=pos_splice a
   have hln2:zz.length=e.arms.length:=by omega
   unfold l94_1
   simp (maxSteps:=4000000) (disch:=first|omega|(simp;done)|(simp;omega)) [hi,hg,hln2,hsp,hset,blt_dec,-getElem?_pos]
  ·have ht:(armsP ws).take e.arms.length++ws.drop e.arms.length=(stripM e).arms:=by
    rw [←hal,List.drop_length,List.append_nil,List.take_of_length_le (by omega),hsa]
   rw [ht]
   have hsr:=strip_row e
   unfold l94_1
   simp (maxSteps:=4000000) (disch:=first|omega|(simp;done)|(simp;omega)) [hsr,hks,has,-getElem?_pos]
 ·have hc:=children51 (A:=A) e hkids hl
  rw [e.children_len] at hc
  unfold v94
  simp (maxSteps:=4000000) (disch:=first|omega|(simp;done)|(simp;omega)) [hc,-getElem?_pos]
  refine wp_loop (fun i=>⟨[(1,.sc (.ptr 64 0)),(2,.sc (.ptr 128 0)),(3,.sc (.arr 288 (e.kids.length+e.arms.length))),(9,.sc (.arr 288 (e.kids.length+e.arms.length))),(10,intV ((e.kids.length:Int)+e.arms.length)),(11,intV i)],
   [(64,some (.box (wc e.row))),(128,some zbox2),(288,some (.arr 11 (wr (Exp.rows ((e.children.map stripM).take i++e.children.drop i))) 0))]⟩) (e.kids.length+e.arms.length) ?_ ?_ ?_
  ·simp
  ·intro i hi
   obtain ⟨x,hx⟩:=get_of_lt (l:=e.children) (i:=i) (by rw [e.children_len];exact hi)
   have hmem:=List.mem_of_getElem? hx
   have hrec:=ih x hmem (hwf.child hmem) (by have:=Exp.child_lt hmem;omega)
   have hz:(e.children.map stripM)[i]?=some (stripM x):=by simp [hx]
   have hg:=get_step (i:=i) hml (by rw [e.children_len];exact hi)
   rw [hx] at hg
   have hs:=set_step hml hz
   have hln:=len_step (i:=i) hml
   rw [←hs]
   generalize (e.children.map stripM).take i++e.children.drop i=zz at hg hln ⊢
   have hset:=rows_set zz i (stripM x)
   have hi':(i:Int)<(e.kids.length:Int)+e.arms.length:=by omega
   rw [e.children_len] at hln
   unfold l94_0
   simp (maxSteps:=4000000) (disch:=first|omega|(simp;done)|(simp;omega)) [hi,hi',hg,hln,hrec,hset,blt_dec,-getElem?_pos]
  ·have ht:(e.children.map stripM).take (e.kids.length+e.arms.length)++e.children.drop (e.kids.length+e.arms.length)=e.children.map stripM:=by
    rw [List.drop_of_length_le (by simp),List.append_nil,List.take_of_length_le (by simp)]
   rw [ht]
   unfold l94_0
   simp (maxSteps:=4000000) (disch:=first|omega|(simp;done)|(simp;omega)) [hw,hml,hal,-getElem?_pos]
   refine wp_loop (fun i=>⟨[(1,.sc (.ptr 64 0)),(2,.sc (.ptr 128 0)),(28,intV e.arms.length),(29,intV i)],
    [(64,some (.box [.c (.int .i64 e.kind),zi,.c (.str e.name),.c (.int .i64 e.num),.arr 1696 e.kids.length,.arr 1697 e.arms.length,.c (.int .i64 e.ty.kind),.c (.str e.ty.name),.c (.int .i64 e.ty.id),.c (.int .i64 e.ty.home),.c (.sl (Ty.rows e.ty.args))])),(128,some zbox2),(288,some (.arr 11 (wr (Exp.rows (e.children.map stripM))) (e.kids.length+e.arms.length))),(1696,some (.arr 11 (wr (Exp.rows (stripM e).kids)) 0)),(1697,some (.arr 14 (wr (Exp.armRows ((armsP ws).take i++ws.drop i))) 0))]⟩) e.arms.length ?_ ?_ ?_
   ·simp
   ·intro i hi
    obtain ⟨a,ha⟩:=get_of_lt (l:=ws) (i:=i) (by omega)
    have hz:(armsP ws)[i]?=some ((⟨0,a.1.con,a.1.vars⟩:ArmH),a.2):=by
     unfold armsP
     rw [List.getElem?_map,ha]
     rfl
    have hg:=get_step (i:=i) hpl (by omega)
    rw [ha] at hg
    have hs:=set_step hpl hz
    have hln:=len_step (i:=i) hpl
    rw [←hs]
    generalize (armsP ws).take i++ws.drop i=zz at hg hln ⊢
    have hset:=armrows_set zz i ((⟨0,a.1.con,a.1.vars⟩:ArmH),a.2)
    have hsp:=pos_splice a
    have hln2:zz.length=e.arms.length:=by omega
    unfold l94_1
    simp (maxSteps:=4000000) (disch:=first|omega|(simp;done)|(simp;omega)) [hi,hg,hln2,hsp,hset,blt_dec,-getElem?_pos]
   ·have ht:(armsP ws).take e.arms.length++ws.drop e.arms.length=(stripM e).arms:=by
     rw [←hal,List.drop_length,List.append_nil,List.take_of_length_le (by omega),hsa]
    rw [ht]
    have hsr:=strip_row e
    unfold l94_1
    simp (maxSteps:=4000000) (disch:=first|omega|(simp;done)|(simp;omega)) [hsr,hks,has,-getElem?_pos]
end Go.Vs.Tryz
