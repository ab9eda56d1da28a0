/- Chapter 11's substitution, walked; what is known of raw expressions' names. (Parts of one proof, put together.) -/
import Derived.Test.YtlcncicmkkelcaaGreatDoorRJb
import Derived.Test.YtlcncicmkkelcaaGreatDoorREb
import Derived.Test.YtlcncicmkkelcaaGreatDoorR4b
import Derived.Test.YtlcncicmkkelcaaGreatDoorRIb
import Derived.Test.YtlcncicmkkelcaaGreatDoorX0b
set_option linter.unusedSimpArgs false
set_option linter.unusedVariables false
set_option linter.deprecated false
set_option maxHeartbeats 32000000
namespace Go.Vs.Tryz
open Go Go.Vs
variable {A:Zac}
theorem Zm7 (e:Exp)(x:Str)(b:Exp)(hb:shp b)(hbw:b.weight≤16777216)(hbn:nmL b)(hxl:x.length≤1000)(hl:e.weight≤16777216)(hs:shp e)(hp:properP e)(hn:nmL e) :
 (K A).call 31 [expV e,strV x,expV b] []=some (expV (subP e x b),[]):=by
 refine Zan (vf:=v31) (by kernel_rfl) rfl (by simp) ?_
 have hfl:=ZbY b
 have h1:=ZnC (A:=A) x b hb (by omega) (fun s hs=>hbn s (Zgy b s hs)) hxl e.weight e (Nat.le_refl _) hl hs hp hn
 have h2:=Zrc (A:=A) b hb.wf (by omega)
 have hrb:=ZaU b
 simp only [expV,hrb] at h2
 unfold v31 subP
 simp (maxSteps:=4000000) (disch:=first|omega|(simp;done)|(simp;omega)) [hrb,h2,h1,-getElem?_pos]
def ImpB (P:Prop)(r:V × List Obj):Prop:=∃ v:Bool,(v=true→P)∧r=(Zah v,[])
theorem ZjF (e:Exp):e.weight≤1073741824→∃ r,ImpB (properP e) r∧(K A).call 21 [expV e] []=some r:=by
 induction e using Exp.ind with
 | h e ih =>
 intro hl
 refine ZcI _ (vf:=v21) (by kernel_rfl) rfl (by simp) ?_
 have hle:=e.children_le
 rw [e.children_len] at hle
 have hc:=ZcE (A:=A) e (by omega)
 have no:ImpB (properP e) (Zah false,[]):=⟨false,(by simp),rfl⟩
 have yes:(∀ a∈e.arms,inj a.1.vars)→(∀ x∈e.children,properP x)→ImpB (properP e) (Zah true,[]):=fun h1 h2=>⟨true,fun _=>by rw [Zdc];exact ⟨h1,h2⟩,rfl⟩
 generalize properP e=P at no yes ⊢
 unfold v21
 simp (disch:=first|omega|(simp;done)|(simp;omega))
 refine Zam (fun i s=>(∀ (j:Nat) a,j<i→e.arms[j]?=some a→inj a.1.vars)∧s=⟨[(1,.sc (.ptr 64 0)),(3,intV i)],[(64,some (.box (wc e.row)))]⟩) e.arms.length ⟨by omega,by simp⟩ ?_ ?_
 ·rintro i s hi ⟨hJ,rfl⟩
  obtain ⟨a,ha⟩:=Zaa hi
  have hv:=Exp.vars_le (List.mem_of_getElem? ha)
  unfold Ztt
  simp (disch:=first|omega|(simp;done)|(simp;omega)) [hi,ha,-getElem?_pos]
  refine Zam (fun k s=>(∀ (p q:Nat) u,q<k→p<q→a.1.vars[p]?=some u→a.1.vars[q]?=some u→False)∧s=⟨[(1,.sc (.ptr 64 0)),(3,intV i),(4,Za3 a.1.vars),(5,intV k)],[(64,some (.box (wc e.row)))]⟩) a.1.vars.length ⟨fun p q u h=>by omega,by simp⟩ ?_ ?_
  ·rintro k s hk ⟨hK,rfl⟩
   obtain ⟨x,hx⟩:=Zaa hk
   unfold Ztc
   simp (disch:=first|omega|(simp;done)|(simp;omega)) [hi,ha,hk,-getElem?_pos]
   refine Zam (fun j s=>(∀ (p:Nat),p<j→a.1.vars[p]?≠some x)∧s=⟨[(1,.sc (.ptr 64 0)),(3,intV i),(4,Za3 a.1.vars),(5,intV k),(6,intV j)],[(64,some (.box (wc e.row)))]⟩) k ⟨fun p h=>by omega,by simp⟩ ?_ ?_
   ·rintro j s hj ⟨hQ,rfl⟩
    obtain ⟨y,hy⟩:=Zaa (l:=a.1.vars) (i:=j) (by omega)
    unfold Zr3
    by_cases hxy:y=x
    ·simp (disch:=first|omega|(simp;done)|(simp;omega)) [hj,hx,hy,hxy,-getElem?_pos]
     exact no
    ·have hQ':∀ (p:Nat),p<j+1→a.1.vars[p]?≠some x:=by
      intro p hp
      rcases Nat.lt_or_eq_of_le (Nat.le_of_lt_succ hp) with h|rfl
      ·exact hQ p h
      ·rw [hy]
       exact fun q=>hxy (Option.some.inj q)
     simp (disch:=first|omega|(simp;done)|(simp;omega)) [hj,hx,hy,hxy,-getElem?_pos]
     simpa using hQ'
   ·rintro s ⟨hQ,rfl⟩
    have hK':∀ (p q:Nat) u,q<k+1→p<q→a.1.vars[p]?=some u→a.1.vars[q]?=some u→False:=by
     intro p q u hq hpq h1 h2
     rcases Nat.lt_or_eq_of_le (Nat.le_of_lt_succ hq) with h|rfl
     ·exact hK p q u h hpq h1 h2
     ·rw [hx] at h2
      cases h2
      exact hQ p hpq h1
    unfold Zr3
    simp (disch:=first|omega|(simp;done)|(simp;omega))
    exact hK'
  ·rintro s ⟨hK,rfl⟩
   have hJ':∀ (j:Nat) b,j<i+1→e.arms[j]?=some b→inj b.1.vars:=by
    intro j b hj hb
    rcases Nat.lt_or_eq_of_le (Nat.le_of_lt_succ hj) with h|rfl
    ·exact hJ j b h hb
    ·rw [ha] at hb
     cases hb
     intro p q u hp hq
     rcases Nat.lt_trichotomy p q with h|h|h
     ·exact (hK p q u (List.getElem?_eq_some_iff.1 hq).1 h hp hq).elim
     ·exact h
     ·exact (hK q p u (List.getElem?_eq_some_iff.1 hp).1 h hq hp).elim
   unfold Ztc
   simp (disch:=first|omega|(simp;done)|(simp;omega))
   intro j b1 b2 hj hb
   exact hJ' j (b1,b2) hj hb
 ·rintro s ⟨hJ,rfl⟩
  have hA:∀ a∈e.arms,inj a.1.vars:=fun a ha=>by
   obtain ⟨j,hj⟩:=List.mem_iff_getElem?.1 ha
   exact hJ j a (List.getElem?_eq_some_iff.1 hj).1 hj
  unfold Ztt
  simp (disch:=first|omega|(simp;done)|(simp;omega)) [hc]
  refine Zam (fun i s=>(∀ (j:Nat) x,j<i→e.children[j]?=some x→properP x)∧s=⟨[(7,.sc (.arr 2912 e.children.length)),(8,intV i)],[(2912,some (.arr 11 (wr (Exp.rows e.children)) 0))]⟩) e.children.length ⟨by omega,by simp⟩ ?_ ?_
  ·rintro i s hi ⟨hX,rfl⟩
   obtain ⟨x,hx⟩:=Zaa hi
   have hmem:=List.mem_of_getElem? hx
   obtain ⟨_,⟨b,hb,rfl⟩,h17⟩:=ih x hmem (by have:=Exp.child_lt hmem;omega)
   rw [e.children_len] at hi
   have hi':(i:Int)<(e.kids.length:Int)+e.arms.length:=by omega
   unfold Zsn
   cases b with
   | true =>
    simp (disch:=first|omega|(simp;done)|(simp;omega)) [hi',hx,h17,-getElem?_pos]
    intro j y hj hy
    rcases Nat.lt_or_eq_of_le (Nat.le_of_lt_succ hj) with h|rfl
    ·exact hX j y h hy
    ·rw [hx] at hy
     cases hy
     exact hb rfl
   | false =>
    simp (disch:=first|omega|(simp;done)|(simp;omega)) [hi',hx,h17,-getElem?_pos]
    exact no
  ·rintro s ⟨hX,rfl⟩
   unfold Zsn
   simp (disch:=first|omega|(simp;done)|(simp;omega))
   exact yes hA fun x hx=>by
    obtain ⟨j,hj⟩:=List.mem_iff_getElem?.1 hx
    exact hX j x (List.getElem?_eq_some_iff.1 hj).1 hj
theorem rawE.nmL {ds:List DataD}(hc:ZeT ds){e:Exp}:rawE ds e→nmL e:=by
 have hcok:∀ s,cOk ds s→s.length≤1000:=by
  rintro s (rfl|⟨d,hd,c,hcc,rfl⟩)
  ·decide
  ·have:=(hc d hd c hcc).1
   omega
 induction e using Exp.ind with
 | h e ih =>
  intro h s hs
  rcases ZaA.1 hs with h1|⟨i,x,hx,h1⟩
  ·obtain ⟨_,_,_,_,_,hS⟩:=h.one
   rcases hS with ⟨_,n,_⟩|⟨_,n,_⟩|⟨_,n,_⟩|⟨_,n,_⟩|⟨_,n,_⟩|⟨_,n,_⟩|⟨_,n,_⟩|⟨_,n,_⟩
   ·have:=ZbP _ n;rw [h1];omega
   ·rw [h1];exact hcok _ n
   ·rw [h1,n];decide
   ·have:=ZbP _ n;rw [h1];omega
   ·rw [h1,n];decide
   ·have:=ZbP _ n;rw [h1];omega
   ·rw [h1,n];decide
   ·rw [h1,n];decide
  ·rcases h1 with h1|h1
   ·rw [ZaD] at h1
    split at h1
    ·rename_i hk
     obtain ⟨_,_,_,_,_,hS⟩:=h.one
     rw [List.mem_singleton] at h1
     have:e.name∈Za8:=by
      rcases hS with ⟨k,n,_⟩|⟨k,n,_⟩|⟨k,n,_⟩|⟨k,n,_⟩|⟨k,n,_⟩|⟨k,n,_⟩|⟨k,n,_⟩|⟨k,n,_⟩
      all_goals first | exact n | (exfalso;omega)
     have:=ZbP _ this
     rw [h1]
     omega
    ·split at h1
     ·cases ha:e.arms[i-1]? with
      | none=>rw [ha] at h1;simp at h1
      | some a =>
       rw [ha] at h1
       have:=ZbP _ ((h.one.2.1 a (List.mem_of_getElem? ha)).2.2.2 s h1)
       omega
     ·simp at h1
   ·exact ih x (List.mem_of_getElem? hx) (h.child (List.mem_of_getElem? hx)) s h1
variable {A:Zac}
theorem instR.tyBd (a:Exp):∀ (c:Exp) (V:Rep),instR a c V→tyBd a→(∀ s d,V s d→tyBd d)→tyBd c:=by
 induction a using Exp.ind with
 | h a ih =>
  intro c V h ht hv
  by_cases hk:a.kind=1
  ·exact hv _ _ (h.var hk)
  ·obtain ⟨h1,h2,h3,h4⟩:=h.node hk
   rw [ZdK]
   refine ⟨h1.2.2.1▸ht.one,fun y hy => ?_⟩
   obtain ⟨i,hi⟩:=List.mem_iff_getElem?.1 hy
   obtain ⟨x,hx⟩:=Zaa (l:=a.children) (i:=i) (by rw [h1.children];exact (List.getElem?_eq_some_iff.1 hi).1)
   refine ih x (List.mem_of_getElem? hx) y _ (h4 i x y hx hi) (ht.child (List.mem_of_getElem? hx)) fun s d hd => ?_
   rcases hd with ⟨_,t,_,_,hvv⟩|⟨_,q,_⟩
   ·obtain ⟨_,_,_,ty,ks,am⟩:=hvv
    rw [ZdK,ty]
    refine ⟨by decide,fun z hz => ?_⟩
    simp [Exp.children,ks,am] at hz
   ·exact hv s d q
theorem Zqd {x:Str}{e b:Exp}(hs:shp e)(hp:properP e)(ht:tyBd e)(hb:tyBd b)(hsb:shp b:=by assumption):tyBd (subP e x b):=by
 refine instR.tyBd e _ _ (Zk4 x b hsb e.weight e (Nat.le_refl _) hs hp) ht fun s d hd => ?_
 unfold subV at hd
 split at hd
 ·exact hd▸hb
 ·obtain ⟨_,_,_,ty,ks,am⟩:=hd
  rw [ZdK,ty]
  refine ⟨by decide,fun z hz => ?_⟩
  simp [Exp.children,ks,am] at hz
def Zog:List Str:=[[120],[121],[122],[102],[118,49]]
theorem Zl5:∀ s∈Zog,s.length≤2:=by decide
theorem rows5 {k:Nat}{s:Str}(h:Zog[k]?=some s):([[W.c (.str [120])],[W.c (.str [121])],[W.c (.str [122])],[W.c (.str [102])],[W.c (.str [118,49])]]:List (List W))[k]?=some [W.c (.str s)]:=by
 have hk:k<5:=(List.getElem?_eq_some_iff.1 h).1
 rcases (by omega:k=0∨k=1∨k=2∨k=3∨k=4) with rfl|rfl|rfl|rfl|rfl<;>(cases h;rfl)
variable {A:Zac}
theorem rawE.conV {ds:List DataD}(hc:ZeT ds){e:Exp}:rawE ds e→conV e:=by
 induction e using Exp.ind with
 | h e ih =>
  intro h
  rw [ZgQ]
  refine ⟨fun a ha k hk => ?_,fun x hx=>ih x hx (h.child hx)⟩
  rcases (h.one.2.1 a ha).2.1 with hG|⟨d,hd,c,hcc,hG⟩
  ·rw [hG] at hk
   simp [Za1] at hk
  ·obtain ⟨_,⟨ch,h1,h2,h3⟩,_⟩:=hc d hd c hcc
   rw [←hG,hk] at h1
   simp [Za1] at h1
   subst h1
   exact absurd h3 (by decide)
theorem Zn9 (s:Str)(hs:s.length≤1000):shp (varX s)∧nmL (varX s)∧tyBd (varX s):=by
 have hc:(varX s).children=[]:=rfl
 refine ⟨?_,fun u hu => ?_,?_⟩
 ·rw [ZfR,hc]
  exact ⟨⟨⟨fun h=>absurd (show (1:Int)=8 from h) (by decide),fun _=>rfl,fun _=>rfl⟩,fun _=>⟨rfl,rfl⟩,rfl⟩,fun x hx=>by simp at hx⟩
 ·rcases ZaA.1 hu with h|⟨i,x,hx,_⟩
  ·rw [h]
   exact hs
  ·rw [hc] at hx
   simp at hx
 ·rw [ZdK,hc]
  exact ⟨show tz.size≤1073741824 by decide,fun x hx=>by simp at hx⟩
theorem ZpW (e:Exp)(x to:Str)(hxl:x.length≤1000)(htl:to.length≤1000)(hl:e.weight≤16777216)(hs:shp e)(hp:properP e)(hn:nmL e):(K A).call 37 [expV e,strV x,strV to] []=some (expV (subP e x (varX to)),[]):=by
 refine Zan (vf:=v37) (by kernel_rfl) rfl (by simp) ?_
 obtain ⟨v1,v2,_⟩:=Zn9 to htl
 have h:=Zm7 (A:=A) e x (varX to) v1 (by rw [(ZiE to).2];omega) v2 hxl hl hs hp hn
 have hrow:=ZaU (subP e x (varX to))
 generalize subP e x (varX to)=r at *
 rw [Zk1] at h
 unfold v37
 simp (maxSteps:=4000000) (disch:=first|omega|(simp;done)|(simp;omega)) [h,hrow,-getElem?_pos]
theorem ZpF (e:Exp)(x to:Str)(hl:e.weight≤100000)(hs:shp e):(K A).call 38 [expV e,strV x,strV to] []=some (expV (refS e.weight e x (varX to)),[]):=by
 refine Zan (vf:=v38) (by kernel_rfl) rfl (by simp) ?_
 have h:=Zf8 (ZkB (A:=A) e.weight) e x to (Nat.le_refl _) hl hs
 have hrow:=ZaU (refS e.weight e x (varX to))
 generalize refS e.weight e x (varX to)=r at *
 unfold v38
 simp (maxSteps:=4000000) (disch:=first|omega|(simp;done)|(simp;omega)) [h,hrow,-getElem?_pos]
theorem ZhL (x:Str)(a b:Exp)(sa:shp a)(sb:shp b)(pa:properP a)(ca:conV a)(ta:tyBd a)(tb:tyBd b)(hw:a.weight*b.weight≤1073741824):(K A).call 35 [expV (subP a x b),expV (refS a.weight a x b)] []=some (Zah true,[]):=by
 have hS:=ZkU x b a.weight a a (ZfL a) (Nat.le_refl _) sa pa ca
 have w1:=Zhp x b a.weight a (Nat.le_refl _) sa pa
 have w2:=sameP.weight _ _ hS
 obtain ⟨_,⟨v,hv,rfl⟩,h⟩:=Zr5 (A:=A) (subP a x b) (refS a.weight a x b) (Zqd sa pa ta tb sb) (by unfold subP;omega) (by omega)
 have:v=true:=hv.2 hS
 rw [this] at h
 exact h
theorem Zq0 (bits:Int)(L:List Int)(n:Int)(ds7:List DataD)(h7:ds7.length=7)(hg:∀ d∈ds7,ZjX d)(hc7:ZeT ds7)(h27:ZkW ds7)(h55:(K A).call 71 [] []=some (ZaX ds7,[]))(hf:(K A).call 19 [] []=some (Zah true,[])) :
 (K A).call 9 [intV bits,.sc (.c (.sl (Zbg L))),intV n] []=some (Zah true,[]):=by
 refine Zan (vf:=v9) (by kernel_rfl) rfl (by simp) ?_
 have h8:(K A).call 13 [.sc (.c (.sl (Zbg L)))] []=some (Zah (decide (L.length≤60)),[]):=few8 L
 unfold v9
 by_cases hL:L.length≤60
 case neg=>simp (disch:=first|omega|(simp;done)|(simp;omega)) [hf,h8,hL]
 have hw4:wS 4=281:=rfl
 have hw3:wS 3=92:=rfl
 obtain ⟨_,⟨a,b,J,ds,hsub,_,ha,haw,hb,hbw,hJ,rfl⟩,hm⟩:=ZrX (A:=A) bits L (by omega) h27 (Zsr bits ds7 h7 hg h55)
 have hcn:ZeT ds:=fun d hd=>hc7 d (hsub d hd)
 obtain ⟨_,⟨va,hva,rfl⟩,hpa⟩:=ZjF (A:=A) a (by omega)
 obtain ⟨_,⟨vb,hvb,rfl⟩,hpb⟩:=ZjF (A:=A) b (by omega)
 obtain ⟨k,hk,hmk⟩:=mod10 (A:=A) n 5 (by omega) (by omega)
 have hk5:k<5:=by omega
 obtain ⟨s,hs5⟩:=Zaa (l:=Zog) (i:=k) hk5
 have hsl:=Zl5 s (List.mem_of_getElem? hs5)
 have hr5:=rows5 hs5
 cases va with
 | false=>simp (maxSteps:=4000000) (disch:=first|omega|(simp;done)|(simp;omega)) [hf,h8,hL,hm,hpa,-getElem?_pos]
 | true =>
  cases vb with
  | false=>simp (maxSteps:=4000000) (disch:=first|omega|(simp;done)|(simp;omega)) [hf,h8,hL,hm,hpa,hpb,-getElem?_pos]
  | true =>
   have pa:=hva rfl
   have pb:=hvb rfl
   have sa:=ha.shp
   have sb:=hb.shp
   have wab:a.weight*b.weight≤281*92:=Nat.mul_le_mul (by omega) (by omega)
   obtain ⟨to,J2,hto,hJ2,h34⟩:=Zcc (A:=A) L J hJ (by omega)
   have htl:=ZbP to hto
   obtain ⟨v1,v2,v3⟩:=Zn9 to (by omega)
   have hv1:=(ZiE to).2
   have c1:=Zm7 (A:=A) a s b sb (by omega) (hb.nmL hcn) (by omega) (by omega) sa pa (ha.nmL hcn)
   have c2:=ZkB (A:=A) a.weight a s b (Nat.le_refl _) (by omega) sa sb.wf (by omega)
   have c3:=ZhL (A:=A) s a b sa sb pa (ha.conV hcn) ha.tyBd hb.tyBd (by omega)
   have c4:=ZpW (A:=A) a s to (by omega) (by omega) (by omega) sa pa (ha.nmL hcn)
   have c5:=ZpF (A:=A) a s to (by omega) sa
   have c6:=ZhL (A:=A) s a (varX to) sa v1 pa (ha.conV hcn) ha.tyBd v3 (by rw [hv1];omega)
   generalize subP a s b=r1 at *
   generalize refS a.weight a s b=r2 at *
   generalize subP a s (varX to)=r3 at *
   generalize refS a.weight a s (varX to)=r4 at *
   simp (maxSteps:=4000000) (disch:=first|omega|(simp;done)|(simp;omega)) [hf,h8,hL,hm,hpa,hpb,hmk,hr5,h34,c1,c2,c3,c4,c5,c6,-getElem?_pos]
variable {A:Zac}
theorem con7s:ZeT ds7:=by
 intro d hd c hc
 simp only [ds7,List.mem_cons,List.not_mem_nil,or_false] at hd
 rcases hd with rfl|rfl|rfl|rfl|rfl|rfl|rfl<;>simp only [List.mem_cons,List.not_mem_nil,or_false] at hc
 ·rcases hc with rfl|rfl<;>exact ⟨by decide,⟨_,rfl,by decide,by decide⟩,by decide,by decide⟩
 ·rcases hc with rfl|rfl<;>exact ⟨by decide,⟨_,rfl,by decide,by decide⟩,by decide,by decide⟩
 ·rcases hc with rfl|rfl<;>exact ⟨by decide,⟨_,rfl,by decide,by decide⟩,by decide,by decide⟩
 ·rcases hc with rfl<;>exact ⟨by decide,⟨_,rfl,by decide,by decide⟩,by decide,by decide⟩
 ·rcases hc with rfl|rfl<;>exact ⟨by decide,⟨_,rfl,by decide,by decide⟩,by decide,by decide⟩
 ·rcases hc with rfl<;>exact ⟨by decide,⟨_,rfl,by decide,by decide⟩,by decide,by decide⟩
 ·rcases hc with rfl|rfl<;>exact ⟨by decide,⟨_,rfl,by decide,by decide⟩,by decide,by decide⟩
theorem ZsF:ZkW ds7:=by
 intro d hd
 simp only [ds7,List.mem_cons,List.not_mem_nil,or_false] at hd
 rcases hd with rfl|rfl|rfl|rfl|rfl|rfl|rfl<;>exact ⟨by decide,by decide⟩
theorem Zov (bits:Int)(L:List Int)(n:Int)(d7:List DataD)(_:d7.length=7)(_:∀ d∈d7,ZjX d)(h55:(K A).call 71 [] []=some (ZaX ds7,[]))(hf:(K A).call 19 [] []=some (Zah true,[])) :
 (K A).call 9 [intV bits,.sc (.c (.sl (Zbg L))),intV n] []=some (Zah true,[]):=Zq0 bits L n ds7 rfl good7 con7s ZsF h55 hf
end Go.Vs.Tryz
