/- Chapter 11's law on canonical forms, walked: it says true. (Parts of one proof, put together.) -/
import Derived.Test.YtlcncicmkkelcaaGreatDoorR8k
import Derived.Test.YtlcncicmkkelcaaGreatDoorRHk
set_option linter.unusedSimpArgs false
set_option linter.unusedVariables false
set_option linter.deprecated false
set_option maxHeartbeats 16000000
namespace Go.Vs.Tryz
open Go Go.Vs
variable {A:Oracle}
theorem b_beq10 {a b:Bool}:binV .eql 1 (boolV a) (boolV b)=some (boolV (a == b),[]):=by simp [binV,binW,nilEq]
theorem varNames_len:∀ s∈varNames,s.length≤2:=by decide
theorem rawE.free {ds:List DataD}{e:Exp}:rawE ds e→∀ s∈freeP e,s∈varNames:=by
 induction e using Exp.ind with
 | h e ih =>
  intro h s hs
  by_cases hk:e.kind=1
  ·rw [mem_freeP_var hk] at hs
   subst hs
   obtain ⟨_,_,_,_,_,h⟩:=h.one
   rcases h with ⟨_,n,_⟩|⟨k,_⟩|⟨k,_⟩|⟨k,_⟩|⟨k,_⟩|⟨k,_⟩|⟨k,_⟩|⟨k,_⟩
   ·exact n
   all_goals (exfalso;omega)
  ·obtain ⟨i,x,hx,h1,_⟩:=(mem_freeP hk).1 hs
   exact ih x (List.mem_of_getElem? hx) (h.child (List.mem_of_getElem? hx)) s h1
theorem rawE.free_len {ds:List DataD}{e:Exp}(h:rawE ds e):∀ s∈freeP e,s.length≤281474976710656:=fun s hs=>by
 have:=varNames_len s (h.free s hs)
 omega
def tkOk (n:Nat)(l:List Str):Prop:=l.length=n∧∀ s∈l,s.length≤2
theorem lawCanonical (bits:Int)(L:List Int)(n:Int)(tk:List Int)(ds7:List DataD)(h7:ds7.length=7)(hg:∀ d∈ds7,goodD d)(h55:(K A).call 71 [] []=some (datasV ds7,[]))(hf:(K A).call 19 [] []=some (boolV true,[])) :
 (K A).call 10 [intV bits,.sc (.c (.sl (intRows L))),intV n,.sc (.c (.sl (intRows tk)))] []=some (boolV true,[]):=by
 refine fn_of (vf:=v10) (by kernel_rfl) rfl (by simp) ?_
 have h8:(K A).call 13 [.sc (.c (.sl (intRows L)))] []=some (boolV (decide (L.length≤60)),[]):=few8 L
 unfold v10
 by_cases hL:L.length≤60
 case neg=>simp (disch:=first|omega|(simp;done)|(simp;omega)) [hf,h8,hL]
 by_cases hT:tk.length≤5
 case neg =>
  have hT':(5:Int)<tk.length:=by omega
  simp (disch:=first|omega|(simp;done)|(simp;omega)) [hf,h8,hL,hT,hT']
 have hT':¬(5:Int)<tk.length:=by omega
 simp (maxSteps:=4000000) (disch:=first|omega|(simp;done)|(simp;omega)) [hf,h8,hL,hT,hT',-getElem?_pos]
 refine wp_loopI (fun i s=>∃ l:List Str,tkOk i l∧s=⟨[(0,intV bits),(1,.sc (.c (.sl (intRows L)))),(2,intV n),(3,.sc (.c (.sl (intRows tk)))),(9,.sc (.arr 897 l.length)),(10,intV i)],[(897,some (.arr 1 (wr (strRows l)) 0))]⟩) tk.length
  ⟨[],⟨rfl,by simp⟩,by simp⟩ ?_ ?_
 ·rintro i s hi ⟨l,⟨hl,hl2⟩,rfl⟩
  obtain ⟨x,hx⟩:=get_of_lt (l:=tk) (i:=i) hi
  obtain ⟨k,hk,hm⟩:=mod10 (A:=A) x 5 (by omega) (by omega)
  have hiI:(i:Int)<tk.length:=by omega
  have hll:l.length≤5:=by have:l.length=i:=hl;omega
  have fin:∀ w:Str,w.length≤2→∃ l':List Str,tkOk (i+1) l' ∧
   (⟨[(0,intV bits),(1,.sc (.c (.sl (intRows L)))),(2,intV n),(3,.sc (.c (.sl (intRows tk)))),(9,.sc (.arr 897 (l.length+1))),(10,intV ((i:Int)+1))],[(897,some (.arr 1 (wr (strRows (l++[w]))) 0))]⟩:St) =
     ⟨[(0,intV bits),(1,.sc (.c (.sl (intRows L)))),(2,intV n),(3,.sc (.c (.sl (intRows tk)))),(9,.sc (.arr 897 l'.length)),(10,intV ((i+1:Nat):Int))],[(897,some (.arr 1 (wr (strRows l')) 0))]⟩ :=
   fun w hw=>⟨l++[w],⟨by simp [hl],fun s hs=>by
    rcases List.mem_append.1 hs with h|h
    ·exact hl2 s h
    ·rw [List.mem_singleton.1 h];exact hw⟩,by simp⟩
  have hx0:([[W.c (.str [118,49])],[W.c (.str [118,50])],[W.c (.str [118,51])],[W.c (.str [120])],[W.c (.str [102])]]:List (List W))[0]?=some [W.c (.str [118,49])]:=rfl
  have hx1:([[W.c (.str [118,49])],[W.c (.str [118,50])],[W.c (.str [118,51])],[W.c (.str [120])],[W.c (.str [102])]]:List (List W))[1]?=some [W.c (.str [118,50])]:=rfl
  have hx2:([[W.c (.str [118,49])],[W.c (.str [118,50])],[W.c (.str [118,51])],[W.c (.str [120])],[W.c (.str [102])]]:List (List W))[2]?=some [W.c (.str [118,51])]:=rfl
  have hx3:([[W.c (.str [118,49])],[W.c (.str [118,50])],[W.c (.str [118,51])],[W.c (.str [120])],[W.c (.str [102])]]:List (List W))[3]?=some [W.c (.str [120])]:=rfl
  have hx4:([[W.c (.str [118,49])],[W.c (.str [118,50])],[W.c (.str [118,51])],[W.c (.str [120])],[W.c (.str [102])]]:List (List W))[4]?=some [W.c (.str [102])]:=rfl
  have hn2:natBelow (.sc (.c (.int .i64 2))) 5=some 2:=rfl
  have hn3:natBelow (.sc (.c (.int .i64 3))) 5=some 3:=rfl
  have hn4:natBelow (.sc (.c (.int .i64 4))) 5=some 4:=rfl
  have hk5:k=0∨k=1∨k=2∨k=3∨k=4:=by omega
  unfold l10_0
  rcases hk5 with rfl|rfl|rfl|rfl|rfl
  ·simp (maxSteps:=4000000) (disch:=first|omega|(simp;done)|(simp;omega)) [hi,hiI,hx,hm,hx0,hx1,hx2,hx3,hx4,hn2,hn3,hn4,-getElem?_pos]
   simpa using fin [118,49] (by decide)
  ·simp (maxSteps:=4000000) (disch:=first|omega|(simp;done)|(simp;omega)) [hi,hiI,hx,hm,hx0,hx1,hx2,hx3,hx4,hn2,hn3,hn4,-getElem?_pos]
   simpa using fin [118,50] (by decide)
  ·simp (maxSteps:=4000000) (disch:=first|omega|(simp;done)|(simp;omega)) [hi,hiI,hx,hm,hx0,hx1,hx2,hx3,hx4,hn2,hn3,hn4,-getElem?_pos]
   simpa using fin [118,51] (by decide)
  ·simp (maxSteps:=4000000) (disch:=first|omega|(simp;done)|(simp;omega)) [hi,hiI,hx,hm,hx0,hx1,hx2,hx3,hx4,hn2,hn3,hn4,-getElem?_pos]
   simpa using fin [120] (by decide)
  ·simp (maxSteps:=4000000) (disch:=first|omega|(simp;done)|(simp;omega)) [hi,hiI,hx,hm,hx0,hx1,hx2,hx3,hx4,hn2,hn3,hn4,-getElem?_pos]
   simpa using fin [102] (by decide)
 ·rintro s ⟨l,⟨hl,hl2⟩,rfl⟩
  have hl3:∀ s∈l,s.length≤281474976710656:=fun s hs=>by have:=hl2 s hs;omega
  have hw4:wB 4=131072:=rfl
  have hw3:wB 3=16384:=rfl
  obtain ⟨_,⟨a,b,J,_,_,_,ha,haw,hb,hbw,hJ,rfl⟩,hm⟩:=made20 (A:=A) bits L (by omega) (datas21 bits ds7 h7 hg h55)
  obtain ⟨_,⟨va,rfl⟩,hpa⟩:=proper17 (A:=A) a (by omega)
  obtain ⟨_,⟨vb,rfl⟩,hpb⟩:=proper17 (A:=A) b (by omega)
  have sa:=ha.shp
  have sb:=hb.shp
  obtain ⟨_,⟨ka,hka,rfl⟩,hra⟩:=renamed25 (A:=A) a n ha.wf (by omega)
  have hal:=canonT_alpha a (renTo ka) ha.wf
  have sr:=canonT_shp (renTo ka) sa
  have wr':=canonT_weight (renTo ka) ha.wf
  have nr:=canonT_nmN (renTo ka) ha.wf ha.nmN
  have fr:∀ s∈freeP (canonT a (renTo ka)),s.length≤281474976710656:=fun s hs=>ha.free_len s ((alpha_free0 sa sr hal s).2 hs)
  have hsame:=canonT_same l sr sa nr ha.nmN (alphaP_symm _ _ _ _ hal)
  have hiff:=canonT_iff l sb sa hb.nmN ha.nmN
  have hiff2:sameP (canonT b l) (canonT a l)=alphaP a b [] []:=propext (hiff.trans ⟨alphaP_symm _ _ _ _,alphaP_symm _ _ _ _⟩)
  have c1:=canonical39 (A:=A) a l sa (by omega) hl3 ha.free_len
  have c2:=canonical40 (A:=A) a l ha.wf (by omega)
  have c3:=canonical39 (A:=A) (canonT a (renTo ka)) l sr (by omega) hl3 fr
  have c4:=canonical39 (A:=A) b l sb (by omega) hl3 hb.free_len
  have wx:=canonT_weight l ha.wf
  have wb:=canonT_weight l hb.wf
  have wrr:=canonT_weight l sr.wf
  have tx:=canonT_tyBd l ha.wf ha.tyBd
  have tb:=canonT_tyBd l hb.wf hb.tyBd
  have trr:=canonT_tyBd l sr.wf (canonT_tyBd (renTo ka) ha.wf ha.tyBd)
  obtain ⟨x1,i1,e1⟩:=equal35 (A:=A) (canonT a l) (canonT a l) tx (by omega) (by omega)
  obtain ⟨x2,i2,e2⟩:=alpha18 (A:=A) (canonT a l) a (canonT_shp l sa).wf ha.wf tx (by omega) (by omega)
  obtain ⟨x3,i3,e3⟩:=equal35 (A:=A) (canonT (canonT a (renTo ka)) l) (canonT a l) trr (by omega) (by omega)
  obtain ⟨x4,i4,e4⟩:=equal35 (A:=A) (canonT b l) (canonT a l) tb (by omega) (by omega)
  obtain ⟨x5,i5,e5⟩:=alpha18 (A:=A) a b ha.wf hb.wf ha.tyBd (by omega) (by omega)
  rw [i1.get (sameP_refl _)] at e1
  rw [i2.get (alphaP_symm _ _ _ _ (canonT_alpha a l ha.wf))] at e2
  rw [i3.get hsame] at e3
  rw [hiff2] at i4
  obtain ⟨v,rfl,rfl⟩:=i4.eq i5
  clear hsame hiff hiff2 i1 i2 i3 i4 i5 fr hal
  generalize canonT (canonT a (renTo ka)) l=crr at *
  generalize canonT a (renTo ka)=cr at *
  generalize canonT a l=ca at *
  generalize canonT b l=cb at *
  have hbq:=b_beq10 (a:=v) (b:=v)
  rw [show (v == v)=true by cases v<;>rfl] at hbq
  simp only [strsV] at c1 c2 c3 c4
  unfold l10_0
  cases va with
  | false=>simp (maxSteps:=4000000) (disch:=first|omega|(simp;done)|(simp;omega)) [hm,hpa,-getElem?_pos]
  | true =>
   cases vb with
   | false=>simp (maxSteps:=4000000) (disch:=first|omega|(simp;done)|(simp;omega)) [hm,hpa,hpb,-getElem?_pos]
   | true =>
    simp [tapeO,intV] at hm
    simp (maxSteps:=4000000) (disch:=first|omega|(simp;done)|(simp;omega)) [hm,hpa,hpb,c1,c2,c3,c4,hra,e1,e2,e3,e4,e5,hbq,-getElem?_pos]
theorem lawCanonicalC (bits:Int)(L:List Int)(n:Int)(tk:List Int)(ds7:List DataD)(h7:ds7.length=7)(hg:∀ d∈ds7,goodD d)(h55:(K A).call 71 [] []=some (datasV ds7,[]))(hf:(K A).call 19 [] []=some (boolV true,[])) :
 (K A).call 10 [intV bits,.sc (.c (.sl (intRows L))),intV n,.sc (.c (.sl (intRows tk)))] []=some (boolV true,[]):=lawCanonical bits L n tk ds7 h7 hg h55 hf
end Go.Vs.Tryz
