/- The library's sort, walked (6): the partitions (written by wip/gen/mkS6.py). (Parts of one proof, put together.) -/
import Derived.Test.YtlcncicmkkelcaaGreatDoorR7b
set_option linter.unusedSimpArgs false
set_option linter.unusedVariables false
set_option linter.deprecated false
set_option maxHeartbeats 8000000
namespace Go.Vs.Tryz
open Go Go.Vs
variable {A:Zac}
theorem Zks (a i j:Nat)(d:Array Nat):Sort.partLoop ltN a i j d =
 if Sort.scanUp (fun x=>ltN x d[a]!) d j i>Sort.scanDown (fun x=>!ltN x d[a]!) d (Sort.scanUp (fun x=>ltN x d[a]!) d j i) j then (Sort.scanDown (fun x=>!ltN x d[a]!) d (Sort.scanUp (fun x=>ltN x d[a]!) d j i) j,d)
 else if Sort.scanDown (fun x=>!ltN x d[a]!) d (Sort.scanUp (fun x=>ltN x d[a]!) d j i) j-1+1-(Sort.scanUp (fun x=>ltN x d[a]!) d j i+1)<j+1-i then
  Sort.partLoop ltN a (Sort.scanUp (fun x=>ltN x d[a]!) d j i+1) (Sort.scanDown (fun x=>!ltN x d[a]!) d (Sort.scanUp (fun x=>ltN x d[a]!) d j i) j-1) (Sort.swp d (Sort.scanUp (fun x=>ltN x d[a]!) d j i) (Sort.scanDown (fun x=>!ltN x d[a]!) d (Sort.scanUp (fun x=>ltN x d[a]!) d j i) j))
 else (Sort.scanDown (fun x=>!ltN x d[a]!) d (Sort.scanUp (fun x=>ltN x d[a]!) d j i) j,d):=by
 rw [Sort.partLoop]
 simp only [dite_eq_ite]
theorem ZlS {e:Array Nat}{l:List Nat}(h:Is e l){n:Nat}(hn:e.size=n)(a i j:Nat)(ha:a<n)(hj:j<n)(hl:n≤1073741824)(hi:1≤i)(hi2:i≤j+2) :
 wp (K A) ZlP (fun x s' =>
  (x=.normal∧∃ (i' j':Nat) (e':Array Nat) (l':List Nat),Is e' l'∧e'.size=n∧Sort.partLoop ltN a i' j' e'=Sort.partLoop ltN a i j e∧i<i'∧i'≤j+1∧i'≤j'+2∧j'≤j∧s'=⟨[(0,.sc (.arr 0 n)),(1,intV a),(10,intV i'),(11,intV j')],[(0,some (arrU l'))]⟩) ∨
  (x=.exit 4∧∃ (i' j':Nat),Sort.partLoop ltN a i j e=(j',e)∧j'≤j∧i'≤j+2∧s'=⟨[(0,.sc (.arr 0 n)),(1,intV a),(10,intV i'),(11,intV j'),(134,Zah true)],[(0,some (arrU l))]⟩)) ⟨[(0,.sc (.arr 0 n)),(1,intV a),(10,intV i),(11,intV j)],[(0,some (arrU l))]⟩:=by
 have hR:=Zks a i j e
 unfold ZlP
 simp only [wp_block,wp_seq]
 refine wp_mono (Znh (A:=A) h hn a i j ha hj hl (by omega)) ?_
 rintro _ _ ⟨rfl,rfl⟩
 have g1:=Zop (fun x=>ltN x e[a]!) e j _ i (Nat.le_refl _)
 have g2:i≤j+1→Sort.scanUp (fun x=>ltN x e[a]!) e j i≤j+1:=ZmU (fun x=>ltN x e[a]!) e j _ i (Nat.le_refl _)
 have g3:¬i≤j+1→Sort.scanUp (fun x=>ltN x e[a]!) e j i=i:=fun hc=>Zb5 (by omega)
 generalize Sort.scanUp (fun x=>ltN x e[a]!) e j i=i2 at *
 simp only [blockQ_exit,beq_self_eq_true,cond_true,thenQ_normal,wp_block,wp_seq]
 refine wp_mono (Zn5 (A:=A) (xs:=[(112,Zah false)]) h hn a i2 j ha hj hl (by omega) (by omega) (.inr rfl)) ?_
 rintro _ _ ⟨rfl,rfl⟩
 have g4:=ZfH (fun x=>!ltN x e[a]!) e i2 j
 generalize Sort.scanDown (fun x=>!ltN x e[a]!) e i2 j=j2 at *
 simp only [blockQ_exit,beq_self_eq_true,cond_true,thenQ_normal,wp_block,wp_seq]
 by_cases hc:i2>j2
 ·have hcI:((j2:Int)<(i2:Int)):=by omega
  rw [if_pos hc] at hR
  rw [hR]
  have fin:∃ (i' j':Nat),((j2,e):Nat × Array Nat)=(j',e)∧j'≤j∧i'≤j+2∧(⟨[(0,.sc (.arr 0 n)),(1,intV a),(10,intV i2),(11,intV j2),(134,Zah true)],[(0,some (arrU l))]⟩:St)=⟨[(0,.sc (.arr 0 n)),(1,intV a),(10,intV i'),(11,intV j'),(134,Zah true)],[(0,some (arrU l))]⟩ :=
   ⟨i2,j2,rfl,by omega,by omega,rfl⟩
  simp (maxSteps:=4000000) (disch:=first|omega|(simp;done)|(simp;omega)) [hc,hcI,-getElem?_pos]
  simpa using fin
 ·have hcN:¬j2<i2:=by omega
  have hcI:¬((j2:Int)<(i2:Int)):=by omega
  rw [if_neg hc,if_pos (by omega)] at hR
  rw [hR]
  have hx:=ZaY h (i:=i2) (by omega)
  have hy:=ZaY h (i:=j2) (by omega)
  have hsw:=ZdF h i2 j2
  have hll:=ZaL h
  have hil:i2<l.length:=by omega
  have hjl:j2<l.length:=by omega
  have hj1:(j2:Int)-1=((j2-1:Nat):Int):=by omega
  generalize e[i2]! = u at *
  generalize e[j2]! = v at *
  obtain ⟨v2,hv2⟩:=Zaa (l:=l.set i2 v) (i:=j2) (by simp;omega)
  have fin:∃ (i' j':Nat) (e':Array Nat) (l':List Nat),Is e' l'∧e'.size=n∧Sort.partLoop ltN a i' j' e'=Sort.partLoop ltN a (i2+1) (j2-1) (Sort.swp e i2 j2)∧i<i'∧i'≤j+1∧i'≤j'+2∧j'≤j∧(⟨[(0,.sc (.arr 0 n)),(1,intV a),(10,intV ((i2:Int)+1)),(11,intV ((j2-1:Nat):Int))],[(0,some (arrU ((l.set i2 v).set j2 u)))]⟩:St)=⟨[(0,.sc (.arr 0 n)),(1,intV a),(10,intV i'),(11,intV j')],[(0,some (arrU l'))]⟩ :=
   ⟨i2+1,j2-1,_,_,hsw,by simp [hn],rfl,by omega,by omega,by omega,by omega,by simp⟩
  simp (maxSteps:=4000000) (disch:=first|omega|(simp;done)|(simp;omega)) [hcN,hcI,hx,hy,hv2,hj1,hll,hn,-getElem?_pos]
  simpa using fin
theorem Zqa {e:Array Nat}{l:List Nat}(h:Is e l){n:Nat}(hn:e.size=n)(a i j:Nat)(ha:a<n)(hj:j<n)(hl:n≤1073741824)(hi:1≤i)(hi2:i≤j+2) :
 wp (K A) (.loop ZlP) (fun x s'=>x=.exit 4∧∃ (i' j':Nat) (e':Array Nat) (l':List Nat),Is e' l'∧e'.size=n∧Sort.partLoop ltN a i j e=(j',e')∧j'<n∧i'≤n+2∧s'=⟨[(0,.sc (.arr 0 n)),(1,intV a),(10,intV i'),(11,intV j'),(134,Zah true)],[(0,some (arrU l'))]⟩) ⟨[(0,.sc (.arr 0 n)),(1,intV a),(10,intV i),(11,intV j)],[(0,some (arrU l))]⟩:=by
 refine Zam (fun r s=>∃ (i' j':Nat) (e':Array Nat) (l':List Nat),Is e' l'∧e'.size=n∧Sort.partLoop ltN a i' j' e'=Sort.partLoop ltN a i j e∧i+r≤i'∧i'≤j'+2∧j'≤j∧s=⟨[(0,.sc (.arr 0 n)),(1,intV a),(10,intV i'),(11,intV j')],[(0,some (arrU l'))]⟩) (j+1) ⟨i,j,e,l,h,hn,rfl,Nat.le_refl _,hi2,Nat.le_refl _,rfl⟩ ?_ ?_
 ·rintro r s hr ⟨i',j',e',l',h',hn',hR,h1,h2,h3,rfl⟩
  refine wp_mono (ZlS (A:=A) h' hn' a i' j' ha (by omega) hl (by omega) h2) ?_
  rintro x s (⟨rfl,i2,j2,e2,l2,k1,k2,k3,k4,k5,k6,k7,rfl⟩|⟨rfl,i2,j2,k1,k2,k3,rfl⟩)
  ·exact .inl ⟨rfl,i2,j2,e2,l2,k1,k2,k3.trans hR,by omega,k6,by omega,rfl⟩
  ·exact .inr ⟨by simp,rfl,i2,j2,e',l',h',hn',by rw [←hR,k1],by omega,by omega,rfl⟩
 ·rintro s ⟨i',j',e',l',h',hn',hR,h1,h2,h3,rfl⟩
  refine wp_mono (ZlS (A:=A) h' hn' a i' j' ha (by omega) hl (by omega) h2) ?_
  rintro x s (⟨rfl,i2,j2,e2,l2,k1,k2,k3,k4,k5,k6,k7,rfl⟩|⟨rfl,i2,j2,k1,k2,k3,rfl⟩)
  ·exfalso
   omega
  ·exact ⟨by simp,rfl,i2,j2,e',l',h',hn',by rw [←hR,k1],by omega,by omega,rfl⟩
theorem Zdn (a i j:Nat)(d:Array Nat):Sort.partEqLoop ltN a i j d =
 if Sort.scanUp (fun x=>!ltN d[a]! x) d j i>Sort.scanDown (fun x=>ltN d[a]! x) d (Sort.scanUp (fun x=>!ltN d[a]! x) d j i) j then (Sort.scanUp (fun x=>!ltN d[a]! x) d j i,d)
 else if Sort.scanDown (fun x=>ltN d[a]! x) d (Sort.scanUp (fun x=>!ltN d[a]! x) d j i) j-1+1-(Sort.scanUp (fun x=>!ltN d[a]! x) d j i+1)<j+1-i then
  Sort.partEqLoop ltN a (Sort.scanUp (fun x=>!ltN d[a]! x) d j i+1) (Sort.scanDown (fun x=>ltN d[a]! x) d (Sort.scanUp (fun x=>!ltN d[a]! x) d j i) j-1) (Sort.swp d (Sort.scanUp (fun x=>!ltN d[a]! x) d j i) (Sort.scanDown (fun x=>ltN d[a]! x) d (Sort.scanUp (fun x=>!ltN d[a]! x) d j i) j))
 else (Sort.scanUp (fun x=>!ltN d[a]! x) d j i,d):=by
 rw [Sort.partEqLoop]
 simp only [dite_eq_ite]
theorem Zk7 {e:Array Nat}{l:List Nat}(h:Is e l){n:Nat}(hn:e.size=n)(a i j:Nat)(ha:a<n)(hj:j<n)(hl:n≤1073741824)(hi:1≤i)(hi2:i≤j+2) :
 wp (K A) Zk0 (fun x s' =>
  (x=.normal∧∃ (i' j':Nat) (e':Array Nat) (l':List Nat),Is e' l'∧e'.size=n∧Sort.partEqLoop ltN a i' j' e'=Sort.partEqLoop ltN a i j e∧i<i'∧i'≤j+1∧i'≤j'+2∧j'≤j∧s'=⟨[(0,.sc (.arr 0 n)),(1,intV a),(9,intV i'),(10,intV j')],[(0,some (arrU l'))]⟩) ∨
  (x=.exit 0∧∃ (i' j':Nat),Sort.partEqLoop ltN a i j e=(i',e)∧j'≤j∧i'≤j+2∧s'=⟨[(0,.sc (.arr 0 n)),(1,intV a),(9,intV i'),(10,intV j'),(64,Zah true)],[(0,some (arrU l))]⟩)) ⟨[(0,.sc (.arr 0 n)),(1,intV a),(9,intV i),(10,intV j)],[(0,some (arrU l))]⟩:=by
 have hR:=Zdn a i j e
 unfold Zk0
 simp only [wp_block,wp_seq]
 refine wp_mono (Zor (A:=A) h hn a i j ha hj hl (by omega)) ?_
 rintro _ _ ⟨rfl,rfl⟩
 have g1:=Zop (fun x=>!ltN e[a]! x) e j _ i (Nat.le_refl _)
 have g2:i≤j+1→Sort.scanUp (fun x=>!ltN e[a]! x) e j i≤j+1:=ZmU (fun x=>!ltN e[a]! x) e j _ i (Nat.le_refl _)
 have g3:¬i≤j+1→Sort.scanUp (fun x=>!ltN e[a]! x) e j i=i:=fun hc=>Zb5 (by omega)
 generalize Sort.scanUp (fun x=>!ltN e[a]! x) e j i=i2 at *
 simp only [blockQ_exit,beq_self_eq_true,cond_true,thenQ_normal,wp_block,wp_seq]
 refine wp_mono (Znx (A:=A) (xs:=[(43,Zah false)]) h hn a i2 j ha hj hl (by omega) (by omega) (.inr rfl)) ?_
 rintro _ _ ⟨rfl,rfl⟩
 have g4:=ZfH (fun x=>ltN e[a]! x) e i2 j
 generalize Sort.scanDown (fun x=>ltN e[a]! x) e i2 j=j2 at *
 simp only [blockQ_exit,beq_self_eq_true,cond_true,thenQ_normal,wp_block,wp_seq]
 by_cases hc:i2>j2
 ·have hcI:((j2:Int)<(i2:Int)):=by omega
  rw [if_pos hc] at hR
  rw [hR]
  have fin:∃ (i' j':Nat),((i2,e):Nat × Array Nat)=(i',e)∧j'≤j∧i'≤j+2∧(⟨[(0,.sc (.arr 0 n)),(1,intV a),(9,intV i2),(10,intV j2),(64,Zah true)],[(0,some (arrU l))]⟩:St)=⟨[(0,.sc (.arr 0 n)),(1,intV a),(9,intV i'),(10,intV j'),(64,Zah true)],[(0,some (arrU l))]⟩ :=
   ⟨i2,j2,rfl,by omega,by omega,rfl⟩
  simp (maxSteps:=4000000) (disch:=first|omega|(simp;done)|(simp;omega)) [hc,hcI,-getElem?_pos]
  simpa using fin
 ·have hcN:¬j2<i2:=by omega
  have hcI:¬((j2:Int)<(i2:Int)):=by omega
  rw [if_neg hc,if_pos (by omega)] at hR
  rw [hR]
  have hx:=ZaY h (i:=i2) (by omega)
  have hy:=ZaY h (i:=j2) (by omega)
  have hsw:=ZdF h i2 j2
  have hll:=ZaL h
  have hil:i2<l.length:=by omega
  have hjl:j2<l.length:=by omega
  have hj1:(j2:Int)-1=((j2-1:Nat):Int):=by omega
  generalize e[i2]! = u at *
  generalize e[j2]! = v at *
  obtain ⟨v2,hv2⟩:=Zaa (l:=l.set i2 v) (i:=j2) (by simp;omega)
  have fin:∃ (i' j':Nat) (e':Array Nat) (l':List Nat),Is e' l'∧e'.size=n∧Sort.partEqLoop ltN a i' j' e'=Sort.partEqLoop ltN a (i2+1) (j2-1) (Sort.swp e i2 j2)∧i<i'∧i'≤j+1∧i'≤j'+2∧j'≤j∧(⟨[(0,.sc (.arr 0 n)),(1,intV a),(9,intV ((i2:Int)+1)),(10,intV ((j2-1:Nat):Int))],[(0,some (arrU ((l.set i2 v).set j2 u)))]⟩:St)=⟨[(0,.sc (.arr 0 n)),(1,intV a),(9,intV i'),(10,intV j')],[(0,some (arrU l'))]⟩ :=
   ⟨i2+1,j2-1,_,_,hsw,by simp [hn],rfl,by omega,by omega,by omega,by omega,by simp⟩
  simp (maxSteps:=4000000) (disch:=first|omega|(simp;done)|(simp;omega)) [hcN,hcI,hx,hy,hv2,hj1,hll,hn,-getElem?_pos]
  simpa using fin
theorem Zqw {e:Array Nat}{l:List Nat}(h:Is e l){n:Nat}(hn:e.size=n)(a i j:Nat)(ha:a<n)(hj:j<n)(hl:n≤1073741824)(hi:1≤i)(hi2:i≤j+2) :
 wp (K A) (.loop Zk0) (fun x s'=>x=.exit 0∧∃ (i' j':Nat) (e':Array Nat) (l':List Nat),Is e' l'∧e'.size=n∧Sort.partEqLoop ltN a i j e=(i',e')∧j'<n∧i'≤n+2∧s'=⟨[(0,.sc (.arr 0 n)),(1,intV a),(9,intV i'),(10,intV j'),(64,Zah true)],[(0,some (arrU l'))]⟩) ⟨[(0,.sc (.arr 0 n)),(1,intV a),(9,intV i),(10,intV j)],[(0,some (arrU l))]⟩:=by
 refine Zam (fun r s=>∃ (i' j':Nat) (e':Array Nat) (l':List Nat),Is e' l'∧e'.size=n∧Sort.partEqLoop ltN a i' j' e'=Sort.partEqLoop ltN a i j e∧i+r≤i'∧i'≤j'+2∧j'≤j∧s=⟨[(0,.sc (.arr 0 n)),(1,intV a),(9,intV i'),(10,intV j')],[(0,some (arrU l'))]⟩) (j+1) ⟨i,j,e,l,h,hn,rfl,Nat.le_refl _,hi2,Nat.le_refl _,rfl⟩ ?_ ?_
 ·rintro r s hr ⟨i',j',e',l',h',hn',hR,h1,h2,h3,rfl⟩
  refine wp_mono (Zk7 (A:=A) h' hn' a i' j' ha (by omega) hl (by omega) h2) ?_
  rintro x s (⟨rfl,i2,j2,e2,l2,k1,k2,k3,k4,k5,k6,k7,rfl⟩|⟨rfl,i2,j2,k1,k2,k3,rfl⟩)
  ·exact .inl ⟨rfl,i2,j2,e2,l2,k1,k2,k3.trans hR,by omega,k6,by omega,rfl⟩
  ·exact .inr ⟨by simp,rfl,i2,j2,e',l',h',hn',by rw [←hR,k1],by omega,by omega,rfl⟩
 ·rintro s ⟨i',j',e',l',h',hn',hR,h1,h2,h3,rfl⟩
  refine wp_mono (Zk7 (A:=A) h' hn' a i' j' ha (by omega) hl (by omega) h2) ?_
  rintro x s (⟨rfl,i2,j2,e2,l2,k1,k2,k3,k4,k5,k6,k7,rfl⟩|⟨rfl,i2,j2,k1,k2,k3,rfl⟩)
  ·exfalso
   omega
  ·exact ⟨by simp,rfl,i2,j2,e',l',h',hn',by rw [←hR,k1],by omega,by omega,rfl⟩
theorem Zsl {e:Array Nat}{l:List Nat}(h:Is e l){n:Nat}(hn:e.size=n)(a b p:Nat)(ha:a≤p)(hp:p<b)(hb:b≤n)(hl:n≤1073741824) :
 (K A).call 199 [.sc (.arr 0 n),intV a,intV b,intV p] [arrU l]=some (intV (Sort.partitionEqual ltN e a b p).1,[arrU (Sort.partitionEqual ltN e a b p).2.toList]):=by
 generalize hR:Sort.partitionEqual ltN e a b p=R
 unfold Sort.partitionEqual at hR
 have hx:=ZaY h (i:=a) (by omega)
 have hy:=ZaY h (i:=p) (by omega)
 have hsw:=ZdF h a p
 have hll:=ZaL h
 have hal:a<l.length:=by omega
 have hpl:p<l.length:=by omega
 have hsz:(Sort.swp e a p).size=n:=by simp [hn]
 generalize Sort.swp e a p=e1 at *
 generalize e[a]! = u at *
 generalize e[p]! = v at *
 obtain ⟨v2,hv2⟩:=Zaa (l:=l.set a v) (i:=p) (by simp;omega)
 have hb1:(b:Int)-1=((b-1:Nat):Int):=by omega
 have ha1:(a:Int)+1=((a+1:Nat):Int):=by omega
 have hw:=Zqw (A:=A) hsw hsz a (a+1) (b-1) (by omega) (by omega) hl (by omega) (by omega)
 rw [hR] at hw
 generalize b-1=b1 at *
 generalize a+1=a1 at *
 refine Zan (vf:=v199) (by kernel_rfl) rfl (by simp) ?_
 unfold v199
 simp (maxSteps:=4000000) (disch:=first|omega|(simp;done)|(simp;omega)) [hx,hy,hv2,hb1,ha1,hll,hn,-getElem?_pos]
 refine wp_mono hw ?_
 rintro _ _ ⟨rfl,i',j',e',l',k1,k2,rfl,k4,k5,rfl⟩
 have hll:=ZaL k1
 simp (maxSteps:=4000000) (disch:=first|omega|(simp;done)|(simp;omega)) [hll,k2,isEq k1,-getElem?_pos]
variable {A:Zac}
theorem partA {e:Array Nat}{l:List Nat}(h:Is e l){n:Nat}(hn:e.size=n)(a b p:Nat)(ha:a≤p)(hp:p<b)(hb:b≤n)(hl:n≤1073741824) :
 (K A).call 200 [.sc (.arr 0 n),intV a,intV b,intV p] [arrU l]=some (.tu [intV (Sort.partition ltN e a b p).1,Zah (Sort.partition ltN e a b p).2.1],[arrU (Sort.partition ltN e a b p).2.2.toList]):=by
 generalize hR:Sort.partition ltN e a b p=R
 dsimp only [Sort.partition] at hR
 have hx:=ZaY h (i:=a) (by omega)
 have hy:=ZaY h (i:=p) (by omega)
 have hsw:=ZdF h a p
 have hll:=ZaL h
 have hal:a<l.length:=by omega
 have hpl:p<l.length:=by omega
 have hsz:(Sort.swp e a p).size=n:=by simp [hn]
 generalize Sort.swp e a p=e1 at *
 generalize e[a]! = u at *
 generalize e[p]! = v at *
 obtain ⟨v2,hv2⟩:=Zaa (l:=l.set a v) (i:=p) (by simp;omega)
 have hb1:(b:Int)-1=((b-1:Nat):Int):=by omega
 have ha1:(a:Int)+1=((a+1:Nat):Int):=by omega
 have hw1:=Zoj (A:=A) hsw hsz a (a+1) (b-1) (by omega) (by omega) hl (by omega)
 have g1:=Zop (fun x=>ltN x e1[a]!) e1 (b-1) _ (a+1) (Nat.le_refl _)
 have g2:=ZmU (fun x=>ltN x e1[a]!) e1 (b-1) _ (a+1) (Nat.le_refl _) (by omega)
 generalize Sort.scanUp (fun x=>ltN x e1[a]!) e1 (b-1) (a+1)=i2 at *
 have hw2:=ZmV (A:=A) (xs:=[(43,Zah false)]) hsw hsz a i2 (b-1) (by omega) (by omega) hl (by omega) (by omega) (.inr rfl)
 have g4:=ZfH (fun x=>!ltN x e1[a]!) e1 i2 (b-1)
 generalize Sort.scanDown (fun x=>!ltN x e1[a]!) e1 i2 (b-1)=j2 at *
 generalize hb1e:b-1=b1 at *
 generalize ha1e:a+1=a1 at *
 generalize hl1:(l.set a v).set p u=l1 at *
 have hll1:=ZaL hsw
 have hx1:=ZaY hsw (i:=a) (by omega)
 have hy1:=ZaY hsw (i:=j2) (by omega)
 have hal1:a<l1.length:=by omega
 have hjl1:j2<l1.length:=by omega
 refine Zan (vf:=v200) (by kernel_rfl) rfl (by simp) ?_
 unfold v200
 simp (maxSteps:=4000000) (disch:=first|omega|(simp;done)|(simp;omega)) [hx,hy,hv2,hb1,ha1,hll,hn,hl1,-getElem?_pos]
 refine wp_mono hw1 ?_
 rintro _ _ ⟨rfl,rfl⟩
 simp only [blockQ_exit,beq_self_eq_true,cond_true,thenQ_normal,wp_block,wp_seq]
 refine wp_mono hw2 ?_
 rintro _ _ ⟨rfl,rfl⟩
 by_cases hc:i2>j2
 ·have hcI:(j2:Int)<(i2:Int):=by omega
  rw [if_pos hc] at hR
  subst hR
  have hsw2:=ZdF hsw j2 a
  generalize e1[a]! = u1 at *
  generalize e1[j2]! = w1 at *
  obtain ⟨v3,hv3⟩:=Zaa (l:=l1.set j2 u1) (i:=a) (by simp;omega)
  have hsz2:=ZaL hsw2
  simp (maxSteps:=4000000) (disch:=first|omega|(simp;done)|(simp;omega)) [hc,hcI,hx1,hy1,hv3,hll1,hsz,←isEq hsw2,-getElem?_pos]
 ·have hcN:¬j2<i2:=by omega
  have hcI:¬(j2:Int)<(i2:Int):=by omega
  rw [if_neg hc] at hR
  have hz1:=ZaY hsw (i:=i2) (by omega)
  have hil1:i2<l1.length:=by omega
  have hsw2:=ZdF hsw i2 j2
  have hsz2:(Sort.swp e1 i2 j2).size=n:=by simp [hsz]
  have hj1:(j2:Int)-1=((j2-1:Nat):Int):=by omega
  have hi1:(i2:Int)+1=((i2+1:Nat):Int):=by omega
  have hw3:=Zqa (A:=A) hsw2 hsz2 a (i2+1) (j2-1) (by omega) (by omega) hl (by omega) (by omega)
  generalize Sort.swp e1 i2 j2=e2 at *
  generalize e1[i2]! = u1 at *
  generalize e1[j2]! = w1 at *
  generalize hPL:Sort.partLoop ltN a (i2+1) (j2-1) e2=PL at *
  generalize i2+1=i3 at *
  generalize j2-1=j3 at *
  obtain ⟨v3,hv3⟩:=Zaa (l:=l1.set i2 w1) (i:=j2) (by simp;omega)
  simp (maxSteps:=4000000) (disch:=first|omega|(simp;done)|(simp;omega)) [hcN,hcI,hz1,hy1,hv3,hj1,hi1,hll1,hsz,-getElem?_pos]
  refine wp_mono hw3 ?_
  rintro _ _ ⟨rfl,i',j',e',l',k1,k2,rfl,k4,k5,rfl⟩
  subst hR
  have hll2:=ZaL k1
  have hx2:=ZaY k1 (i:=a) (by omega)
  have hy2:=ZaY k1 (i:=j') (by omega)
  have hsw3:=ZdF k1 j' a
  have hal2:a<l'.length:=by omega
  have hjl2:j'<l'.length:=by omega
  generalize e'[a]! = u2 at *
  generalize e'[j']! = w2 at *
  obtain ⟨v4,hv4⟩:=Zaa (l:=l'.set j' u2) (i:=a) (by simp;omega)
  simp (maxSteps:=4000000) (disch:=first|omega|(simp;done)|(simp;omega)) [hx2,hy2,hv4,hll2,k2,←isEq hsw3,-getElem?_pos]
variable {A:Zac}
theorem ss_go {d:Array Nat}{b i:Nat}(h:i<b)(hp:¬d[i]! < d[i-1]!):Sort.scanSorted ltN d b i=Sort.scanSorted ltN d b (i+1):=by
 rw [Sort.scanSorted]
 simp [h,hp,ltN]
theorem Zim {d:Array Nat}{b i:Nat}(h:¬(i<b∧¬d[i]! < d[i-1]!)):Sort.scanSorted ltN d b i=i:=by
 rw [Sort.scanSorted,if_neg (by simpa [ltN] using h)]
theorem ss_bd (d:Array Nat)(b:Nat):∀ (k i:Nat),b-i≤k→i≤b→i≤Sort.scanSorted ltN d b i∧Sort.scanSorted ltN d b i≤b
 | 0,i,h,h2=>by rw [Zim (by omega)];exact ⟨Nat.le_refl _,h2⟩
 | k+1,i,h,h2=>by
  by_cases hc:i<b∧¬d[i]! < d[i-1]!
  ·rw [ss_go hc.1 hc.2]
   have:=ss_bd d b k (i+1) (by omega) (by omega)
   omega
  ·rw [Zim hc]
   exact ⟨Nat.le_refl _,h2⟩
abbrev S5 (n a b i st:Nat)(xs:Env):Env:=(0,.sc (.arr 0 n))::(1,intV a)::(2,intV b)::(7,intV i)::(8,intV st)::xs
theorem Znv {e:Array Nat}{l:List Nat}(h:Is e l){n:Nat}(hn:e.size=n)(a b i st:Nat)(hi:1≤i)(hib:i≤b)(hb:b≤n)(hl:n≤1073741824){xs:Env}(hx:xs=[]∨xs=[(14,Zah true)]) :
 wp (K A) (.loop Zlz) (fun x s'=>x=.exit 2∧s'=⟨S5 n a b (Sort.scanSorted ltN e b i) st [(32,Zah false)],[(0,some (arrU l))]⟩) ⟨S5 n a b i st xs,[(0,some (arrU l))]⟩:=by
 refine Zam (fun r s=>∃ (i':Nat) (xs:Env),(xs=[]∨xs=[(14,Zah true)])∧Sort.scanSorted ltN e b i'=Sort.scanSorted ltN e b i∧i'=i+r∧s=⟨S5 n a b i' st xs,[(0,some (arrU l))]⟩) (b-i) ⟨i,xs,hx,rfl,rfl,rfl⟩ ?_ ?_
 ·clear hx
  rintro r s hr ⟨i',xs,hx,hs,hi',rfl⟩
  have hij:i'<b:=by omega
  have hy:=ZaY h (i:=i') (by omega)
  have hz:=ZaY h (i:=i'-1) (by omega)
  have hll:=ZaL h
  have hstop:=Zim (d:=e) (b:=b) (i:=i')
  have hgo:=ss_go (d:=e) (b:=b) (i:=i') hij
  generalize e[i']! = y at *
  generalize e[i'-1]! = z at *
  have hless:=ZbB (A:=A) y z
  have hil:i'<l.length:=by omega
  have hil1:i'-1<l.length:=by omega
  have hi1:(i':Int)-1=((i'-1:Nat):Int):=by omega
  unfold Zlz
  by_cases hlt:y<z
  ·rw [hstop (by simp [hlt])] at hs
   rcases hx with rfl|rfl<;>simp (maxSteps:=4000000) (disch:=first|omega|(simp;done)|(simp;omega)) [hij,hy,hz,hi1,hll,hn,hless,hlt,←hs,-getElem?_pos]
  ·rw [hgo hlt] at hs
   have fin:∃ (i'':Nat) (xs:Env),(xs=[]∨xs=[(14,Zah true)])∧Sort.scanSorted ltN e b i''=Sort.scanSorted ltN e b i∧i''=i+(r+1)∧(⟨S5 n a b (i'+1) st [],[(0,some (arrU l))]⟩:St)=⟨S5 n a b i'' st xs,[(0,some (arrU l))]⟩ :=
    ⟨i'+1,[],.inl rfl,hs,by omega,rfl⟩
   rcases hx with rfl|rfl<;>(simp (maxSteps:=4000000) (disch:=first|omega|(simp;done)|(simp;omega)) [hij,hy,hz,hi1,hll,hn,hless,hlt,-getElem?_pos];simpa using fin)
 ·clear hx
  rintro s ⟨i',xs,hx,hs,hi',rfl⟩
  have hij:¬i'<b:=by omega
  rw [Zim (by omega)] at hs
  unfold Zlz
  rcases hx with rfl|rfl<;>simp (maxSteps:=4000000) (disch:=first|omega|(simp;done)|(simp;omega)) [hij,←hs,-getElem?_pos]
theorem ZoX {d:Array Nat}{j:Nat}(hj:1≤j):Sort.shiftDown ltN j d=if d[j]! < d[j-1]! then Sort.shiftDown ltN (j-1) (Sort.swp d j (j-1)) else d:=by
 obtain ⟨k,rfl⟩:∃ k,j=k+1:=⟨j-1,by omega⟩
 rw [Sort.shiftDown]
 simp only [Nat.add_sub_cancel,ltN]
 by_cases h:d[k+1]! < d[k]!
 ·simp [h]
 ·simp [h]
theorem Zoo {d:Array Nat}{b j:Nat}(hj:j<b):Sort.shiftUp ltN b j d=if d[j]! < d[j-1]! then Sort.shiftUp ltN b (j+1) (Sort.swp d j (j-1)) else d:=by
 rw [Sort.shiftUp,if_pos hj]
 simp only [ltN]
 by_cases h:d[j]! < d[j-1]!
 ·simp [h]
 ·simp [h]
theorem ZkF {d:Array Nat}{b j:Nat}(hj:¬j<b):Sort.shiftUp ltN b j d=d:=by
 rw [Sort.shiftUp,if_neg hj]
theorem ZnZ {e:Array Nat}{l:List Nat}(h:Is e l){n:Nat}(hn:e.size=n)(a b i st j:Nat)(hj:j<n)(hl:n≤1073741824) :
 wp (K A) (.loop Zlm) (fun x s'=>x=.exit 4∧∃ (e':Array Nat) (l':List Nat) (j':Nat),Is e' l'∧e'.size=n∧e'=Sort.shiftDown ltN j e ∧
  (s'=⟨S5 n a b i st [(9,intV j'),(65,Zah false)],[(0,some (arrU l'))]⟩∨s'=⟨S5 n a b i st [(9,intV j'),(78,Zah true)],[(0,some (arrU l'))]⟩)) ⟨S5 n a b i st [(9,intV j)],[(0,some (arrU l))]⟩:=by
 generalize hR:Sort.shiftDown ltN j e=R
 refine Zam (fun r s=>∃ (j':Nat) (e':Array Nat) (l':List Nat),Is e' l'∧e'.size=n∧Sort.shiftDown ltN j' e'=R∧j'+r=j∧s=⟨S5 n a b i st [(9,intV j')],[(0,some (arrU l'))]⟩) j ⟨j,e,l,h,hn,hR,rfl,rfl⟩ ?_ ?_
 ·clear h
  rintro r s hr ⟨j',e',l',h,hn',hs,hj',rfl⟩
  have hj1:(1:Int)≤j':=by omega
  have hy:=ZaY h (i:=j') (by omega)
  have hz:=ZaY h (i:=j'-1) (by omega)
  have hsw:=ZdF h j' (j'-1)
  have hll:=ZaL h
  rw [ZoX (by omega)] at hs
  generalize e'[j']! = y at *
  generalize e'[j'-1]! = z at *
  have hless:=ZbB (A:=A) y z
  have hjl:j'<l'.length:=by omega
  have hjl1:j'-1<l'.length:=by omega
  have hjI:(j':Int)-1=((j'-1:Nat):Int):=by omega
  obtain ⟨v2,hv2⟩:=Zaa (l:=l'.set j' z) (i:=j'-1) (by simp;omega)
  unfold Zlm
  by_cases hlt:y<z
  ·rw [if_pos hlt] at hs
   have fin:∃ (j'':Nat) (e'':Array Nat) (l'':List Nat),Is e'' l''∧e''.size=n∧Sort.shiftDown ltN j'' e''=R∧j''+(r+1)=j∧(⟨S5 n a b i st [(9,intV ((j'-1:Nat):Int))],[(0,some (arrU ((l'.set j' z).set (j'-1) y)))]⟩:St)=⟨S5 n a b i st [(9,intV j'')],[(0,some (arrU l''))]⟩ :=
    ⟨j'-1,_,_,hsw,by simp [hn'],hs,by omega,rfl⟩
   simp (maxSteps:=4000000) (disch:=first|omega|(simp;done)|(simp;omega)) [hj1,hy,hz,hv2,hjI,hll,hn',hless,hlt,-getElem?_pos]
   simpa using fin
  ·rw [if_neg hlt] at hs
   have fin:∃ (e'':Array Nat) (l'':List Nat) (j'':Nat),Is e'' l''∧e''.size=n∧e''=R∧((⟨S5 n a b i st [(9,intV j'),(78,Zah true)],[(0,some (arrU l'))]⟩:St)=⟨S5 n a b i st [(9,intV j''),(65,Zah false)],[(0,some (arrU l''))]⟩ ∨
    (⟨S5 n a b i st [(9,intV j'),(78,Zah true)],[(0,some (arrU l'))]⟩:St)=⟨S5 n a b i st [(9,intV j''),(78,Zah true)],[(0,some (arrU l''))]⟩) :=
    ⟨e',l',j',h,hn',hs,.inr rfl⟩
   simp (maxSteps:=4000000) (disch:=first|omega|(simp;done)|(simp;omega)) [hj1,hy,hz,hjI,hll,hn',hless,hlt,-getElem?_pos]
   simpa using fin
 ·clear h
  rintro s ⟨j',e',l',h,hn',hs,hj',rfl⟩
  obtain rfl:j'=0:=by omega
  rw [Sort.shiftDown] at hs
  have fin:∃ (e'':Array Nat) (l'':List Nat) (j'':Nat),Is e'' l''∧e''.size=n∧e''=R∧((⟨S5 n a b i st [(9,intV ((0:Nat):Int)),(65,Zah false)],[(0,some (arrU l'))]⟩:St)=⟨S5 n a b i st [(9,intV j''),(65,Zah false)],[(0,some (arrU l''))]⟩ ∨
   (⟨S5 n a b i st [(9,intV ((0:Nat):Int)),(65,Zah false)],[(0,some (arrU l'))]⟩:St)=⟨S5 n a b i st [(9,intV j''),(78,Zah true)],[(0,some (arrU l''))]⟩) :=
   ⟨e',l',0,h,hn',hs,.inl rfl⟩
  unfold Zlm
  simp (maxSteps:=4000000) (disch:=first|omega|(simp;done)|(simp;omega)) [-getElem?_pos]
  simpa using fin
theorem Zoi {e:Array Nat}{l:List Nat}(h:Is e l){n:Nat}(hn:e.size=n)(a b i st j:Nat)(hj:1≤j)(hjb:j≤b)(hb:b≤n)(hl:n≤1073741824) :
 wp (K A) (.loop ZhT) (fun x s'=>x=.exit 6∧∃ (e':Array Nat) (l':List Nat) (j':Nat),Is e' l'∧e'.size=n∧e'=Sort.shiftUp ltN b j e ∧
  (s'=⟨S5 n a b i st [(10,intV j'),(103,Zah false)],[(0,some (arrU l'))]⟩∨s'=⟨S5 n a b i st [(10,intV j'),(116,Zah true)],[(0,some (arrU l'))]⟩)) ⟨S5 n a b i st [(10,intV j)],[(0,some (arrU l))]⟩:=by
 generalize hR:Sort.shiftUp ltN b j e=R
 refine Zam (fun r s=>∃ (j':Nat) (e':Array Nat) (l':List Nat),Is e' l'∧e'.size=n∧Sort.shiftUp ltN b j' e'=R∧j'=j+r∧s=⟨S5 n a b i st [(10,intV j')],[(0,some (arrU l'))]⟩) (b-j) ⟨j,e,l,h,hn,hR,rfl,rfl⟩ ?_ ?_
 ·clear h
  rintro r s hr ⟨j',e',l',h,hn',hs,hj',rfl⟩
  have hj1:j'<b:=by omega
  have hy:=ZaY h (i:=j') (by omega)
  have hz:=ZaY h (i:=j'-1) (by omega)
  have hsw:=ZdF h j' (j'-1)
  have hll:=ZaL h
  rw [Zoo hj1] at hs
  generalize e'[j']! = y at *
  generalize e'[j'-1]! = z at *
  have hless:=ZbB (A:=A) y z
  have hjl:j'<l'.length:=by omega
  have hjl1:j'-1<l'.length:=by omega
  have hjI:(j':Int)-1=((j'-1:Nat):Int):=by omega
  obtain ⟨v2,hv2⟩:=Zaa (l:=l'.set j' z) (i:=j'-1) (by simp;omega)
  unfold ZhT
  by_cases hlt:y<z
  ·rw [if_pos hlt] at hs
   have fin:∃ (j'':Nat) (e'':Array Nat) (l'':List Nat),Is e'' l''∧e''.size=n∧Sort.shiftUp ltN b j'' e''=R∧j''=j+(r+1)∧(⟨S5 n a b i st [(10,intV ((j':Int)+1))],[(0,some (arrU ((l'.set j' z).set (j'-1) y)))]⟩:St)=⟨S5 n a b i st [(10,intV j'')],[(0,some (arrU l''))]⟩ :=
    ⟨j'+1,_,_,hsw,by simp [hn'],hs,by omega,rfl⟩
   simp (maxSteps:=4000000) (disch:=first|omega|(simp;done)|(simp;omega)) [hj1,hy,hz,hv2,hjI,hll,hn',hless,hlt,-getElem?_pos]
   simpa using fin
  ·rw [if_neg hlt] at hs
   have fin:∃ (e'':Array Nat) (l'':List Nat) (j'':Nat),Is e'' l''∧e''.size=n∧e''=R∧((⟨S5 n a b i st [(10,intV j'),(116,Zah true)],[(0,some (arrU l'))]⟩:St)=⟨S5 n a b i st [(10,intV j''),(103,Zah false)],[(0,some (arrU l''))]⟩ ∨
    (⟨S5 n a b i st [(10,intV j'),(116,Zah true)],[(0,some (arrU l'))]⟩:St)=⟨S5 n a b i st [(10,intV j''),(116,Zah true)],[(0,some (arrU l''))]⟩) :=
    ⟨e',l',j',h,hn',hs,.inr rfl⟩
   simp (maxSteps:=4000000) (disch:=first|omega|(simp;done)|(simp;omega)) [hj1,hy,hz,hjI,hll,hn',hless,hlt,-getElem?_pos]
   simpa using fin
 ·clear h
  rintro s ⟨j',e',l',h,hn',hs,hj',rfl⟩
  have hj1:¬j'<b:=by omega
  rw [ZkF hj1] at hs
  have fin:∃ (e'':Array Nat) (l'':List Nat) (j'':Nat),Is e'' l''∧e''.size=n∧e''=R∧((⟨S5 n a b i st [(10,intV j'),(103,Zah false)],[(0,some (arrU l'))]⟩:St)=⟨S5 n a b i st [(10,intV j''),(103,Zah false)],[(0,some (arrU l''))]⟩ ∨
   (⟨S5 n a b i st [(10,intV j'),(103,Zah false)],[(0,some (arrU l'))]⟩:St)=⟨S5 n a b i st [(10,intV j''),(116,Zah true)],[(0,some (arrU l''))]⟩) :=
   ⟨e',l',j',h,hn',hs,.inl rfl⟩
  unfold ZhT
  simp (maxSteps:=4000000) (disch:=first|omega|(simp;done)|(simp;omega)) [hj1,-getElem?_pos]
  simpa using fin
def Znt:VCode:=(sq [oM 95 2,oM 96 7,oB 97 .sub 95 96,oK 98 .geq 97 2] [0,1,2,7,8,98] (cd 98 (sq [oM 99 7,oK 100 .add 99 1,oM 10 100] [0,1,2,7,8,10] (lp 6 ZhT)) .skip))
theorem Zqf {n a b i2 r:Nat}(h1:1≤i2)(hib:i2<b)(hb:b≤n)(hl:n≤1073741824){e2:Array Nat}{l2:List Nat}{xs:Env}(k1:Is e2 l2)(k2:e2.size=n)
 (k4:xs=[(61,Zah false)]∨(∃ j':Nat,xs=[(9,intV j'),(65,Zah false)])∨∃ j':Nat,xs=[(9,intV j'),(78,Zah true)])
 (Q:Ex→St→Prop) (hQ:∀ (e:Array Nat) (l:List Nat) (ys:Env),Is e l→e.size=n→e=(if b-i2≥2 then Sort.shiftUp ltN b (i2+1) e2 else e2) →
   (ys=[(98,Zah false)]∨(∃ j':Nat,ys=[(10,intV j'),(103,Zah false)])∨∃ j':Nat,ys=[(10,intV j'),(116,Zah true)])→Q .normal ⟨S5 n a b i2 r ys,[(0,some (arrU l))]⟩) :
 wp (K A) Znt Q ⟨S5 n a b i2 r xs,[(0,some (arrU l2))]⟩:=by
 have hi2:(i2:Int)+1=((i2+1:Nat):Int):=by omega
 by_cases hu:b-i2≥2
 ·have huI:(2:Int)≤(b:Int)-i2:=by omega
  rw [if_pos hu] at hQ
  have hw2:=Zoi (A:=A) k1 k2 a b i2 r (i2+1) (by omega) (by omega) hb hl
  generalize i2+1=i3 at *
  unfold Znt
  rcases k4 with rfl|⟨j0,rfl⟩|⟨j0,rfl⟩ <;>
  (simp (maxSteps:=4000000) (disch:=first|omega|(simp;done)|(simp;omega)) [huI,hi2,-getElem?_pos]
   refine wp_mono hw2 ?_
   rintro _ _ ⟨rfl,e',l',j',q1,q2,q3,(rfl|rfl)⟩
   ·simp only [blockQ_exit,beq_self_eq_true,cond_true]
    exact hQ e' l' _ q1 q2 q3 (.inr (.inl ⟨j',rfl⟩))
   ·simp only [blockQ_exit,beq_self_eq_true,cond_true]
    exact hQ e' l' _ q1 q2 q3 (.inr (.inr ⟨j',rfl⟩)))
 ·have huI:¬(2:Int)≤(b:Int)-i2:=by omega
  rw [if_neg hu] at hQ
  have fin:=hQ e2 l2 _ k1 k2 rfl (.inl rfl)
  unfold Znt
  rcases k4 with rfl|⟨j0,rfl⟩|⟨j0,rfl⟩ <;>
  (simp (maxSteps:=4000000) (disch:=first|omega|(simp;done)|(simp;omega)) [huI,-getElem?_pos]
   exact fin)
theorem Zp5 {e:Array Nat}{l:List Nat}(h:Is e l){n:Nat}(hn:e.size=n)(a b:Nat)(hab:a<b)(hb:b≤n)(hl:n≤1073741824) :
 (K A).call 197 [.sc (.arr 0 n),intV a,intV b] [arrU l]=some (Zah (Sort.partialInsertionSort ltN e a b).2,[arrU (Sort.partialInsertionSort ltN e a b).1.toList]):=by
 generalize hR:Sort.partialInsertionSort ltN e a b=R
 unfold Sort.partialInsertionSort at hR
 have hll:=ZaL h
 refine Zan (vf:=v197) (by kernel_rfl) rfl (by simp) ?_
 unfold v197
 simp (maxSteps:=4000000) (disch:=first|omega|(simp;done)|(simp;omega)) [-getElem?_pos]
 refine Zam (fun r s=>∃ (i:Nat) (e:Array Nat) (l:List Nat),Is e l∧e.size=n∧Sort.partialIns ltN a b (5-r) i e=R∧a+1≤i∧i≤b∧s=⟨S5 n a b i r [],[(0,some (arrU l))]⟩) 5
  ⟨a+1,e,l,h,hn,hR,Nat.le_refl _,hab,by simp⟩ ?_ ?_
 ·clear h hn hR hll
  rintro r s hr ⟨i,e,l,h,hn,hR,hai,hib,rfl⟩
  obtain ⟨k,hk⟩:∃ k,5-r=k+1:=⟨4-r,by omega⟩
  rw [hk] at hR
  dsimp only [Sort.partialIns] at hR
  have hr5:(r:Int)<5:=by omega
  obtain ⟨g1,g2⟩:=ss_bd e b _ i (Nat.le_refl _) hib
  have hw:=Znv (A:=A) (xs:=[(14,Zah true)]) h hn a b i r (by omega) hib hb hl (.inr rfl)
  generalize Sort.scanSorted ltN e b i=i2 at *
  unfold ZoJ
  rw [show (sq [oM 95 2,oM 96 7,oB 97 .sub 95 96,oK 98 .geq 97 2] [0,1,2,7,8,98] (cd 98 (sq [oM 99 7,oK 100 .add 99 1,oM 10 100] [0,1,2,7,8,10] (lp 6 ZhT)) .skip))=Znt from rfl]
  simp (maxSteps:=4000000) (disch:=first|omega|(simp;done)|(simp;omega)) [hr5,-getElem?_pos]
  refine wp_mono hw ?_
  rintro _ _ ⟨rfl,rfl⟩
  have hll:=ZaL h
  by_cases hib2:i2=b
  ·rw [if_pos hib2] at hR
   subst hR hib2
   simp (maxSteps:=4000000) (disch:=first|omega|(simp;done)|(simp;omega)) [hll,hn,isEq h,-getElem?_pos]
  ·have hibI:¬(i2:Int)=b:=by omega
   rw [if_neg hib2] at hR
   by_cases h50:b-a<50
   ·have h50I:(b:Int)-a<50:=by omega
    rw [if_pos h50] at hR
    subst hR
    simp (maxSteps:=4000000) (disch:=first|omega|(simp;done)|(simp;omega)) [hib2,hibI,h50I,hll,hn,isEq h,-getElem?_pos]
   ·have h50I:¬(b:Int)-a<50:=by omega
    rw [if_neg h50] at hR
    have hx:=ZaY h (i:=i2) (by omega)
    have hy:=ZaY h (i:=i2-1) (by omega)
    have hsw:=ZdF h i2 (i2-1)
    have hsz:(Sort.swp e i2 (i2-1)).size=n:=by simp [hn]
    generalize Sort.swp e i2 (i2-1)=e1 at *
    generalize e[i2]! = u at *
    generalize e[i2-1]! = v at *
    have hil:i2<l.length:=by omega
    have hil1:i2-1<l.length:=by omega
    have hiI:(i2:Int)-1=((i2-1:Nat):Int):=by omega
    obtain ⟨v2,hv2⟩:=Zaa (l:=l.set i2 v) (i:=i2-1) (by simp;omega)
    generalize hl1:(l.set i2 v).set (i2-1) u=l1 at *
    have cont:∀ (e2:Array Nat) (l2:List Nat) (xs:Env),Is e2 l2→e2.size=n→e2=(if i2-a≥2 then Sort.shiftDown ltN (i2-1) e1 else e1) →
     (xs=[(61,Zah false)]∨(∃ j':Nat,xs=[(9,intV j'),(65,Zah false)])∨∃ j':Nat,xs=[(9,intV j'),(78,Zah true)]) →
     wp (K A) Znt (Zdd 1 (ZfD (K A) (.region [] [o 15 (.mv (tv 8)),o 16 (.bin .add 0 (tv 15) (ki 1)),o 8 (.mv (tv 16))] [] [0,1,2,7,8]) (fun e s' =>
      (e=.normal∧∃ (i:Nat) (e:Array Nat) (l:List Nat),Is e l∧e.size=n∧Sort.partialIns ltN a b (4-r) i e=R∧a+1≤i∧i≤b∧s'=⟨S5 n a b i (r+1) [],[(0,some (arrU l))]⟩) ∨
      (¬e=.normal∧Zdd 0 (ZfD (K A) (.seq (.region [] [o 6 (.mv kF)] [] [6]) .ret) (Zg8 false 1 [.tmp 6] (Zah R.2,[arrU R.1.toList]))) e s'))))
      ⟨S5 n a b i2 r xs,[(0,some (arrU l2))]⟩:=by
     intro e2 l2 xs k1 k2 k3 k4
     refine Zqf (A:=A) (by omega) (by omega) hb hl k1 k2 k4 _ ?_
     intro e' l' ys q1 q2 q3 q4
     rw [←k3,←q3] at hR
     have fin:∃ (i:Nat) (e:Array Nat) (l:List Nat),Is e l∧e.size=n∧Sort.partialIns ltN a b (4-r) i e=R∧a+1≤i∧i≤b∧(⟨S5 n a b i2 (r+1) [],[(0,some (arrU l'))]⟩:St)=⟨S5 n a b i (r+1) [],[(0,some (arrU l))]⟩ :=
      ⟨i2,e',l',q1,q2,by rw [show 4-r=k by omega];exact hR,by omega,by omega,rfl⟩
     rcases q4 with rfl|⟨j0,rfl⟩|⟨j0,rfl⟩ <;>
     (simp (maxSteps:=4000000) (disch:=first|omega|(simp;done)|(simp;omega)) [-getElem?_pos]
      simpa using fin)
    by_cases hd:i2-a≥2
    ·have hdI:(2:Int)≤(i2:Int)-a:=by omega
     rw [if_pos hd] at cont
     have hw1:=ZnZ (A:=A) hsw hsz a b i2 r (i2-1) (by omega) hl
     generalize i2-1=i1 at *
     simp (maxSteps:=4000000) (disch:=first|omega|(simp;done)|(simp;omega)) [hib2,hibI,h50I,hx,hy,hv2,hiI,hdI,hll,hn,hl1,-getElem?_pos]
     refine wp_mono hw1 ?_
     rintro _ _ ⟨rfl,e',l',j',q1,q2,q3,(rfl|rfl)⟩
     ·simp only [blockQ_exit,beq_self_eq_true,cond_true,thenQ_normal]
      exact cont e' l' _ q1 q2 q3 (.inr (.inl ⟨j',rfl⟩))
     ·simp only [blockQ_exit,beq_self_eq_true,cond_true,thenQ_normal]
      exact cont e' l' _ q1 q2 q3 (.inr (.inr ⟨j',rfl⟩))
    ·have hdI:¬(2:Int)≤(i2:Int)-a:=by omega
     rw [if_neg hd] at cont
     simp (maxSteps:=4000000) (disch:=first|omega|(simp;done)|(simp;omega)) [hib2,hibI,h50I,hx,hy,hv2,hiI,hdI,hll,hn,hl1,-getElem?_pos]
     exact cont e1 l1 _ hsw hsz rfl (.inl rfl)
 ·clear h hn hR hll
  rintro s ⟨i,e,l,h,hn,hR,hai,hib,rfl⟩
  rw [Nat.sub_self,Sort.partialIns] at hR
  subst hR
  have hll:=ZaL h
  unfold ZoJ
  simp (maxSteps:=4000000) (disch:=first|omega|(simp;done)|(simp;omega)) [hll,hn,isEq h,-getElem?_pos]
end Go.Vs.Tryz
