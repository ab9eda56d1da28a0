/- The library's sort, walked (5): the partitions (written by wip/gen/mkS5.py). (Parts of one proof, put together.) -/
import Derived.Test.YtlcncicmkkelcaaGreatDoorR8a
set_option linter.unusedSimpArgs false
set_option linter.unusedVariables false
set_option linter.deprecated false
set_option maxHeartbeats 8000000
namespace Go.Vs.Tryz
open Go Go.Vs
variable {A:Zac}
theorem ZmR {p:Nat→Bool}{d:Array Nat}{i j:Nat}(h:i≤j)(hp:p d[i]! = true):Sort.scanUp p d j i=Sort.scanUp p d j (i+1):=by
 rw [Sort.scanUp]
 simp [h,hp]
theorem Zb3 {p:Nat→Bool}{d:Array Nat}{i j:Nat}(h:¬(i≤j∧p d[i]! = true)):Sort.scanUp p d j i=i:=by
 rw [Sort.scanUp,if_neg (by simpa using h)]
theorem Zne (p:Nat→Bool)(d:Array Nat)(j:Nat):∀ (k i:Nat),j+1-i≤k→i≤Sort.scanUp p d j i
 | 0,i,h=>by rw [Zb3 (by omega)];exact Nat.le_refl _
 | k+1,i,h=>by
  by_cases hc:i≤j∧p d[i]! = true
  ·rw [ZmR hc.1 hc.2]
   have:=Zne p d j k (i+1) (by omega)
   omega
  ·rw [Zb3 hc]
   exact Nat.le_refl _
theorem Zm2 (p:Nat→Bool)(d:Array Nat)(j:Nat):∀ (k i:Nat),j+1-i≤k→i≤j+1→Sort.scanUp p d j i≤j+1
 | 0,i,h,h2=>by rw [Zb3 (by omega)];exact h2
 | k+1,i,h,h2=>by
  by_cases hc:i≤j∧p d[i]! = true
  ·rw [ZmR hc.1 hc.2]
   exact Zm2 p d j k (i+1) (by omega) (by omega)
  ·rw [Zb3 hc]
   exact h2
theorem Zj5 {p:Nat→Bool}{d:Array Nat}{i j:Nat}(h1:1≤j)(h:i≤j)(hp:p d[j]! = true):Sort.scanDown p d i j=Sort.scanDown p d i (j-1):=by
 obtain ⟨k,rfl⟩:∃ k,j=k+1:=⟨j-1,by omega⟩
 rw [Sort.scanDown]
 simp [h,hp]
theorem Zdp {p:Nat→Bool}{d:Array Nat}{i j:Nat}(h:¬(i≤j∧p d[j]! = true)):Sort.scanDown p d i j=j:=by
 cases j with
 | zero=>rfl
 | succ k=>rw [Sort.scanDown,if_neg (by simpa using h)]
theorem ZfF (p:Nat→Bool)(d:Array Nat)(i:Nat):∀ j,Sort.scanDown p d i j≤j
 | 0=>Nat.le_refl _
 | j+1=>by
  rw [Sort.scanDown]
  split
  ·have:=ZfF p d i j
   omega
  ·exact Nat.le_refl _
theorem Zna {e:Array Nat}{l:List Nat}(h:Is e l){n:Nat}(hn:e.size=n)(a i j:Nat)(ha:a<n)(hj:j<n)(hl:n≤1073741824)(hi:i≤n+2) :
 wp (K A) (.loop ZlH) (fun x s'=>x=.exit 0∧s'=⟨[(0,.sc (.arr 0 n)),(1,intV a),(10,intV ((Sort.scanUp (fun x=>ltN x e[a]!) e j i:Nat):Int)),(11,intV j),(43,Zah false)],[(0,some (arrU l))]⟩) ⟨[(0,.sc (.arr 0 n)),(1,intV a),(10,intV i),(11,intV j)],[(0,some (arrU l))]⟩:=by
 generalize hp:(fun x=>ltN x e[a]!)=p
 have hpe:∀ x,p x=ltN x e[a]! := fun x=>by rw [←hp]
 clear hp
 refine Zal (fun r s=>∃ i':Nat,Sort.scanUp p e j i'=Sort.scanUp p e j i∧i'=i+r∧s=⟨[(0,.sc (.arr 0 n)),(1,intV a),(10,intV i'),(11,intV j)],[(0,some (arrU l))]⟩) (j+1-i) ⟨i,rfl,rfl,rfl⟩ ?_ ?_
 ·rintro r s hr ⟨i',hs,hi',rfl⟩
  have hij:i'≤j:=by omega
  have hy:=Za0 h (i:=a) (by omega)
  have hz:=Za0 h (i:=i') (by omega)
  have hll:=ZaK h
  have hpz:=hpe e[i']!
  rw [Zf8] at hpz
  have hstop:=Zb3 (p:=p) (d:=e) (i:=i') (j:=j)
  have hgo:=ZmR (p:=p) (d:=e) (i:=i') (j:=j) hij
  generalize e[a]! = y at *
  generalize e[i']! = z at *
  have hless:=ZbG (A:=A) z y
  have hal:a<l.length:=by omega
  have hil:i'<l.length:=by omega
  unfold ZlH
  by_cases hlt:z<y
  ·have hpf:p z=true:=by rw [hpz];simp [hlt]
   rw [hgo hpf] at hs
   simp (maxSteps:=4000000) (disch:=first|omega|(simp;done)|(simp;omega)) [hij,hy,hz,hll,hn,hless,hlt,←hs,-getElem?_pos]
   exact ⟨i'+1,rfl,by omega,by omega⟩
  ·have hpf:¬(i'≤j∧p z=true):=by rw [hpz];simp [hlt]
   rw [hstop hpf] at hs
   simp (maxSteps:=4000000) (disch:=first|omega|(simp;done)|(simp;omega)) [hij,hy,hz,hll,hn,hless,hlt,←hs,-getElem?_pos]
 ·rintro s ⟨i',hs,hi',rfl⟩
  have hij:¬i'≤j:=by omega
  have hijI:¬(i':Int)≤j:=by omega
  rw [Zb3 (by omega)] at hs
  unfold ZlH
  simp (maxSteps:=4000000) (disch:=first|omega|(simp;done)|(simp;omega)) [hij,hijI,←hs,-getElem?_pos]
theorem ZoU {e:Array Nat}{l:List Nat}(h:Is e l){n:Nat}(hn:e.size=n)(a i j:Nat)(ha:a<n)(hj:j<n)(hl:n≤1073741824)(hi:1≤i)(hi2:i≤n+2){xs:Env}(hx:xs=[]∨xs=[(43,Zah false)]) :
 wp (K A) (.loop Zlq) (fun x s'=>x=.exit 2∧s'=⟨[(0,.sc (.arr 0 n)),(1,intV a),(10,intV i),(11,intV ((Sort.scanDown (fun x=>!ltN x e[a]!) e i j:Nat):Int)),(60,Zah false)],[(0,some (arrU l))]⟩) ⟨(0,.sc (.arr 0 n))::(1,intV a)::(10,intV i)::(11,intV j)::xs,[(0,some (arrU l))]⟩:=by
 generalize hp:(fun x=>!ltN x e[a]!)=p
 have hpe:∀ x,p x=!ltN x e[a]! := fun x=>by rw [←hp]
 clear hp
 refine Zal (fun r s=>∃ (j':Nat) (xs:Env),(xs=[]∨xs=[(43,Zah false)])∧Sort.scanDown p e i j'=Sort.scanDown p e i j∧j'+r=j∧s=⟨(0,.sc (.arr 0 n))::(1,intV a)::(10,intV i)::(11,intV j')::xs,[(0,some (arrU l))]⟩) (j+1-i) ⟨j,xs,hx,rfl,rfl,rfl⟩ ?_ ?_
 ·clear hx
  rintro r s hr ⟨j',xs,hx,hs,hj',rfl⟩
  have hij:i≤j':=by omega
  have hy:=Za0 h (i:=a) (by omega)
  have hz:=Za0 h (i:=j') (by omega)
  have hll:=ZaK h
  have hpz:=hpe e[j']!
  rw [Zf8] at hpz
  have hstop:=Zdp (p:=p) (d:=e) (i:=i) (j:=j')
  have hgo:=Zj5 (p:=p) (d:=e) (i:=i) (j:=j') (by omega) hij
  generalize e[a]! = y at *
  generalize e[j']! = z at *
  have hless:=ZbG (A:=A) z y
  have hal:a<l.length:=by omega
  have hjl:j'<l.length:=by omega
  have hj1:(j':Int)-1=((j'-1:Nat):Int):=by omega
  unfold Zlq
  by_cases hlt:z<y
  ·have hpf:¬(i≤j'∧p z=true):=by rw [hpz];simp [hlt]
   rw [hstop hpf] at hs
   rcases hx with rfl|rfl<;>simp (maxSteps:=4000000) (disch:=first|omega|(simp;done)|(simp;omega)) [hij,hy,hz,hj1,hll,hn,hless,hlt,←hs,-getElem?_pos]
  ·have hpf:p z=true:=by rw [hpz];simp [hlt]
   rw [hgo hpf] at hs
   have fin:∃ j'' xs,(xs=[]∨xs=[(43,Zah false)])∧Sort.scanDown p e i j''=Sort.scanDown p e i j∧j''+(r+1)=j∧(⟨[(0,.sc (.arr 0 n)),(1,intV a),(10,intV i),(11,intV ((j'-1:Nat):Int))],[(0,some (arrU l))]⟩:St)=⟨(0,.sc (.arr 0 n))::(1,intV a)::(10,intV i)::(11,intV j'')::xs,[(0,some (arrU l))]⟩ :=
    ⟨j'-1,[],.inl rfl,hs,by omega,rfl⟩
   rcases hx with rfl|rfl<;>(simp (maxSteps:=4000000) (disch:=first|omega|(simp;done)|(simp;omega)) [hij,hy,hz,hj1,hll,hn,hless,hlt,-getElem?_pos];simpa using fin)
 ·clear hx
  rintro s ⟨j',xs,hx,hs,hj',rfl⟩
  have hij:¬i≤j':=by omega
  have hijI:¬(i:Int)≤j':=by omega
  rw [Zdp (by omega)] at hs
  unfold Zlq
  rcases hx with rfl|rfl<;>simp (maxSteps:=4000000) (disch:=first|omega|(simp;done)|(simp;omega)) [hij,hijI,←hs,-getElem?_pos]
theorem ZnP {e:Array Nat}{l:List Nat}(h:Is e l){n:Nat}(hn:e.size=n)(a i j:Nat)(ha:a<n)(hj:j<n)(hl:n≤1073741824)(hi:i≤n+2) :
 wp (K A) (.loop Zk1) (fun x s'=>x=.exit 6∧s'=⟨[(0,.sc (.arr 0 n)),(1,intV a),(10,intV ((Sort.scanUp (fun x=>ltN x e[a]!) e j i:Nat):Int)),(11,intV j),(112,Zah false)],[(0,some (arrU l))]⟩) ⟨[(0,.sc (.arr 0 n)),(1,intV a),(10,intV i),(11,intV j)],[(0,some (arrU l))]⟩:=by
 generalize hp:(fun x=>ltN x e[a]!)=p
 have hpe:∀ x,p x=ltN x e[a]! := fun x=>by rw [←hp]
 clear hp
 refine Zal (fun r s=>∃ i':Nat,Sort.scanUp p e j i'=Sort.scanUp p e j i∧i'=i+r∧s=⟨[(0,.sc (.arr 0 n)),(1,intV a),(10,intV i'),(11,intV j)],[(0,some (arrU l))]⟩) (j+1-i) ⟨i,rfl,rfl,rfl⟩ ?_ ?_
 ·rintro r s hr ⟨i',hs,hi',rfl⟩
  have hij:i'≤j:=by omega
  have hy:=Za0 h (i:=a) (by omega)
  have hz:=Za0 h (i:=i') (by omega)
  have hll:=ZaK h
  have hpz:=hpe e[i']!
  rw [Zf8] at hpz
  have hstop:=Zb3 (p:=p) (d:=e) (i:=i') (j:=j)
  have hgo:=ZmR (p:=p) (d:=e) (i:=i') (j:=j) hij
  generalize e[a]! = y at *
  generalize e[i']! = z at *
  have hless:=ZbG (A:=A) z y
  have hal:a<l.length:=by omega
  have hil:i'<l.length:=by omega
  unfold Zk1
  by_cases hlt:z<y
  ·have hpf:p z=true:=by rw [hpz];simp [hlt]
   rw [hgo hpf] at hs
   simp (maxSteps:=4000000) (disch:=first|omega|(simp;done)|(simp;omega)) [hij,hy,hz,hll,hn,hless,hlt,←hs,-getElem?_pos]
   exact ⟨i'+1,rfl,by omega,by omega⟩
  ·have hpf:¬(i'≤j∧p z=true):=by rw [hpz];simp [hlt]
   rw [hstop hpf] at hs
   simp (maxSteps:=4000000) (disch:=first|omega|(simp;done)|(simp;omega)) [hij,hy,hz,hll,hn,hless,hlt,←hs,-getElem?_pos]
 ·rintro s ⟨i',hs,hi',rfl⟩
  have hij:¬i'≤j:=by omega
  have hijI:¬(i':Int)≤j:=by omega
  rw [Zb3 (by omega)] at hs
  unfold Zk1
  simp (maxSteps:=4000000) (disch:=first|omega|(simp;done)|(simp;omega)) [hij,hijI,←hs,-getElem?_pos]
theorem Zps {e:Array Nat}{l:List Nat}(h:Is e l){n:Nat}(hn:e.size=n)(a i j:Nat)(ha:a<n)(hj:j<n)(hl:n≤1073741824)(hi:1≤i)(hi2:i≤n+2){xs:Env}(hx:xs=[]∨xs=[(112,Zah false)]) :
 wp (K A) (.loop ZlF) (fun x s'=>x=.exit 8∧s'=⟨[(0,.sc (.arr 0 n)),(1,intV a),(10,intV i),(11,intV ((Sort.scanDown (fun x=>!ltN x e[a]!) e i j:Nat):Int)),(129,Zah false)],[(0,some (arrU l))]⟩) ⟨(0,.sc (.arr 0 n))::(1,intV a)::(10,intV i)::(11,intV j)::xs,[(0,some (arrU l))]⟩:=by
 generalize hp:(fun x=>!ltN x e[a]!)=p
 have hpe:∀ x,p x=!ltN x e[a]! := fun x=>by rw [←hp]
 clear hp
 refine Zal (fun r s=>∃ (j':Nat) (xs:Env),(xs=[]∨xs=[(112,Zah false)])∧Sort.scanDown p e i j'=Sort.scanDown p e i j∧j'+r=j∧s=⟨(0,.sc (.arr 0 n))::(1,intV a)::(10,intV i)::(11,intV j')::xs,[(0,some (arrU l))]⟩) (j+1-i) ⟨j,xs,hx,rfl,rfl,rfl⟩ ?_ ?_
 ·clear hx
  rintro r s hr ⟨j',xs,hx,hs,hj',rfl⟩
  have hij:i≤j':=by omega
  have hy:=Za0 h (i:=a) (by omega)
  have hz:=Za0 h (i:=j') (by omega)
  have hll:=ZaK h
  have hpz:=hpe e[j']!
  rw [Zf8] at hpz
  have hstop:=Zdp (p:=p) (d:=e) (i:=i) (j:=j')
  have hgo:=Zj5 (p:=p) (d:=e) (i:=i) (j:=j') (by omega) hij
  generalize e[a]! = y at *
  generalize e[j']! = z at *
  have hless:=ZbG (A:=A) z y
  have hal:a<l.length:=by omega
  have hjl:j'<l.length:=by omega
  have hj1:(j':Int)-1=((j'-1:Nat):Int):=by omega
  unfold ZlF
  by_cases hlt:z<y
  ·have hpf:¬(i≤j'∧p z=true):=by rw [hpz];simp [hlt]
   rw [hstop hpf] at hs
   rcases hx with rfl|rfl<;>simp (maxSteps:=4000000) (disch:=first|omega|(simp;done)|(simp;omega)) [hij,hy,hz,hj1,hll,hn,hless,hlt,←hs,-getElem?_pos]
  ·have hpf:p z=true:=by rw [hpz];simp [hlt]
   rw [hgo hpf] at hs
   have fin:∃ j'' xs,(xs=[]∨xs=[(112,Zah false)])∧Sort.scanDown p e i j''=Sort.scanDown p e i j∧j''+(r+1)=j∧(⟨[(0,.sc (.arr 0 n)),(1,intV a),(10,intV i),(11,intV ((j'-1:Nat):Int))],[(0,some (arrU l))]⟩:St)=⟨(0,.sc (.arr 0 n))::(1,intV a)::(10,intV i)::(11,intV j'')::xs,[(0,some (arrU l))]⟩ :=
    ⟨j'-1,[],.inl rfl,hs,by omega,rfl⟩
   rcases hx with rfl|rfl<;>(simp (maxSteps:=4000000) (disch:=first|omega|(simp;done)|(simp;omega)) [hij,hy,hz,hj1,hll,hn,hless,hlt,-getElem?_pos];simpa using fin)
 ·clear hx
  rintro s ⟨j',xs,hx,hs,hj',rfl⟩
  have hij:¬i≤j':=by omega
  have hijI:¬(i:Int)≤j':=by omega
  rw [Zdp (by omega)] at hs
  unfold ZlF
  rcases hx with rfl|rfl<;>simp (maxSteps:=4000000) (disch:=first|omega|(simp;done)|(simp;omega)) [hij,hijI,←hs,-getElem?_pos]
theorem Zm1 {e:Array Nat}{l:List Nat}(h:Is e l){n:Nat}(hn:e.size=n)(a i j:Nat)(ha:a<n)(hj:j<n)(hl:n≤1073741824)(hi:i≤n+2) :
 wp (K A) (.loop ZlK) (fun x s'=>x=.exit 2∧s'=⟨[(0,.sc (.arr 0 n)),(1,intV a),(9,intV ((Sort.scanUp (fun x=>!ltN e[a]! x) e j i:Nat):Int)),(10,intV j),(43,Zah false)],[(0,some (arrU l))]⟩) ⟨[(0,.sc (.arr 0 n)),(1,intV a),(9,intV i),(10,intV j)],[(0,some (arrU l))]⟩:=by
 generalize hp:(fun x=>!ltN e[a]! x)=p
 have hpe:∀ x,p x=!ltN e[a]! x:=fun x=>by rw [←hp]
 clear hp
 refine Zal (fun r s=>∃ i':Nat,Sort.scanUp p e j i'=Sort.scanUp p e j i∧i'=i+r∧s=⟨[(0,.sc (.arr 0 n)),(1,intV a),(9,intV i'),(10,intV j)],[(0,some (arrU l))]⟩) (j+1-i) ⟨i,rfl,rfl,rfl⟩ ?_ ?_
 ·rintro r s hr ⟨i',hs,hi',rfl⟩
  have hij:i'≤j:=by omega
  have hy:=Za0 h (i:=a) (by omega)
  have hz:=Za0 h (i:=i') (by omega)
  have hll:=ZaK h
  have hpz:=hpe e[i']!
  rw [Zf8] at hpz
  have hstop:=Zb3 (p:=p) (d:=e) (i:=i') (j:=j)
  have hgo:=ZmR (p:=p) (d:=e) (i:=i') (j:=j) hij
  generalize e[a]! = y at *
  generalize e[i']! = z at *
  have hless:=ZbG (A:=A) y z
  have hal:a<l.length:=by omega
  have hil:i'<l.length:=by omega
  unfold ZlK
  by_cases hlt:y<z
  ·have hpf:¬(i'≤j∧p z=true):=by rw [hpz];simp [hlt]
   rw [hstop hpf] at hs
   simp (maxSteps:=4000000) (disch:=first|omega|(simp;done)|(simp;omega)) [hij,hy,hz,hll,hn,hless,hlt,←hs,-getElem?_pos]
  ·have hpf:p z=true:=by rw [hpz];simp [hlt]
   rw [hgo hpf] at hs
   simp (maxSteps:=4000000) (disch:=first|omega|(simp;done)|(simp;omega)) [hij,hy,hz,hll,hn,hless,hlt,←hs,-getElem?_pos]
   exact ⟨i'+1,rfl,by omega,by omega⟩
 ·rintro s ⟨i',hs,hi',rfl⟩
  have hij:¬i'≤j:=by omega
  have hijI:¬(i':Int)≤j:=by omega
  rw [Zb3 (by omega)] at hs
  unfold ZlK
  simp (maxSteps:=4000000) (disch:=first|omega|(simp;done)|(simp;omega)) [hij,hijI,←hs,-getElem?_pos]
theorem Zoq {e:Array Nat}{l:List Nat}(h:Is e l){n:Nat}(hn:e.size=n)(a i j:Nat)(ha:a<n)(hj:j<n)(hl:n≤1073741824)(hi:1≤i)(hi2:i≤n+2){xs:Env}(hx:xs=[]∨xs=[(43,Zah false)]) :
 wp (K A) (.loop Zl2) (fun x s'=>x=.exit 4∧s'=⟨[(0,.sc (.arr 0 n)),(1,intV a),(9,intV i),(10,intV ((Sort.scanDown (fun x=>ltN e[a]! x) e i j:Nat):Int)),(59,Zah false)],[(0,some (arrU l))]⟩) ⟨(0,.sc (.arr 0 n))::(1,intV a)::(9,intV i)::(10,intV j)::xs,[(0,some (arrU l))]⟩:=by
 generalize hp:(fun x=>ltN e[a]! x)=p
 have hpe:∀ x,p x=ltN e[a]! x:=fun x=>by rw [←hp]
 clear hp
 refine Zal (fun r s=>∃ (j':Nat) (xs:Env),(xs=[]∨xs=[(43,Zah false)])∧Sort.scanDown p e i j'=Sort.scanDown p e i j∧j'+r=j∧s=⟨(0,.sc (.arr 0 n))::(1,intV a)::(9,intV i)::(10,intV j')::xs,[(0,some (arrU l))]⟩) (j+1-i) ⟨j,xs,hx,rfl,rfl,rfl⟩ ?_ ?_
 ·clear hx
  rintro r s hr ⟨j',xs,hx,hs,hj',rfl⟩
  have hij:i≤j':=by omega
  have hy:=Za0 h (i:=a) (by omega)
  have hz:=Za0 h (i:=j') (by omega)
  have hll:=ZaK h
  have hpz:=hpe e[j']!
  rw [Zf8] at hpz
  have hstop:=Zdp (p:=p) (d:=e) (i:=i) (j:=j')
  have hgo:=Zj5 (p:=p) (d:=e) (i:=i) (j:=j') (by omega) hij
  generalize e[a]! = y at *
  generalize e[j']! = z at *
  have hless:=ZbG (A:=A) y z
  have hal:a<l.length:=by omega
  have hjl:j'<l.length:=by omega
  have hj1:(j':Int)-1=((j'-1:Nat):Int):=by omega
  unfold Zl2
  by_cases hlt:y<z
  ·have hpf:p z=true:=by rw [hpz];simp [hlt]
   rw [hgo hpf] at hs
   have fin:∃ j'' xs,(xs=[]∨xs=[(43,Zah false)])∧Sort.scanDown p e i j''=Sort.scanDown p e i j∧j''+(r+1)=j∧(⟨[(0,.sc (.arr 0 n)),(1,intV a),(9,intV i),(10,intV ((j'-1:Nat):Int))],[(0,some (arrU l))]⟩:St)=⟨(0,.sc (.arr 0 n))::(1,intV a)::(9,intV i)::(10,intV j'')::xs,[(0,some (arrU l))]⟩ :=
    ⟨j'-1,[],.inl rfl,hs,by omega,rfl⟩
   rcases hx with rfl|rfl<;>(simp (maxSteps:=4000000) (disch:=first|omega|(simp;done)|(simp;omega)) [hij,hy,hz,hj1,hll,hn,hless,hlt,-getElem?_pos];simpa using fin)
  ·have hpf:¬(i≤j'∧p z=true):=by rw [hpz];simp [hlt]
   rw [hstop hpf] at hs
   rcases hx with rfl|rfl<;>simp (maxSteps:=4000000) (disch:=first|omega|(simp;done)|(simp;omega)) [hij,hy,hz,hj1,hll,hn,hless,hlt,←hs,-getElem?_pos]
 ·clear hx
  rintro s ⟨j',xs,hx,hs,hj',rfl⟩
  have hij:¬i≤j':=by omega
  have hijI:¬(i:Int)≤j':=by omega
  rw [Zdp (by omega)] at hs
  unfold Zl2
  rcases hx with rfl|rfl<;>simp (maxSteps:=4000000) (disch:=first|omega|(simp;done)|(simp;omega)) [hij,hijI,←hs,-getElem?_pos]
variable {A:Zac}
theorem ZkH (a i j:Nat)(d:Array Nat):Sort.partLoop ltN a i j d =
 if Sort.scanUp (fun x=>ltN x d[a]!) d j i>Sort.scanDown (fun x=>!ltN x d[a]!) d (Sort.scanUp (fun x=>ltN x d[a]!) d j i) j then (Sort.scanDown (fun x=>!ltN x d[a]!) d (Sort.scanUp (fun x=>ltN x d[a]!) d j i) j,d)
 else if Sort.scanDown (fun x=>!ltN x d[a]!) d (Sort.scanUp (fun x=>ltN x d[a]!) d j i) j-1+1-(Sort.scanUp (fun x=>ltN x d[a]!) d j i+1)<j+1-i then
  Sort.partLoop ltN a (Sort.scanUp (fun x=>ltN x d[a]!) d j i+1) (Sort.scanDown (fun x=>!ltN x d[a]!) d (Sort.scanUp (fun x=>ltN x d[a]!) d j i) j-1) (Sort.swp d (Sort.scanUp (fun x=>ltN x d[a]!) d j i) (Sort.scanDown (fun x=>!ltN x d[a]!) d (Sort.scanUp (fun x=>ltN x d[a]!) d j i) j))
 else (Sort.scanDown (fun x=>!ltN x d[a]!) d (Sort.scanUp (fun x=>ltN x d[a]!) d j i) j,d):=by
 rw [Sort.partLoop]
 simp only [dite_eq_ite]
theorem Zk4 {e:Array Nat}{l:List Nat}(h:Is e l){n:Nat}(hn:e.size=n)(a i j:Nat)(ha:a<n)(hj:j<n)(hl:n≤1073741824)(hi:1≤i)(hi2:i≤j+2) :
 wp (K A) Zli (fun x s' =>
  (x=.normal∧∃ (i' j':Nat) (e':Array Nat) (l':List Nat),Is e' l'∧e'.size=n∧Sort.partLoop ltN a i' j' e'=Sort.partLoop ltN a i j e∧i<i'∧i'≤j+1∧i'≤j'+2∧j'≤j∧s'=⟨[(0,.sc (.arr 0 n)),(1,intV a),(10,intV i'),(11,intV j')],[(0,some (arrU l'))]⟩) ∨
  (x=.exit 4∧∃ (i' j':Nat),Sort.partLoop ltN a i j e=(j',e)∧j'≤j∧i'≤j+2∧s'=⟨[(0,.sc (.arr 0 n)),(1,intV a),(10,intV i'),(11,intV j'),(134,Zah true)],[(0,some (arrU l))]⟩)) ⟨[(0,.sc (.arr 0 n)),(1,intV a),(10,intV i),(11,intV j)],[(0,some (arrU l))]⟩:=by
 have hR:=ZkH a i j e
 unfold Zli
 simp only [wp_block,wp_seq]
 refine wp_mono (ZnP (A:=A) h hn a i j ha hj hl (by omega)) ?_
 rintro _ _ ⟨rfl,rfl⟩
 have g1:=Zne (fun x=>ltN x e[a]!) e j _ i (Nat.le_refl _)
 have g2:i≤j+1→Sort.scanUp (fun x=>ltN x e[a]!) e j i≤j+1:=Zm2 (fun x=>ltN x e[a]!) e j _ i (Nat.le_refl _)
 have g3:¬i≤j+1→Sort.scanUp (fun x=>ltN x e[a]!) e j i=i:=fun hc=>Zb3 (by omega)
 generalize Sort.scanUp (fun x=>ltN x e[a]!) e j i=i2 at *
 simp only [blockQ_exit,beq_self_eq_true,cond_true,thenQ_normal,wp_block,wp_seq]
 refine wp_mono (Zps (A:=A) (xs:=[(112,Zah false)]) h hn a i2 j ha hj hl (by omega) (by omega) (.inr rfl)) ?_
 rintro _ _ ⟨rfl,rfl⟩
 have g4:=ZfF (fun x=>!ltN x e[a]!) e i2 j
 generalize Sort.scanDown (fun x=>!ltN x e[a]!) e i2 j=j2 at *
 simp only [blockQ_exit,beq_self_eq_true,cond_true,thenQ_normal,wp_block,wp_seq]
 by_cases hc:i2>j2
 ·have hcI:((j2:Int)<(i2:Int)):=by omega
  rw [if_pos hc] at hR
  rw [hR]
  have fin:∃ (i' j':Nat),((j2,e):Nat × Array Nat)=(j',e)∧j'≤j∧i'≤j+2∧(⟨[(0,.sc (.arr 0 n)),(1,intV a),(10,intV i2),(11,intV j2),(134,Zah true)],[(0,some (arrU l))]⟩:St)=⟨[(0,.sc (.arr 0 n)),(1,intV a),(10,intV i'),(11,intV j'),(134,Zah true)],[(0,some (arrU l))]⟩ :=
   ⟨i2,j2,rfl,by omega,by omega,rfl⟩
  simp (maxSteps:=4000000) (disch:=first|omega|(simp;done)|(simp;omega)) [hc,hcI,-getElem?_pos]
  simpa using fin
 ·have hcN:¬j2<i2:=by omega
  have hcI:¬((j2:Int)<(i2:Int)):=by omega
  rw [if_neg hc,if_pos (by omega)] at hR
  rw [hR]
  have hx:=Za0 h (i:=i2) (by omega)
  have hy:=Za0 h (i:=j2) (by omega)
  have hsw:=Zd4 h i2 j2
  have hll:=ZaK h
  have hil:i2<l.length:=by omega
  have hjl:j2<l.length:=by omega
  have hj1:(j2:Int)-1=((j2-1:Nat):Int):=by omega
  generalize e[i2]! = u at *
  generalize e[j2]! = v at *
  obtain ⟨v2,hv2⟩:=Zaa (l:=l.set i2 v) (i:=j2) (by simp;omega)
  have fin:∃ (i' j':Nat) (e':Array Nat) (l':List Nat),Is e' l'∧e'.size=n∧Sort.partLoop ltN a i' j' e'=Sort.partLoop ltN a (i2+1) (j2-1) (Sort.swp e i2 j2)∧i<i'∧i'≤j+1∧i'≤j'+2∧j'≤j∧(⟨[(0,.sc (.arr 0 n)),(1,intV a),(10,intV ((i2:Int)+1)),(11,intV ((j2-1:Nat):Int))],[(0,some (arrU ((l.set i2 v).set j2 u)))]⟩:St)=⟨[(0,.sc (.arr 0 n)),(1,intV a),(10,intV i'),(11,intV j')],[(0,some (arrU l'))]⟩ :=
   ⟨i2+1,j2-1,_,_,hsw,by simp [hn],rfl,by omega,by omega,by omega,by omega,by simp⟩
  simp (maxSteps:=4000000) (disch:=first|omega|(simp;done)|(simp;omega)) [hcN,hcI,hx,hy,hv2,hj1,hll,hn,-getElem?_pos]
  simpa using fin
theorem Zqr {e:Array Nat}{l:List Nat}(h:Is e l){n:Nat}(hn:e.size=n)(a i j:Nat)(ha:a<n)(hj:j<n)(hl:n≤1073741824)(hi:1≤i)(hi2:i≤j+2) :
 wp (K A) (.loop Zli) (fun x s'=>x=.exit 4∧∃ (i' j':Nat) (e':Array Nat) (l':List Nat),Is e' l'∧e'.size=n∧Sort.partLoop ltN a i j e=(j',e')∧j'<n∧i'≤n+2∧s'=⟨[(0,.sc (.arr 0 n)),(1,intV a),(10,intV i'),(11,intV j'),(134,Zah true)],[(0,some (arrU l'))]⟩) ⟨[(0,.sc (.arr 0 n)),(1,intV a),(10,intV i),(11,intV j)],[(0,some (arrU l))]⟩:=by
 refine Zal (fun r s=>∃ (i' j':Nat) (e':Array Nat) (l':List Nat),Is e' l'∧e'.size=n∧Sort.partLoop ltN a i' j' e'=Sort.partLoop ltN a i j e∧i+r≤i'∧i'≤j'+2∧j'≤j∧s=⟨[(0,.sc (.arr 0 n)),(1,intV a),(10,intV i'),(11,intV j')],[(0,some (arrU l'))]⟩) (j+1) ⟨i,j,e,l,h,hn,rfl,Nat.le_refl _,hi2,Nat.le_refl _,rfl⟩ ?_ ?_
 ·rintro r s hr ⟨i',j',e',l',h',hn',hR,h1,h2,h3,rfl⟩
  refine wp_mono (Zk4 (A:=A) h' hn' a i' j' ha (by omega) hl (by omega) h2) ?_
  rintro x s (⟨rfl,i2,j2,e2,l2,k1,k2,k3,k4,k5,k6,k7,rfl⟩|⟨rfl,i2,j2,k1,k2,k3,rfl⟩)
  ·exact .inl ⟨rfl,i2,j2,e2,l2,k1,k2,k3.trans hR,by omega,k6,by omega,rfl⟩
  ·exact .inr ⟨by simp,rfl,i2,j2,e',l',h',hn',by rw [←hR,k1],by omega,by omega,rfl⟩
 ·rintro s ⟨i',j',e',l',h',hn',hR,h1,h2,h3,rfl⟩
  refine wp_mono (Zk4 (A:=A) h' hn' a i' j' ha (by omega) hl (by omega) h2) ?_
  rintro x s (⟨rfl,i2,j2,e2,l2,k1,k2,k3,k4,k5,k6,k7,rfl⟩|⟨rfl,i2,j2,k1,k2,k3,rfl⟩)
  ·exfalso
   omega
  ·exact ⟨by simp,rfl,i2,j2,e',l',h',hn',by rw [←hR,k1],by omega,by omega,rfl⟩
theorem ZdJ (a i j:Nat)(d:Array Nat):Sort.partEqLoop ltN a i j d =
 if Sort.scanUp (fun x=>!ltN d[a]! x) d j i>Sort.scanDown (fun x=>ltN d[a]! x) d (Sort.scanUp (fun x=>!ltN d[a]! x) d j i) j then (Sort.scanUp (fun x=>!ltN d[a]! x) d j i,d)
 else if Sort.scanDown (fun x=>ltN d[a]! x) d (Sort.scanUp (fun x=>!ltN d[a]! x) d j i) j-1+1-(Sort.scanUp (fun x=>!ltN d[a]! x) d j i+1)<j+1-i then
  Sort.partEqLoop ltN a (Sort.scanUp (fun x=>!ltN d[a]! x) d j i+1) (Sort.scanDown (fun x=>ltN d[a]! x) d (Sort.scanUp (fun x=>!ltN d[a]! x) d j i) j-1) (Sort.swp d (Sort.scanUp (fun x=>!ltN d[a]! x) d j i) (Sort.scanDown (fun x=>ltN d[a]! x) d (Sort.scanUp (fun x=>!ltN d[a]! x) d j i) j))
 else (Sort.scanUp (fun x=>!ltN d[a]! x) d j i,d):=by
 rw [Sort.partEqLoop]
 simp only [dite_eq_ite]
theorem Zlr {e:Array Nat}{l:List Nat}(h:Is e l){n:Nat}(hn:e.size=n)(a i j:Nat)(ha:a<n)(hj:j<n)(hl:n≤1073741824)(hi:1≤i)(hi2:i≤j+2) :
 wp (K A) Zll (fun x s' =>
  (x=.normal∧∃ (i' j':Nat) (e':Array Nat) (l':List Nat),Is e' l'∧e'.size=n∧Sort.partEqLoop ltN a i' j' e'=Sort.partEqLoop ltN a i j e∧i<i'∧i'≤j+1∧i'≤j'+2∧j'≤j∧s'=⟨[(0,.sc (.arr 0 n)),(1,intV a),(9,intV i'),(10,intV j')],[(0,some (arrU l'))]⟩) ∨
  (x=.exit 0∧∃ (i' j':Nat),Sort.partEqLoop ltN a i j e=(i',e)∧j'≤j∧i'≤j+2∧s'=⟨[(0,.sc (.arr 0 n)),(1,intV a),(9,intV i'),(10,intV j'),(64,Zah true)],[(0,some (arrU l))]⟩)) ⟨[(0,.sc (.arr 0 n)),(1,intV a),(9,intV i),(10,intV j)],[(0,some (arrU l))]⟩:=by
 have hR:=ZdJ a i j e
 unfold Zll
 simp only [wp_block,wp_seq]
 refine wp_mono (Zm1 (A:=A) h hn a i j ha hj hl (by omega)) ?_
 rintro _ _ ⟨rfl,rfl⟩
 have g1:=Zne (fun x=>!ltN e[a]! x) e j _ i (Nat.le_refl _)
 have g2:i≤j+1→Sort.scanUp (fun x=>!ltN e[a]! x) e j i≤j+1:=Zm2 (fun x=>!ltN e[a]! x) e j _ i (Nat.le_refl _)
 have g3:¬i≤j+1→Sort.scanUp (fun x=>!ltN e[a]! x) e j i=i:=fun hc=>Zb3 (by omega)
 generalize Sort.scanUp (fun x=>!ltN e[a]! x) e j i=i2 at *
 simp only [blockQ_exit,beq_self_eq_true,cond_true,thenQ_normal,wp_block,wp_seq]
 refine wp_mono (Zoq (A:=A) (xs:=[(43,Zah false)]) h hn a i2 j ha hj hl (by omega) (by omega) (.inr rfl)) ?_
 rintro _ _ ⟨rfl,rfl⟩
 have g4:=ZfF (fun x=>ltN e[a]! x) e i2 j
 generalize Sort.scanDown (fun x=>ltN e[a]! x) e i2 j=j2 at *
 simp only [blockQ_exit,beq_self_eq_true,cond_true,thenQ_normal,wp_block,wp_seq]
 by_cases hc:i2>j2
 ·have hcI:((j2:Int)<(i2:Int)):=by omega
  rw [if_pos hc] at hR
  rw [hR]
  have fin:∃ (i' j':Nat),((i2,e):Nat × Array Nat)=(i',e)∧j'≤j∧i'≤j+2∧(⟨[(0,.sc (.arr 0 n)),(1,intV a),(9,intV i2),(10,intV j2),(64,Zah true)],[(0,some (arrU l))]⟩:St)=⟨[(0,.sc (.arr 0 n)),(1,intV a),(9,intV i'),(10,intV j'),(64,Zah true)],[(0,some (arrU l))]⟩ :=
   ⟨i2,j2,rfl,by omega,by omega,rfl⟩
  simp (maxSteps:=4000000) (disch:=first|omega|(simp;done)|(simp;omega)) [hc,hcI,-getElem?_pos]
  simpa using fin
 ·have hcN:¬j2<i2:=by omega
  have hcI:¬((j2:Int)<(i2:Int)):=by omega
  rw [if_neg hc,if_pos (by omega)] at hR
  rw [hR]
  have hx:=Za0 h (i:=i2) (by omega)
  have hy:=Za0 h (i:=j2) (by omega)
  have hsw:=Zd4 h i2 j2
  have hll:=ZaK h
  have hil:i2<l.length:=by omega
  have hjl:j2<l.length:=by omega
  have hj1:(j2:Int)-1=((j2-1:Nat):Int):=by omega
  generalize e[i2]! = u at *
  generalize e[j2]! = v at *
  obtain ⟨v2,hv2⟩:=Zaa (l:=l.set i2 v) (i:=j2) (by simp;omega)
  have fin:∃ (i' j':Nat) (e':Array Nat) (l':List Nat),Is e' l'∧e'.size=n∧Sort.partEqLoop ltN a i' j' e'=Sort.partEqLoop ltN a (i2+1) (j2-1) (Sort.swp e i2 j2)∧i<i'∧i'≤j+1∧i'≤j'+2∧j'≤j∧(⟨[(0,.sc (.arr 0 n)),(1,intV a),(9,intV ((i2:Int)+1)),(10,intV ((j2-1:Nat):Int))],[(0,some (arrU ((l.set i2 v).set j2 u)))]⟩:St)=⟨[(0,.sc (.arr 0 n)),(1,intV a),(9,intV i'),(10,intV j')],[(0,some (arrU l'))]⟩ :=
   ⟨i2+1,j2-1,_,_,hsw,by simp [hn],rfl,by omega,by omega,by omega,by omega,by simp⟩
  simp (maxSteps:=4000000) (disch:=first|omega|(simp;done)|(simp;omega)) [hcN,hcI,hx,hy,hv2,hj1,hll,hn,-getElem?_pos]
  simpa using fin
theorem ZpU {e:Array Nat}{l:List Nat}(h:Is e l){n:Nat}(hn:e.size=n)(a i j:Nat)(ha:a<n)(hj:j<n)(hl:n≤1073741824)(hi:1≤i)(hi2:i≤j+2) :
 wp (K A) (.loop Zll) (fun x s'=>x=.exit 0∧∃ (i' j':Nat) (e':Array Nat) (l':List Nat),Is e' l'∧e'.size=n∧Sort.partEqLoop ltN a i j e=(i',e')∧j'<n∧i'≤n+2∧s'=⟨[(0,.sc (.arr 0 n)),(1,intV a),(9,intV i'),(10,intV j'),(64,Zah true)],[(0,some (arrU l'))]⟩) ⟨[(0,.sc (.arr 0 n)),(1,intV a),(9,intV i),(10,intV j)],[(0,some (arrU l))]⟩:=by
 refine Zal (fun r s=>∃ (i' j':Nat) (e':Array Nat) (l':List Nat),Is e' l'∧e'.size=n∧Sort.partEqLoop ltN a i' j' e'=Sort.partEqLoop ltN a i j e∧i+r≤i'∧i'≤j'+2∧j'≤j∧s=⟨[(0,.sc (.arr 0 n)),(1,intV a),(9,intV i'),(10,intV j')],[(0,some (arrU l'))]⟩) (j+1) ⟨i,j,e,l,h,hn,rfl,Nat.le_refl _,hi2,Nat.le_refl _,rfl⟩ ?_ ?_
 ·rintro r s hr ⟨i',j',e',l',h',hn',hR,h1,h2,h3,rfl⟩
  refine wp_mono (Zlr (A:=A) h' hn' a i' j' ha (by omega) hl (by omega) h2) ?_
  rintro x s (⟨rfl,i2,j2,e2,l2,k1,k2,k3,k4,k5,k6,k7,rfl⟩|⟨rfl,i2,j2,k1,k2,k3,rfl⟩)
  ·exact .inl ⟨rfl,i2,j2,e2,l2,k1,k2,k3.trans hR,by omega,k6,by omega,rfl⟩
  ·exact .inr ⟨by simp,rfl,i2,j2,e',l',h',hn',by rw [←hR,k1],by omega,by omega,rfl⟩
 ·rintro s ⟨i',j',e',l',h',hn',hR,h1,h2,h3,rfl⟩
  refine wp_mono (Zlr (A:=A) h' hn' a i' j' ha (by omega) hl (by omega) h2) ?_
  rintro x s (⟨rfl,i2,j2,e2,l2,k1,k2,k3,k4,k5,k6,k7,rfl⟩|⟨rfl,i2,j2,k1,k2,k3,rfl⟩)
  ·exfalso
   omega
  ·exact ⟨by simp,rfl,i2,j2,e',l',h',hn',by rw [←hR,k1],by omega,by omega,rfl⟩
theorem Zs3 {e:Array Nat}{l:List Nat}(h:Is e l){n:Nat}(hn:e.size=n)(a b p:Nat)(ha:a≤p)(hp:p<b)(hb:b≤n)(hl:n≤1073741824) :
 (K A).call 199 [.sc (.arr 0 n),intV a,intV b,intV p] [arrU l]=some (intV (Sort.partitionEqual ltN e a b p).1,[arrU (Sort.partitionEqual ltN e a b p).2.toList]):=by
 generalize hR:Sort.partitionEqual ltN e a b p=R
 unfold Sort.partitionEqual at hR
 have hx:=Za0 h (i:=a) (by omega)
 have hy:=Za0 h (i:=p) (by omega)
 have hsw:=Zd4 h a p
 have hll:=ZaK h
 have hal:a<l.length:=by omega
 have hpl:p<l.length:=by omega
 have hsz:(Sort.swp e a p).size=n:=by simp [hn]
 generalize Sort.swp e a p=e1 at *
 generalize e[a]! = u at *
 generalize e[p]! = v at *
 obtain ⟨v2,hv2⟩:=Zaa (l:=l.set a v) (i:=p) (by simp;omega)
 have hb1:(b:Int)-1=((b-1:Nat):Int):=by omega
 have ha1:(a:Int)+1=((a+1:Nat):Int):=by omega
 have hw:=ZpU (A:=A) hsw hsz a (a+1) (b-1) (by omega) (by omega) hl (by omega) (by omega)
 rw [hR] at hw
 generalize b-1=b1 at *
 generalize a+1=a1 at *
 refine Zas (vf:=v199) (by kernel_rfl) rfl (by simp) ?_
 unfold v199
 simp (maxSteps:=4000000) (disch:=first|omega|(simp;done)|(simp;omega)) [hx,hy,hv2,hb1,ha1,hll,hn,-getElem?_pos]
 refine wp_mono hw ?_
 rintro _ _ ⟨rfl,i',j',e',l',k1,k2,rfl,k4,k5,rfl⟩
 have hll:=ZaK k1
 simp (maxSteps:=4000000) (disch:=first|omega|(simp;done)|(simp;omega)) [hll,k2,isEq k1,-getElem?_pos]
variable {A:Zac}
theorem partA {e:Array Nat}{l:List Nat}(h:Is e l){n:Nat}(hn:e.size=n)(a b p:Nat)(ha:a≤p)(hp:p<b)(hb:b≤n)(hl:n≤1073741824) :
 (K A).call 200 [.sc (.arr 0 n),intV a,intV b,intV p] [arrU l]=some (.tu [intV (Sort.partition ltN e a b p).1,Zah (Sort.partition ltN e a b p).2.1],[arrU (Sort.partition ltN e a b p).2.2.toList]):=by
 generalize hR:Sort.partition ltN e a b p=R
 dsimp only [Sort.partition] at hR
 have hx:=Za0 h (i:=a) (by omega)
 have hy:=Za0 h (i:=p) (by omega)
 have hsw:=Zd4 h a p
 have hll:=ZaK h
 have hal:a<l.length:=by omega
 have hpl:p<l.length:=by omega
 have hsz:(Sort.swp e a p).size=n:=by simp [hn]
 generalize Sort.swp e a p=e1 at *
 generalize e[a]! = u at *
 generalize e[p]! = v at *
 obtain ⟨v2,hv2⟩:=Zaa (l:=l.set a v) (i:=p) (by simp;omega)
 have hb1:(b:Int)-1=((b-1:Nat):Int):=by omega
 have ha1:(a:Int)+1=((a+1:Nat):Int):=by omega
 have hw1:=Zna (A:=A) hsw hsz a (a+1) (b-1) (by omega) (by omega) hl (by omega)
 have g1:=Zne (fun x=>ltN x e1[a]!) e1 (b-1) _ (a+1) (Nat.le_refl _)
 have g2:=Zm2 (fun x=>ltN x e1[a]!) e1 (b-1) _ (a+1) (Nat.le_refl _) (by omega)
 generalize Sort.scanUp (fun x=>ltN x e1[a]!) e1 (b-1) (a+1)=i2 at *
 have hw2:=ZoU (A:=A) (xs:=[(43,Zah false)]) hsw hsz a i2 (b-1) (by omega) (by omega) hl (by omega) (by omega) (.inr rfl)
 have g4:=ZfF (fun x=>!ltN x e1[a]!) e1 i2 (b-1)
 generalize Sort.scanDown (fun x=>!ltN x e1[a]!) e1 i2 (b-1)=j2 at *
 generalize hb1e:b-1=b1 at *
 generalize ha1e:a+1=a1 at *
 generalize hl1:(l.set a v).set p u=l1 at *
 have hll1:=ZaK hsw
 have hx1:=Za0 hsw (i:=a) (by omega)
 have hy1:=Za0 hsw (i:=j2) (by omega)
 have hal1:a<l1.length:=by omega
 have hjl1:j2<l1.length:=by omega
 refine Zas (vf:=v200) (by kernel_rfl) rfl (by simp) ?_
 unfold v200
 simp (maxSteps:=4000000) (disch:=first|omega|(simp;done)|(simp;omega)) [hx,hy,hv2,hb1,ha1,hll,hn,hl1,-getElem?_pos]
 refine wp_mono hw1 ?_
 rintro _ _ ⟨rfl,rfl⟩
 simp only [blockQ_exit,beq_self_eq_true,cond_true,thenQ_normal,wp_block,wp_seq]
 refine wp_mono hw2 ?_
 rintro _ _ ⟨rfl,rfl⟩
 by_cases hc:i2>j2
 ·have hcI:(j2:Int)<(i2:Int):=by omega
  rw [if_pos hc] at hR
  subst hR
  have hsw2:=Zd4 hsw j2 a
  generalize e1[a]! = u1 at *
  generalize e1[j2]! = w1 at *
  obtain ⟨v3,hv3⟩:=Zaa (l:=l1.set j2 u1) (i:=a) (by simp;omega)
  have hsz2:=ZaK hsw2
  simp (maxSteps:=4000000) (disch:=first|omega|(simp;done)|(simp;omega)) [hc,hcI,hx1,hy1,hv3,hll1,hsz,←isEq hsw2,-getElem?_pos]
 ·have hcN:¬j2<i2:=by omega
  have hcI:¬(j2:Int)<(i2:Int):=by omega
  rw [if_neg hc] at hR
  have hz1:=Za0 hsw (i:=i2) (by omega)
  have hil1:i2<l1.length:=by omega
  have hsw2:=Zd4 hsw i2 j2
  have hsz2:(Sort.swp e1 i2 j2).size=n:=by simp [hsz]
  have hj1:(j2:Int)-1=((j2-1:Nat):Int):=by omega
  have hi1:(i2:Int)+1=((i2+1:Nat):Int):=by omega
  have hw3:=Zqr (A:=A) hsw2 hsz2 a (i2+1) (j2-1) (by omega) (by omega) hl (by omega) (by omega)
  generalize Sort.swp e1 i2 j2=e2 at *
  generalize e1[i2]! = u1 at *
  generalize e1[j2]! = w1 at *
  generalize hPL:Sort.partLoop ltN a (i2+1) (j2-1) e2=PL at *
  generalize i2+1=i3 at *
  generalize j2-1=j3 at *
  obtain ⟨v3,hv3⟩:=Zaa (l:=l1.set i2 w1) (i:=j2) (by simp;omega)
  simp (maxSteps:=4000000) (disch:=first|omega|(simp;done)|(simp;omega)) [hcN,hcI,hz1,hy1,hv3,hj1,hi1,hll1,hsz,-getElem?_pos]
  refine wp_mono hw3 ?_
  rintro _ _ ⟨rfl,i',j',e',l',k1,k2,rfl,k4,k5,rfl⟩
  subst hR
  have hll2:=ZaK k1
  have hx2:=Za0 k1 (i:=a) (by omega)
  have hy2:=Za0 k1 (i:=j') (by omega)
  have hsw3:=Zd4 k1 j' a
  have hal2:a<l'.length:=by omega
  have hjl2:j'<l'.length:=by omega
  generalize e'[a]! = u2 at *
  generalize e'[j']! = w2 at *
  obtain ⟨v4,hv4⟩:=Zaa (l:=l'.set j' u2) (i:=a) (by simp;omega)
  simp (maxSteps:=4000000) (disch:=first|omega|(simp;done)|(simp;omega)) [hx2,hy2,hv4,hll2,k2,←isEq hsw3,-getElem?_pos]
end Go.Vs.Tryz
