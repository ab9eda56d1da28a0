/- The library's sort, walked: what its functions compute is what the kit's plain functions say (1). (Parts of one proof, put together.) -/
import Derived.Test.YtlcncicmkkelcaaGreatDoorR5b
import Derived.Sort.AssemblyPlain
import Derived.Test.YtlcncicmkkelcaaGreatDoorR2b
import Derived.Test.YtlcncicmkkelcaaGreatDoorR1b
set_option linter.unusedSimpArgs false
set_option linter.unusedVariables false
set_option linter.deprecated false
set_option maxHeartbeats 8000000
namespace Go.Vs.Tryz
open Go Go.Vs
variable {A:Zac}
def ltN (x y:Nat):Bool:=decide (x<y)
theorem swoN:Sort.SWO ltN:=⟨fun x=>by simp [ltN],fun x y z h1 h2=>by simp only [ltN,decide_eq_true_eq] at *;omega,fun x y z h1 h2=>by simp only [ltN,decide_eq_false_iff_not] at *;omega⟩
theorem ZfX (x y:Nat):ltN x y=decide (x<y):=rfl
abbrev arrA (d:Array Nat):Obj:=arrU d.toList
def Is (e:Array Nat)(l:List Nat):Prop:=e.toList=l
theorem ZaY {e:Array Nat}{l:List Nat}(h:Is e l){i:Nat}(hi:i<e.size):l[i]?=some e[i]! :=by
 cases h
 rw [Array.getElem?_toList]
 simp [hi]
theorem ZdF {e:Array Nat}{l:List Nat}(h:Is e l)(i j:Nat):Is (Sort.swp e i j) ((l.set i e[j]!).set j e[i]!):=by
 cases h
 unfold Is
 simp [Sort.swp]
theorem ZaL {e:Array Nat}{l:List Nat}(h:Is e l):l.length=e.size:=by cases h;simp
theorem isEq {e:Array Nat}{l:List Nat}(h:Is e l):e.toList=l:=h
@[simp] theorem swp_size (d:Array Nat) (i j:Nat):(Sort.swp d i j).size=d.size:=by simp [Sort.swp]
theorem ZqQ {a j:Nat}(e:Array Nat)(h:a<j):Sort.insInner ltN a j e=if e[j]! < e[j-1]! then Sort.insInner ltN a (j-1) (Sort.swp e j (j-1)) else e:=by
 obtain ⟨k,rfl⟩:∃ k,j=k+1:=⟨j-1,by omega⟩
 rw [Sort.insInner]
 simp only [Nat.add_sub_cancel,ltN,h,decide_true,Bool.true_and,decide_eq_true_eq,gt_iff_lt]
theorem ZqH {a:Nat}(e:Array Nat):Sort.insInner ltN a a e=e:=by
 cases a with
 | zero=>rw [Sort.insInner]
 | succ a=>rw [Sort.insInner];simp
theorem Zs0 (d:Array Nat)(a b:Nat)(hab:a≤b)(hb:b≤d.size)(hl:d.size≤1073741824) :
 (K A).call 192 [.sc (.arr 0 d.size),intV a,intV b] [arrA d]=some (retV,[arrA (Sort.insertionSort ltN d a b)]):=by
 generalize hR:Sort.insertionSort ltN d a b=R
 unfold Sort.insertionSort at hR
 have hd:Is d d.toList:=rfl
 generalize hn:d.size=n at *
 refine Zan (vf:=v192) (by kernel_rfl) rfl (by simp) ?_
 unfold v192
 by_cases h0:a=b
 ·subst h0
  rw [Sort.insOuter,if_neg (by omega)] at hR
  subst hR
  have h1:¬(a:Int)+1<a:=by omega
  simp (disch:=first|omega|(simp;done)|(simp;omega))
  refine Zam (fun i s=>s=⟨[(0,.sc (.arr 0 n)),(1,intV a),(2,intV a),(6,intV ((a:Int)+1))],[(0,some (arrU d.toList))]⟩) 0 (by simp) (fun i s hi=>by omega) ?_
  rintro s rfl
  unfold ZlQ
  simp (disch:=first|omega|(simp;done)|(simp;omega)) [h1,retV]
 ·simp (disch:=first|omega|(simp;done)|(simp;omega))
  refine Zam (fun i s=>∃ (e:Array Nat) (l:List Nat),Is e l∧e.size=n∧Sort.insOuter ltN a b (a+1+i) e=R∧s=⟨[(0,.sc (.arr 0 n)),(1,intV a),(2,intV b),(6,intV ((a+1+i:Nat):Int))],[(0,some (arrU l))]⟩) (b-(a+1))
   ⟨d,d.toList,hd,hn,hR,by simp⟩ ?_ ?_
  ·rintro i s hi ⟨e,l,hel,he,hR,rfl⟩
   generalize hi0:a+1+i=i0 at *
   have hi1:(a:Int)+1+(i+1)=(i0:Int)+1:=by omega
   have hib:(i0:Int)<b:=by omega
   have hll:=ZaL hel
   rw [Sort.insOuter,if_pos (by omega)] at hR
   unfold ZlQ
   simp (disch:=first|omega|(simp;done)|(simp;omega)) [hib]
   refine Zam (fun r s=>∃ (e2:Array Nat) (l2:List Nat),Is e2 l2∧e2.size=n∧Sort.insOuter ltN a b (i0+1) (Sort.insInner ltN a (i0-r) e2)=R ∧
    s=⟨[(0,.sc (.arr 0 n)),(1,intV a),(2,intV b),(6,intV i0),(7,intV ((i0-r:Nat):Int))],[(0,some (arrU l2))]⟩) (i0-a)
    ⟨e,l,hel,he,hR,by simp⟩ ?_ ?_
   ·rintro r s hr ⟨e2,l2,hel2,he2,hR2,rfl⟩
    generalize hj:i0-r=j at *
    have hx:=ZaY hel2 (i:=j) (by omega)
    have hy:=ZaY hel2 (i:=j-1) (by omega)
    have hsw:=ZdF hel2 j (j-1)
    rw [ZqQ e2 (by omega)] at hR2
    have hl2:=ZaL hel2
    generalize e2[j]! = x at *
    generalize e2[j-1]! = y at *
    have hja:(a:Int)<j:=by omega
    have hj1:(j:Int)-1=((j-1:Nat):Int):=by omega
    have hless:=ZbB (A:=A) x y
    have hjl:j<l2.length:=by omega
    have hjl2:j-1<l2.length:=by omega
    unfold Zn1
    by_cases hxy:x<y
    ·rw [if_pos hxy] at hR2
     simp (maxSteps:=4000000) (disch:=first|omega|(simp;done)|(simp;omega)) [hja,hj1,hx,hy,hl2,he2,hless,hxy,-getElem?_pos]
     have e1:i0-(r+1)=j-1:=by omega
     exact ⟨_,_,hsw,by simp [he2],by rw [e1];exact hR2,by simp [e1]⟩
    ·rw [if_neg hxy] at hR2
     simp (maxSteps:=4000000) (disch:=first|omega|(simp;done)|(simp;omega)) [hja,hj1,hx,hy,hl2,he2,hless,hxy,-getElem?_pos]
     refine ⟨e2,l2,hel2,he2,?_,?_⟩
     ·rw [show a+1+(i+1)=i0+1 by omega]
      exact hR2
     ·simp [hi1]
   ·rintro s ⟨e2,l2,hel2,he2,hR2,rfl⟩
    have hja:i0-(i0-a)=a:=by omega
    rw [hja,ZqH] at hR2
    rw [hja]
    unfold Zn1
    simp (maxSteps:=4000000) (disch:=first|omega|(simp;done)|(simp;omega)) [-getElem?_pos]
    refine ⟨e2,l2,hel2,he2,?_,?_⟩
    ·rw [show a+1+(i+1)=i0+1 by omega]
     exact hR2
    ·simp [hi1]
  ·rintro s ⟨e,l,hel,he,hR,rfl⟩
   have hbe:a+1+(b-(a+1))=b:=by omega
   rw [hbe,Sort.insOuter,if_neg (by omega)] at hR
   subst hR
   rw [hbe]
   unfold ZlQ
   simp (disch:=first|omega|(simp;done)|(simp;omega)) [retV,isEq hel]
theorem ZeY {hi first root:Nat}(d:Array Nat)(h:2*root+1≥hi):Sort.siftDown ltN hi first root d=d:=by
 rw [Sort.siftDown,dif_pos h]
theorem Zq2 {hi first root:Nat}(d:Array Nat)(h:2*root+2<hi)(hlt:d[first+(2*root+1)]! < d[first+(2*root+2)]!) :
 Sort.siftDown ltN hi first root d=if d[first+root]! < d[first+(2*root+2)]! then Sort.siftDown ltN hi first (2*root+2) (Sort.swp d (first+root) (first+(2*root+2))) else d:=by
 rw [Sort.siftDown,dif_neg (by omega),show 2*root+1+1=2*root+2 by omega,show first+(2*root+1)+1=first+(2*root+2) by omega]
 simp only [ltN,h,hlt,decide_true,Bool.and_self,if_true,dite_true]
 by_cases h2:d[first+root]! < d[first+(2*root+2)]!
 ·simp [h2]
 ·simp [h2]
theorem Zrs {hi first root:Nat}(d:Array Nat)(h:2*root+1<hi)(hlt:¬(2*root+2<hi∧d[first+(2*root+1)]! < d[first+(2*root+2)]!)) :
 Sort.siftDown ltN hi first root d=if d[first+root]! < d[first+(2*root+1)]! then Sort.siftDown ltN hi first (2*root+1) (Sort.swp d (first+root) (first+(2*root+1))) else d:=by
 rw [Sort.siftDown,dif_neg (by omega),show 2*root+1+1=2*root+2 by omega,show first+(2*root+1)+1=first+(2*root+2) by omega]
 have hc:(decide (2*root+2<hi) && ltN d[first+(2*root+1)]! d[first+(2*root+2)]!)=false:=by
  rw [ltN,←Bool.decide_and,decide_eq_false_iff_not]
  exact hlt
 rw [hc]
 simp only [Bool.false_eq_true,if_false,ltN]
 by_cases h2:d[first+root]! < d[first+(2*root+1)]!
 ·simp [h2]
 ·simp [h2]
theorem siftA (d:Array Nat)(lo hi first:Nat)(hh:first+hi≤d.size)(hlo:lo≤1073741824)(hl:d.size≤1073741824) :
 (K A).call 240 [.sc (.arr 0 d.size),intV lo,intV hi,intV first] [arrA d]=some (retV,[arrA (Sort.siftDown ltN hi first lo d)]):=by
 generalize hR:Sort.siftDown ltN hi first lo d=R
 have hd:Is d d.toList:=rfl
 generalize hn:d.size=n at *
 refine Zan (vf:=v240) (by kernel_rfl) rfl (by simp) ?_
 unfold v240
 simp (disch:=first|omega|(simp;done)|(simp;omega))
 refine Zam (fun r s=>∃ (root:Nat) (e:Array Nat) (l:List Nat),Is e l∧e.size=n∧Sort.siftDown ltN hi first root e=R∧r≤root∧root≤1073741824 ∧
  s=⟨[(0,.sc (.arr 0 n)),(2,intV hi),(3,intV first),(8,intV root)],[(0,some (arrU l))]⟩) hi
  ⟨lo,d,d.toList,hd,hn,hR,Nat.zero_le _,hlo,by simp⟩ ?_ ?_
 ·rintro r s hr ⟨root,e,l,hel,he,hR,hrr,hrl,rfl⟩
  have hll:=ZaL hel
  unfold ZmW
  by_cases hstop:hi≤2*root+1
  ·rw [ZeY e hstop] at hR
   subst hR
   have hs:(hi:Int)≤2*root+1:=by omega
   simp (maxSteps:=4000000) (disch:=first|omega|(simp;done)|(simp;omega)) [hs,retV,isEq hel,hll,he,-getElem?_pos]
  ·have hs:¬(hi:Int)≤2*root+1:=by omega
   have hz:=ZaY hel (i:=first+root) (by omega)
   have hx:=ZaY hel (i:=first+(2*root+1)) (by omega)
   generalize hc:2*root+1=c at *
   have hcI:2*(root:Int)+1=c:=by omega
   have hsN:¬hi≤c:=by omega
   generalize hp0:first+root=p0 at *
   generalize hp:first+c=p at *
   have hp0I:(first:Int)+root=p0:=by omega
   have hpI:(first:Int)+c=p:=by omega
   have hp0l:p0<l.length:=by omega
   have hpl:p<l.length:=by omega
   by_cases hr2:c+1<hi∧e[p]! < e[p+1]!
   ·obtain ⟨h1,h2⟩:=hr2
    have hy:=ZaY hel (i:=p+1) (by omega)
    have hsw:=ZdF hel p0 (p+1)
    have hR2:=Zq2 (first:=first) (root:=root) e (by omega:2*root+2<hi) (by rw [show 2*root+2=c+1 by omega,show 2*root+1=c by omega,hp,show first+(c+1)=p+1 by omega];exact h2)
    rw [hR,hp0,show 2*root+2=c+1 by omega,show first+(c+1)=p+1 by omega] at hR2
    have hless:=ZbB (A:=A) e[p]! e[p+1]!
    have hless2:=ZbB (A:=A) e[p0]! e[p+1]!
    generalize e[p0]! = z at *
    generalize e[p]! = x at *
    generalize e[p+1]! = y at *
    have h1I:(c:Int)+1<hi:=by omega
    have hpI2:(first:Int)+(c+1)=((p+1:Nat):Int):=by omega
    have hpI3:(p:Int)+1=((p+1:Nat):Int):=by omega
    generalize hq:p+1=q at *
    have hql:q<l.length:=by omega
    by_cases hzy:z<y
    ·rw [if_pos hzy] at hR2
     simp (maxSteps:=4000000) (disch:=first|omega|(simp;done)|(simp;omega)) [hs,hsN,hcI,hp0I,hpI,hpI2,hpI3,h1I,h2,hx,hy,hz,hll,he,hless,hless2,hzy,-getElem?_pos]
     exact ⟨c+1,_,_,hsw,by simp [he],hR2.symm,by omega,by omega,by simp⟩
    ·rw [if_neg hzy] at hR2
     subst hR2
     simp (maxSteps:=4000000) (disch:=first|omega|(simp;done)|(simp;omega)) [hs,hsN,hcI,hp0I,hpI,hpI2,hpI3,h1I,h2,hx,hy,hz,hll,he,hless,hless2,hzy,retV,isEq hel,-getElem?_pos]
   ·have hsw:=ZdF hel p0 p
    have hR2:=Zrs (first:=first) (root:=root) e (by omega:2*root+1<hi) (by rw [show 2*root+2=c+1 by omega,show 2*root+1=c by omega,hp,show first+(c+1)=p+1 by omega];exact hr2)
    rw [hR,hp0,show 2*root+1=c by omega,hp] at hR2
    have hless2:=ZbB (A:=A) e[p0]! e[p]!
    by_cases h1:c+1<hi
    ·have h2:¬e[p]! < e[p+1]! := fun h=>hr2 ⟨h1,h⟩
     have hy:=ZaY hel (i:=p+1) (by omega)
     have hless:=ZbB (A:=A) e[p]! e[p+1]!
     clear hr2
     generalize e[p0]! = z at *
     generalize e[p]! = x at *
     generalize e[p+1]! = y at *
     have h1I:(c:Int)+1<hi:=by omega
     have hpI2:(first:Int)+(c+1)=((p+1:Nat):Int):=by omega
     have hpI3:(p:Int)+1=((p+1:Nat):Int):=by omega
     generalize hq:p+1=q at *
     have hql:q<l.length:=by omega
     by_cases hzy:z<x
     ·rw [if_pos hzy] at hR2
      simp (maxSteps:=4000000) (disch:=first|omega|(simp;done)|(simp;omega)) [hs,hsN,hcI,hp0I,hpI,hpI2,hpI3,h1I,h2,hx,hy,hz,hll,he,hless,hless2,hzy,-getElem?_pos]
      exact ⟨c,_,_,hsw,by simp [he],hR2.symm,by omega,by omega,by simp⟩
     ·rw [if_neg hzy] at hR2
      subst hR2
      simp (maxSteps:=4000000) (disch:=first|omega|(simp;done)|(simp;omega)) [hs,hsN,hcI,hp0I,hpI,hpI2,hpI3,h1I,h2,hx,hy,hz,hll,he,hless,hless2,hzy,retV,isEq hel,-getElem?_pos]
    ·clear hr2
     generalize e[p0]! = z at *
     generalize e[p]! = x at *
     have h1I:¬(c:Int)+1<hi:=by omega
     by_cases hzy:z<x
     ·rw [if_pos hzy] at hR2
      simp (maxSteps:=4000000) (disch:=first|omega|(simp;done)|(simp;omega)) [hs,hsN,hcI,hp0I,hpI,h1I,hx,hz,hll,he,hless2,hzy,-getElem?_pos]
      exact ⟨c,_,_,hsw,by simp [he],hR2.symm,by omega,by omega,by simp⟩
     ·rw [if_neg hzy] at hR2
      subst hR2
      simp (maxSteps:=4000000) (disch:=first|omega|(simp;done)|(simp;omega)) [hs,hsN,hcI,hp0I,hpI,h1I,hx,hz,hll,he,hless2,hzy,retV,isEq hel,-getElem?_pos]
 ·rintro s ⟨root,e,l,hel,he,hR,hrr,hrl,rfl⟩
  have hll:=ZaL hel
  rw [ZeY e (by omega)] at hR
  subst hR
  have hs:(hi:Int)≤2*root+1:=by omega
  unfold ZmW
  simp (maxSteps:=4000000) (disch:=first|omega|(simp;done)|(simp;omega)) [hs,retV,isEq hel,hll,he,-getElem?_pos]
variable {A:Zac}
theorem Zgl (hi first:Nat):∀ (k root:Nat)(d:Array Nat),hi-root≤k→(Sort.siftDown ltN hi first root d).size=d.size
 | 0,root,d,h=>by rw [ZeY d (by omega)]
 | k+1,root,d,h=>by
  by_cases h1:2*root+1≥hi
  ·rw [ZeY d h1]
  ·by_cases h2:2*root+2<hi∧d[first+(2*root+1)]! < d[first+(2*root+2)]!
   ·rw [Zq2 d h2.1 h2.2]
    split
    ·rw [Zgl hi first k _ _ (by omega),swp_size]
    ·rfl
   ·rw [Zrs d (by omega) h2]
    split
    ·rw [Zgl hi first k _ _ (by omega),swp_size]
    ·rfl
@[simp] theorem siftDown_size (hi first root:Nat) (d:Array Nat):(Sort.siftDown ltN hi first root d).size=d.size:=Zgl hi first _ root d (Nat.le_refl _)
theorem siftL {e:Array Nat}{l:List Nat}(h:Is e l){n:Nat}(hn:e.size=n)(lo hi first:Nat)(hh:first+hi≤n)(hlo:lo≤1073741824)(hl:n≤1073741824) :
 (K A).call 240 [.sc (.arr 0 n),intV lo,intV hi,intV first] [arrU l]=some (retV,[arrU (Sort.siftDown ltN hi first lo e).toList]):=by
 cases h
 subst hn
 exact siftA e lo hi first hh hlo hl
theorem heapA (d:Array Nat)(a b:Nat)(hab:a<b)(hb:b≤d.size)(hl:d.size≤1073741824) :
 (K A).call 193 [.sc (.arr 0 d.size),intV a,intV b] [arrA d]=some (retV,[arrA (Sort.heapSort ltN d a b)]):=by
 generalize hR:Sort.heapSort ltN d a b=R
 unfold Sort.heapSort at hR
 have hd:Is d d.toList:=rfl
 generalize hn:d.size=n at *
 refine Zan (vf:=v193) (by kernel_rfl) rfl (by simp) ?_
 unfold v193
 generalize hh:b-a=hi at *
 have hhI:(b:Int)-a=hi:=by omega
 have hm1:(hi:Int)-1=((hi-1:Nat):Int):=by omega
 have hq:Int.tdiv ((hi-1:Nat):Int) 2=(((hi-1) / 2:Nat):Int):=by
  rw [Int.tdiv_eq_ediv_of_nonneg (by omega)]
  omega
 generalize hk:(hi-1) / 2=k0 at *
 simp (maxSteps:=4000000) (disch:=first|omega|(simp;done)|(simp;omega)) [hhI,hm1,hq]
 refine Zam (fun r s=>∃ (e:Array Nat) (l:List Nat),Is e l∧e.size=n∧Sort.heapPop ltN a hi (Sort.heapBuild ltN hi a (k0+1-r) e)=R ∧
  s=⟨[(0,.sc (.arr 0 n)),(6,intV a),(7,intV 0),(8,intV hi),(9,intV ((k0:Int)-r))],[(0,some (arrU l))]⟩) (k0+1)
  ⟨d,d.toList,hd,hn,by rw [←hR,Nat.sub_zero],by simp⟩ ?_ ?_
 ·rintro r s hr ⟨e,l,hel,he,hR,rfl⟩
  obtain ⟨i,hi1⟩:∃ i,k0+1-r=i+1:=⟨k0-r,by omega⟩
  rw [hi1,Sort.heapBuild] at hR
  have hiI:(k0:Int)-r=(i:Int):=by omega
  have hs:=siftL (A:=A) hel he i hi a (by omega) (by omega) (by omega)
  have hsz:(Sort.siftDown ltN hi a i e).size=n:=by simp [he]
  rw [hiI]
  generalize hg:Sort.siftDown ltN hi a i e=g at *
  have hgl:g.toList.length=n:=by simp [hsz]
  unfold Znq
  simp (maxSteps:=4000000) (disch:=first|omega|(simp;done)|(simp;omega)) [hs,ZaL hel,he,hsz,retV,V.ren]
  refine ⟨g,g.toList,rfl,hsz,?_,?_⟩
  ·rw [show k0-r=i by omega]
   exact hR
  ·simp
   omega
 ·rintro s ⟨e,l,hel,he,hR,rfl⟩
  rw [show k0+1-(k0+1)=0 by omega,Sort.heapBuild] at hR
  have hneg:¬(0:Int)≤(k0:Int)-((k0+1:Nat):Int):=by omega
  have hneg2:(k0:Int)-((k0:Int)+1)=-1:=by omega
  unfold Znq
  simp (maxSteps:=4000000) (disch:=first|omega|(simp;done)|(simp;omega)) [hneg,hneg2,hm1]
  refine Zam (fun r s=>∃ (e:Array Nat) (l:List Nat),Is e l∧e.size=n∧Sort.heapPop ltN a (hi-r) e=R ∧
   s=⟨[(0,.sc (.arr 0 n)),(6,intV a),(7,intV 0),(10,intV ((hi:Int)-1-r))],[(0,some (arrU l))]⟩) hi
   ⟨e,l,hel,he,hR,by simp;omega⟩ ?_ ?_
  ·rintro r s hr ⟨e,l,hel,he,hR,rfl⟩
   obtain ⟨i,hi1⟩:∃ i,hi-r=i+1:=⟨hi-r-1,by omega⟩
   rw [hi1,Sort.heapPop] at hR
   have hiI:(hi:Int)-1-r=(i:Int):=by omega
   rw [hiI]
   have hx:=ZaY hel (i:=a) (by omega)
   have hy:=ZaY hel (i:=a+i) (by omega)
   have hsw:=ZdF hel a (a+i)
   have hpI:(a:Int)+i=((a+i:Nat):Int):=by omega
   have hs:=siftL (A:=A) hsw (by simp [he]) 0 i a (by omega) (by omega) (by omega:n≤_)
   have hsz:(Sort.siftDown ltN i a 0 (Sort.swp e a (a+i))).size=n:=by simp [he]
   have h00:((0:Nat):Int)=0:=rfl
   rw [h00] at hs
   generalize hp:a+i=p at *
   generalize e[a]! = x at *
   generalize e[p]! = y at *
   have hpl:p<l.length:=by rw [ZaL hel];omega
   have hal:a<l.length:=by rw [ZaL hel];omega
   generalize hg:Sort.siftDown ltN i a 0 (Sort.swp e a p)=g at *
   have hgl:g.toList.length=n:=by simp [hsz]
   obtain ⟨v,hv⟩:=Zaa (l:=l.set a y) (i:=p) (by simp;omega)
   unfold ZoG
   simp (maxSteps:=4000000) (disch:=first|omega|(simp;done)|(simp;omega)) [hv,hx,hy,hpI,hs,ZaL hel,he,hsz,retV,V.ren,-getElem?_pos]
   refine ⟨g,g.toList,rfl,hsz,?_,?_⟩
   ·rw [show hi-(r+1)=i by omega]
    exact hR
   ·simp
    omega
  ·rintro s ⟨e,l,hel,he,hR,rfl⟩
   rw [Nat.sub_self,Sort.heapPop] at hR
   subst hR
   have hneg:¬(0:Int)≤(hi:Int)-1-hi:=by omega
   have hneg3:(hi:Int)-1-hi=-1:=by omega
   unfold ZoG
   simp (maxSteps:=4000000) (disch:=first|omega|(simp;done)|(simp;omega)) [hneg,hneg3,retV,isEq hel]
theorem Zpu (d:Array Nat)(a b:Nat)(hab:a<b)(hb:b≤d.size)(hl:d.size≤1073741824) :
 (K A).call 196 [.sc (.arr 0 d.size),intV a,intV b] [arrA d]=some (retV,[arrA (Sort.reverseRange d a b)]):=by
 generalize hR:Sort.reverseRange d a b=R
 unfold Sort.reverseRange at hR
 have hd:Is d d.toList:=rfl
 generalize hn:d.size=n at *
 refine Zan (vf:=v196) (by kernel_rfl) rfl (by simp) ?_
 unfold v196
 have hb1:(b:Int)-1=((b-1:Nat):Int):=by omega
 simp (maxSteps:=4000000) (disch:=first|omega|(simp;done)|(simp;omega)) [hb1]
 refine Zam (fun r s=>∃ (i j:Nat) (e:Array Nat) (l:List Nat),Is e l∧e.size=n∧Sort.reverseLoop i j e=R∧j+r≤b-1∧i≤b ∧
  s=⟨[(0,.sc (.arr 0 n)),(6,intV i),(7,intV j)],[(0,some (arrU l))]⟩) b
  ⟨a,b-1,d,d.toList,hd,hn,hR,by omega,by omega,by simp⟩ ?_ ?_
 ·rintro r s hr ⟨i,j,e,l,hel,he,hR,hj,hib,rfl⟩
  rw [Sort.reverseLoop] at hR
  unfold Zrq
  by_cases hij:i<j
  ·rw [if_pos hij] at hR
   have hx:=ZaY hel (i:=i) (by omega)
   have hy:=ZaY hel (i:=j) (by omega)
   have hsw:=ZdF hel i j
   generalize e[i]! = x at *
   generalize e[j]! = y at *
   have hil:i<l.length:=by rw [ZaL hel];omega
   have hjl:j<l.length:=by rw [ZaL hel];omega
   have hj1:(j:Int)-1=((j-1:Nat):Int):=by omega
   simp (maxSteps:=4000000) (disch:=first|omega|(simp;done)|(simp;omega)) [hij,hx,hy,hj1,ZaL hel,he,-getElem?_pos]
   exact ⟨i+1,j-1,_,_,hsw,by simp [he],hR,by omega,by omega,by simp⟩
  ·rw [if_neg hij] at hR
   subst hR
   simp (maxSteps:=4000000) (disch:=first|omega|(simp;done)|(simp;omega)) [hij,retV,isEq hel]
 ·rintro s ⟨i,j,e,l,hel,he,hR,hj,hib,rfl⟩
  omega
end Go.Vs.Tryz
namespace Go.Vs
open Go
def shlI (k:IntKind)(a b:Int):Int:=k.wrap (a*2 ^ (min b.toNat k.bits))
def xorI (k:IntKind)(a b:Int):Int:=k.wrap (BitVec.ofInt k.bits a ^^^ BitVec.ofInt k.bits b).toNat
@[simp] theorem b_shl {k k':IntKind} {a b:Int} (h:0≤b):binV .shl 0 (.sc (.c (.int k a))) (.sc (.c (.int k' b)))=some (.sc (.c (.int k (shlI k a b))),[]):=by
 simp [binV,binW,Za2,Zd9,Int.not_lt.2 h,shlI]
@[simp] theorem b_xor {k:IntKind} {a b:Int}:binV .xor 0 (.sc (.c (.int k a))) (.sc (.c (.int k b)))=some (.sc (.c (.int k (xorI k a b))),[]):=by simp [binV,binW,Za2,Zb8,xorI]
theorem ZaO (n:Nat)(h:n<18446744073709551616):IntKind.u64.wrap (n:Int)=n:=by
 unfold IntKind.wrap
 simp [IntKind.bits,IntKind.signed]
 omega
theorem ZoF (x:UInt64)(k:Nat)(hk:k<64)(y:UInt64)(hy:y.toNat=k):shlI .u64 x.toNat (k:Int)=((x <<< y).toNat:Int):=by
 unfold shlI
 rw [UInt64.toNat_shiftLeft,hy,Nat.mod_eq_of_lt hk,Nat.shiftLeft_eq,Int.toNat_natCast,show min k IntKind.u64.bits=k from Nat.min_eq_left (Nat.le_of_lt hk)]
 unfold IntKind.wrap
 simp [IntKind.bits,IntKind.signed]
theorem ZrZ (x:UInt64)(k:Nat)(hk:k<64)(y:UInt64)(hy:y.toNat=k):shrI .u64 x.toNat (k:Int)=((x >>> y).toNat:Int):=by
 unfold shrI
 rw [UInt64.toNat_shiftRight,hy,Nat.mod_eq_of_lt hk,Nat.shiftRight_eq_div_pow,Int.toNat_natCast,show min k IntKind.u64.bits=k from Nat.min_eq_left (Nat.le_of_lt hk)]
 rw [Int.fdiv_eq_ediv_of_nonneg _ (Int.le_of_lt (Int.pow_pos (by decide)))]
 simp
theorem ZsC (x y:UInt64):xorI .u64 x.toNat y.toNat=((x ^^^ y).toNat:Int):=by
 unfold xorI
 have e:∀ z:UInt64,BitVec.ofInt IntKind.u64.bits (z.toNat:Int)=z.toBitVec:=fun z=>by
  rw [BitVec.ofInt_natCast]
  apply BitVec.eq_of_toNat_eq
  rw [BitVec.toNat_ofNat]
  exact Nat.mod_eq_of_lt z.toNat_lt
 rw [e,e]
 exact ZaO _ (x ^^^ y).toNat_lt
theorem ZsO (a b:Nat)(ha:a<18446744073709551616)(hb:b<18446744073709551616):andI .u64 a b=((a &&& b:Nat):Int):=by
 unfold andI
 rw [BitVec.ofInt_natCast,BitVec.ofInt_natCast,BitVec.toNat_and,BitVec.toNat_ofNat,BitVec.toNat_ofNat]
 rw [show 2 ^ IntKind.u64.bits=18446744073709551616 from rfl,Nat.mod_eq_of_lt ha,Nat.mod_eq_of_lt hb]
 exact ZaO _ (Nat.lt_of_le_of_lt Nat.and_le_left ha)
end Go.Vs
namespace Go.Vs.Tryz
open Go Go.Vs
variable {A:Zac}
abbrev boxI (s:Nat):Obj:=.box [.c (.int .i64 (s:Int))]
theorem Zkc {e:Array Nat}{l:List Nat}(h:Is e l){n:Nat}(hn:e.size=n)(a b s:Nat)(ha:a<n)(hb:b<n)(hs:s≤1000)(hl:n≤1073741824) :
 (K A).call 262 [.sc (.arr 0 n),intV a,intV b,.sc (.ptr 1 0)] [arrU l,boxI s] =
   some (.tu [intV (Sort.order2 ltN e a b s).1,intV (Sort.order2 ltN e a b s).2.1],[arrU l,boxI (Sort.order2 ltN e a b s).2.2]):=by
 have hx:=ZaY h (i:=a) (by omega)
 have hy:=ZaY h (i:=b) (by omega)
 have hll:=ZaL h
 have hless:=ZbB (A:=A) e[b]! e[a]!
 unfold Sort.order2
 generalize e[a]! = x at *
 generalize e[b]! = y at *
 rw [ZfX]
 have hal:a<l.length:=by omega
 have hbl:b<l.length:=by omega
 refine Zan (vf:=v262) (by kernel_rfl) rfl (by simp) ?_
 unfold v262
 by_cases hlt:y<x
 ·simp only [hlt,decide_true,if_true]
  simp (maxSteps:=4000000) (disch:=first|omega|(simp;done)|(simp;omega)) [hx,hy,hll,hn,hless,hlt,-getElem?_pos]
 ·simp only [hlt,decide_false,Bool.false_eq_true,if_false]
  simp (maxSteps:=4000000) (disch:=first|omega|(simp;done)|(simp;omega)) [hx,hy,hll,hn,hless,hlt,-getElem?_pos]
theorem ZgT (e:Array Nat){a b s n:Nat}(ha:a<n)(hb:b<n):(Sort.order2 ltN e a b s).1<n∧(Sort.order2 ltN e a b s).2.1<n∧(Sort.order2 ltN e a b s).2.2≤s+1:=by
 unfold Sort.order2
 split
 ·exact ⟨hb,ha,Nat.le_refl _⟩
 ·exact ⟨ha,hb,Nat.le_succ _⟩
theorem Zj5 {e:Array Nat}{l:List Nat}(h:Is e l){n:Nat}(hn:e.size=n)(a b c s:Nat)(ha:a<n)(hb:b<n)(hc:c<n)(hs:s≤900)(hl:n≤1073741824) :
 (K A).call 244 [.sc (.arr 0 n),intV a,intV b,intV c,.sc (.ptr 1 0)] [arrU l,boxI s]=some (intV (Sort.median ltN e a b c s).1,[arrU l,boxI (Sort.median ltN e a b c s).2]) ∧
   (Sort.median ltN e a b c s).1<n∧(Sort.median ltN e a b c s).2≤s+3:=by
 unfold Sort.median
 have h1:=Zkc (A:=A) h hn a b s ha hb (by omega) hl
 obtain ⟨p1,p2,p3⟩:=ZgT (s:=s) e ha hb
 generalize Sort.order2 ltN e a b s=r1 at *
 obtain ⟨a1,b1,s1⟩:=r1
 simp only at *
 have h2:=Zkc (A:=A) h hn b1 c s1 p2 hc (by omega) hl
 obtain ⟨q1,q2,q3⟩:=ZgT (s:=s1) e p2 hc
 generalize Sort.order2 ltN e b1 c s1=r2 at *
 obtain ⟨b2,c2,s2⟩:=r2
 simp only at *
 have h3:=Zkc (A:=A) h hn a1 b2 s2 p1 q1 (by omega) hl
 obtain ⟨t1,t2,t3⟩:=ZgT (s:=s2) e p1 q1
 generalize Sort.order2 ltN e a1 b2 s2=r3 at *
 obtain ⟨a3,b3,s3⟩:=r3
 simp only at *
 have hll:=ZaL h
 refine ⟨?_,t2,by omega⟩
 refine Zan (vf:=v244) (by kernel_rfl) rfl (by simp) ?_
 unfold v244
 simp (maxSteps:=4000000) (disch:=first|omega|(simp;done)|(simp;omega)) [h1,h2,h3,hll,hn,V.ren,-getElem?_pos]
theorem Zfo {e:Array Nat}{l:List Nat}(h:Is e l){n:Nat}(hn:e.size=n)(a s:Nat)(ha1:1≤a)(ha:a+1<n)(hs:s≤900)(hl:n≤1073741824) :
 (K A).call 243 [.sc (.arr 0 n),intV a,.sc (.ptr 1 0)] [arrU l,boxI s]=some (intV (Sort.medianAdjacent ltN e a s).1,[arrU l,boxI (Sort.medianAdjacent ltN e a s).2]) ∧
   (Sort.medianAdjacent ltN e a s).1<n∧(Sort.medianAdjacent ltN e a s).2≤s+3:=by
 unfold Sort.medianAdjacent
 obtain ⟨h1,h2,h3⟩:=Zj5 (A:=A) h hn (a-1) a (a+1) s (by omega) (by omega) ha hs hl
 refine ⟨?_,h2,h3⟩
 have e1:(a:Int)-1=((a-1:Nat):Int):=by omega
 have e2:(a:Int)+1=((a+1:Nat):Int):=by omega
 generalize hp:a-1=p at *
 generalize hq:a+1=q at *
 generalize Sort.median ltN e p a q s=r at *
 have hll:=ZaL h
 refine Zan (vf:=v243) (by kernel_rfl) rfl (by simp) ?_
 unfold v243
 simp (maxSteps:=4000000) (disch:=first|omega|(simp;done)|(simp;omega)) [h1,e1,e2,hll,hn,V.ren,-getElem?_pos]
def Zfv:Sort.Hint→Nat
 | .unknown=>0
 | .increasing=>1
 | .decreasing=>2
def pivR (e:Array Nat)(a b:Nat):Nat × Nat :=
 if b-a≥8 then
  if b-a≥50 then
   Sort.median ltN e (Sort.medianAdjacent ltN e (a+(b-a) / 4*1) 0).1 (Sort.medianAdjacent ltN e (a+(b-a) / 4*2) (Sort.medianAdjacent ltN e (a+(b-a) / 4*1) 0).2).1
    (Sort.medianAdjacent ltN e (a+(b-a) / 4*3) (Sort.medianAdjacent ltN e (a+(b-a) / 4*2) (Sort.medianAdjacent ltN e (a+(b-a) / 4*1) 0).2).2).1
    (Sort.medianAdjacent ltN e (a+(b-a) / 4*3) (Sort.medianAdjacent ltN e (a+(b-a) / 4*2) (Sort.medianAdjacent ltN e (a+(b-a) / 4*1) 0).2).2).2
  else Sort.median ltN e (a+(b-a) / 4*1) (a+(b-a) / 4*2) (a+(b-a) / 4*3) 0
 else (a+(b-a) / 4*2,0)
def Zn6 (s:Nat):Sort.Hint:=if s=0 then .increasing else if s=12 then .decreasing else .unknown
theorem Zow (e:Array Nat)(a b:Nat):Sort.choosePivot ltN e a b=((pivR e a b).1,Zn6 (pivR e a b).2):=rfl
theorem ZtP (s:Nat):Zfv (Zn6 s)=if s=0 then 1 else if s=12 then 2 else 0:=by
 unfold Zn6
 split
 ·rfl
 ·split<;>rfl
theorem pivotA {e:Array Nat}{l:List Nat}(h:Is e l){n:Nat}(hn:e.size=n)(a b:Nat)(hab:a<b)(hb:b≤n)(hl:n≤1073741824) :
 (K A).call 195 [.sc (.arr 0 n),intV a,intV b] [arrU l]=some (.tu [intV (Sort.choosePivot ltN e a b).1,intV (Zfv (Sort.choosePivot ltN e a b).2)],[arrU l]):=by
 rw [Zow,ZtP]
 generalize hr:pivR e a b=r
 unfold pivR at hr
 generalize hL:b-a=L at *
 have hLI:(b:Int)-a=L:=by omega
 have hq:Int.tdiv (L:Int) 4=((L / 4:Nat):Int):=by
  rw [Int.tdiv_eq_ediv_of_nonneg (by omega)]
  omega
 generalize hQ:L / 4=Q at *
 generalize hi:a+Q*1=i at *
 generalize hj:a+Q*2=j at *
 generalize hk:a+Q*3=k at *
 have hiI:(a:Int)+Q=i:=by omega
 have hjI:(a:Int)+Q*2=j:=by omega
 have hkI:(a:Int)+Q*3=k:=by omega
 have hll:=ZaL h
 have h00:((0:Nat):Int)=0:=rfl
 refine Zan (vf:=v195) (by kernel_rfl) rfl (by simp) ?_
 unfold v195
 by_cases h8:L≥8
 ·have h8I:(8:Int)≤L:=by omega
  by_cases h50:L≥50
  ·have h50I:(50:Int)≤L:=by omega
   rw [if_pos h8,if_pos h50] at hr
   obtain ⟨u1,u2,u3⟩:=Zfo (A:=A) h hn i 0 (by omega) (by omega) (by omega) hl
   generalize Sort.medianAdjacent ltN e i 0=ri at *
   obtain ⟨v1,v2,v3⟩:=Zfo (A:=A) h hn j ri.2 (by omega) (by omega) (by omega) hl
   generalize Sort.medianAdjacent ltN e j ri.2=rj at *
   obtain ⟨w1,w2,w3⟩:=Zfo (A:=A) h hn k rj.2 (by omega) (by omega) (by omega) hl
   generalize Sort.medianAdjacent ltN e k rj.2=rk at *
   obtain ⟨x1,x2,x3⟩:=Zj5 (A:=A) h hn ri.1 rj.1 rk.1 rk.2 u2 v2 w2 (by omega) hl
   rw [hr] at x1 x2 x3
   rw [boxI,h00] at u1
   by_cases z0:r.2=0
   ·simp (maxSteps:=4000000) (disch:=first|omega|(simp;done)|(simp;omega)) [u1,v1,w1,x1,hLI,hq,hiI,hjI,hkI,h8I,h50I,hll,hn,V.ren,z0,-getElem?_pos]
   ·by_cases z12:r.2=12
    ·simp (maxSteps:=4000000) (disch:=first|omega|(simp;done)|(simp;omega)) [u1,v1,w1,x1,hLI,hq,hiI,hjI,hkI,h8I,h50I,hll,hn,V.ren,z12,-getElem?_pos]
    ·have z0I:¬(r.2:Int)=0:=by omega
     have z12I:¬(r.2:Int)=12:=by omega
     simp (maxSteps:=4000000) (disch:=first|omega|(simp;done)|(simp;omega)) [u1,v1,w1,x1,hLI,hq,hiI,hjI,hkI,h8I,h50I,hll,hn,V.ren,z0,z12,z0I,z12I,-getElem?_pos]
  ·have h50I:¬(50:Int)≤L:=by omega
   rw [if_pos h8,if_neg h50] at hr
   obtain ⟨x1,x2,x3⟩:=Zj5 (A:=A) h hn i j k 0 (by omega) (by omega) (by omega) (by omega) hl
   rw [hr] at x1 x2 x3
   rw [boxI,h00] at x1
   by_cases z0:r.2=0
   ·simp (maxSteps:=4000000) (disch:=first|omega|(simp;done)|(simp;omega)) [x1,hLI,hq,hiI,hjI,hkI,h8I,h50I,hll,hn,V.ren,z0,-getElem?_pos]
   ·have z0I:¬(r.2:Int)=0:=by omega
    have z12:¬r.2=12:=by omega
    have z12I:¬(r.2:Int)=12:=by omega
    simp (maxSteps:=4000000) (disch:=first|omega|(simp;done)|(simp;omega)) [x1,hLI,hq,hiI,hjI,hkI,h8I,h50I,hll,hn,V.ren,z0,z12,z0I,z12I,-getElem?_pos]
 ·have h8I:¬(8:Int)≤L:=by omega
  rw [if_neg h8] at hr
  subst hr
  simp (maxSteps:=4000000) (disch:=first|omega|(simp;done)|(simp;omega)) [hLI,hq,hiI,hjI,hkI,h8I,hll,hn,-getElem?_pos]
theorem xor242 (r:UInt64):(K A).call 242 [.sc (.ptr 0 0)] [.box [.c (.int .u64 r.toNat)]]=some (.sc (.c (.int .u64 (Sort.xorNext r).toNat)),[.box [.c (.int .u64 (Sort.xorNext r).toNat)]]):=by
 refine Zan (vf:=v242) (by kernel_rfl) rfl (by simp) ?_
 have h1:∀ x:UInt64,shlI .u64 x.toNat 13=((x <<< 13).toNat:Int):=fun x=>ZoF x 13 (by omega) 13 rfl
 have h2:∀ x:UInt64,shrI .u64 x.toNat 7=((x >>> 7).toNat:Int):=fun x=>ZrZ x 7 (by omega) 7 rfl
 have h3:∀ x:UInt64,shlI .u64 x.toNat 17=((x <<< 17).toNat:Int):=fun x=>ZoF x 17 (by omega) 17 rfl
 unfold v242 Sort.xorNext
 simp (maxSteps:=4000000) (disch:=first|omega|(simp;done)|(simp;omega)) [h1,h2,h3,ZsC,-UInt64.toNat_xor,-UInt64.toNat_shiftLeft,-UInt64.toNat_shiftRight]
theorem Ztv {n:Nat}(h:n≠0):Sort.bitsLen n=Sort.bitsLen (n / 2)+1:=by
 unfold Sort.bitsLen
 rw [if_neg h,Nat.log2_def]
 by_cases h2:n≥2
 ·rw [if_pos h2,if_neg (by omega)]
 ·rw [if_neg h2,if_pos (by omega)]
theorem ZbZ:∀ (k n:Nat),n / 2 ^ k≠0→Sort.bitsLen n=Sort.bitsLen (n / 2 ^ k)+k
 | 0,n,_=>by simp
 | k+1,n,h=>by
  have h1:n / 2 ^ k / 2=n / 2 ^ (k+1):=by rw [Nat.div_div_eq_div_mul,Nat.pow_succ]
  have h2:n / 2 ^ k≠0:=fun h0=>h (by rw [←h1,h0])
  rw [ZbZ k n h2,Ztv h2,h1]
  omega
theorem bl_le {n:Nat}(h:1≤n):2 ^ Sort.bitsLen n≤2*n:=by
 unfold Sort.bitsLen
 rw [if_neg (by omega),Nat.pow_succ]
 have:=Nat.log2_self_le (show n≠0 by omega)
 omega
theorem ZeO {n k:Nat}(h:n<2 ^ k):Sort.bitsLen n≤k:=by
 unfold Sort.bitsLen
 split
 ·omega
 ·rename_i h0
  have:=(Nat.log2_lt h0).2 h
  omega
variable {A:Zac}
def isIntR (r:Option (V × List Obj)):Bool:=match r with
 | some (.sc (.c (.int .i64 _)),[])=>true
 | _=>false
def Zpd (s:Str)(r:Option (V × List Obj)):Bool:=match r with
 | some (.sc (.c (.str t)),[])=>decide (t=s)
 | _=>false
theorem ZmZ {s:Str}{r:Option (V × List Obj)}(h:Zpd s r=true):r=some (strV s,[]):=by
 unfold Zpd at h
 split at h
 ·rw [of_decide_eq_true h]
 ·cases h
theorem ZhA {f:Nat→Bool}{n:Nat}(h:(List.range n).all f=true){k:Nat}(hk:k<n):f k=true:=List.all_eq_true.1 h k (List.mem_range.2 hk)
theorem SortR.len {a b:Nat}{d e:List Nat}(h:SortR a b d e):e.length=d.length:=h.1.length_eq
def dig2 (k:Nat):Str:=if k<10 then [UInt8.ofNat (48+k)] else [UInt8.ofNat (48+k / 10),UInt8.ofNat (48+k % 10)]
theorem Zp2 {k:Nat}(h:k<100):dig2 k=numS k:=by
 unfold dig2
 split
 ·rename_i h1
  rw [Zcs h1]
 ·rename_i h1
  rw [Zc1 h1,Zcs (by omega)]
  rfl
theorem fmt75 (k:Nat)(h:k<100):(K A).call 75 [u64V k,intV 10] []=some (strV (numS k),[]):=by
 have h1:(List.range 100).all (fun k=>Zpd (dig2 k) (ZbA T2 (X2 A) gl0 10 75 [u64V k,intV 10] []))=true:=by kernel_rfl
 have h2:=ZmZ (ZhA h1 h)
 rw [Zp2 h] at h2
 exact ZgP h2
end Go.Vs.Tryz
