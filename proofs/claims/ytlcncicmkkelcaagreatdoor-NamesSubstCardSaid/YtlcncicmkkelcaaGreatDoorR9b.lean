/- The library's sort, walked (9): pdqsort (the segments of its round by wip/gen/mkS9.py). (Parts of one proof, put together.) -/
import Derived.Test.YtlcncicmkkelcaaGreatDoorR8b
set_option linter.unusedSimpArgs false
set_option linter.unusedVariables false
set_option linter.deprecated false
set_option maxHeartbeats 8000000
namespace Go.Vs.Tryz
open Go Go.Vs
variable {A:Zac}
theorem Zjm {d:Array Nat}{a b:Nat}(h:a≤b)(hb:b≤d.size):(Sort.insertionSort ltN d a b).size=d.size:=(Sort.insertionSort_holds swoN d a b h hb).1.1
theorem Ziz {d:Array Nat}{a b:Nat}(h:a≤b)(hb:b≤d.size):(Sort.heapSort ltN d a b).size=d.size:=(Sort.heapSort_holds swoN d a b h hb).1.1
theorem ZfS {d:Array Nat}{a b:Nat}(h:a≤b)(hb:b≤d.size):(Sort.reverseRange d a b).size=d.size:=(Sort.reverseRange_holds d a b h hb).1
theorem ZhE (d:Array Nat)(a b:Nat):(Sort.breakPatterns d a b).size=d.size:=by
 dsimp only [Sort.breakPatterns]
 split
 ·rw [ZcX,ZcX,ZcX]
 ·rfl
theorem ZcW:∀ (j:Nat)(d:Array Nat),(Sort.shiftDown ltN j d).size=d.size
 | 0,d=>by rw [Sort.shiftDown]
 | j+1,d=>by
  rw [ZoX (by omega)]
  split
  ·rw [Nat.add_sub_cancel,ZcW j,swp_size]
  ·rfl
theorem ZfZ (b:Nat):∀ (k j:Nat)(d:Array Nat),b-j≤k→(Sort.shiftUp ltN b j d).size=d.size
 | 0,j,d,h=>by rw [ZkF (by omega)]
 | k+1,j,d,h=>by
  by_cases hj:j<b
  ·rw [Zoo hj]
   split
   ·rw [ZfZ b k _ _ (by omega),swp_size]
   ·rfl
  ·rw [ZkF hj]
theorem ZdS (a b:Nat):∀ (s i:Nat)(d:Array Nat),(Sort.partialIns ltN a b s i d).1.size=d.size
 | 0,i,d=>by rw [Sort.partialIns]
 | s+1,i,d=>by
  dsimp only [Sort.partialIns]
  split
  ·rfl
  ·split
   ·rfl
   ·rw [ZdS a b s]
    split
    ·rw [ZfZ b _ _ _ (Nat.le_refl _)]
     split
     ·rw [ZcW,swp_size]
     ·rw [swp_size]
    ·split
     ·rw [ZcW,swp_size]
     ·rw [swp_size]
theorem ZdA (d:Array Nat)(a b:Nat):(Sort.partialInsertionSort ltN d a b).1.size=d.size:=ZdS a b 5 (a+1) d
theorem Zhm (a:Nat):∀ (k i j:Nat)(d:Array Nat),j+1-i≤k→1≤i→i≤(Sort.partEqLoop ltN a i j d).1∧(Sort.partEqLoop ltN a i j d).1≤max i (j+1)∧(Sort.partEqLoop ltN a i j d).2.size=d.size:=by
 intro k
 induction k with
 | zero =>
  intro i j d h h1
  have hu:Sort.scanUp (fun x=>!ltN d[a]! x) d j i=i:=Zb5 (by omega)
  have hd:=ZfH (fun x=>ltN d[a]! x) d i j
  rw [Zdn,hu,if_pos (by omega)]
  exact ⟨Nat.le_refl _,Nat.le_max_left _ _,rfl⟩
 | succ k ih =>
  intro i j d h h1
  rw [Zdn]
  have g1:=Zop (fun x=>!ltN d[a]! x) d j _ i (Nat.le_refl _)
  have g2:i≤j+1→Sort.scanUp (fun x=>!ltN d[a]! x) d j i≤j+1:=ZmU (fun x=>!ltN d[a]! x) d j _ i (Nat.le_refl _)
  have g3:¬i≤j+1→Sort.scanUp (fun x=>!ltN d[a]! x) d j i=i:=fun hc=>Zb5 (by omega)
  generalize Sort.scanUp (fun x=>!ltN d[a]! x) d j i=i2 at *
  have g4:=ZfH (fun x=>ltN d[a]! x) d i2 j
  generalize Sort.scanDown (fun x=>ltN d[a]! x) d i2 j=j2 at *
  split
  ·refine ⟨g1,?_,rfl⟩
   show i2≤_
   by_cases hc:i≤j+1
   ·have:=g2 hc
    omega
   ·have:=g3 hc
    omega
  ·rw [if_pos (by omega)]
   obtain ⟨k1,k2,k3⟩:=ih (i2+1) (j2-1) (Sort.swp d i2 j2) (by omega) (by omega)
   refine ⟨by omega,by omega,by rw [k3,swp_size]⟩
theorem Zh1 {d:Array Nat}{a b p:Nat}(h:a<b):a<(Sort.partitionEqual ltN d a b p).1∧(Sort.partitionEqual ltN d a b p).1≤b∧(Sort.partitionEqual ltN d a b p).2.size=d.size:=by
 unfold Sort.partitionEqual
 obtain ⟨k1,k2,k3⟩:=Zhm a _ (a+1) (b-1) (Sort.swp d a p) (Nat.le_refl _) (by omega)
 exact ⟨by omega,by omega,by rw [k3,swp_size]⟩
theorem ZlI {d:Array Nat}{a b p:Nat}(ha:a≤p)(hp:p<b)(hb:b≤d.size):a≤(Sort.partition ltN d a b p).1∧(Sort.partition ltN d a b p).1<b∧(Sort.partition ltN d a b p).2.2.size=d.size:=by
 obtain ⟨h1,h2,h3,_⟩:=Sort.partition_holds ltN swoN d a b p ha hp hb
 exact ⟨h1,h2,h3.1⟩
def t9 (d:Array Nat)(a b lim piv:Nat):Array Nat :=
 if (Sort.partition ltN d a b piv).1-a<b-(Sort.partition ltN d a b piv).1 then
  Sort.pdq ltN (Sort.pdq ltN (Sort.partition ltN d a b piv).2.2 a (Sort.partition ltN d a b piv).1 lim true true) ((Sort.partition ltN d a b piv).1+1) b lim
   (decide ((Sort.partition ltN d a b piv).1-a≥(b-a) / 8)) (Sort.partition ltN d a b piv).2.1
 else
  Sort.pdq ltN (Sort.pdq ltN (Sort.partition ltN d a b piv).2.2 ((Sort.partition ltN d a b piv).1+1) b lim true true) a (Sort.partition ltN d a b piv).1 lim
   (decide (b-(Sort.partition ltN d a b piv).1≥(b-a) / 8)) (Sort.partition ltN d a b piv).2.1
def t8 (d:Array Nat)(a b lim:Nat)(wb wq:Bool)(piv:Nat):Array Nat :=
 if (decide (a>0) && !ltN d[a-1]! d[piv]!)=true then Sort.pdq ltN (Sort.partitionEqual ltN d a b piv).2 (Sort.partitionEqual ltN d a b piv).1 b lim wb wq
 else t9 d a b lim piv
def t7 (d:Array Nat)(a b lim:Nat)(wb wq:Bool)(piv:Nat)(hint:Sort.Hint):Array Nat :=
 if (if (wb && wq && decide (hint=.increasing))=true then Sort.partialInsertionSort ltN d a b else (d,false)).2=true then
  (if (wb && wq && decide (hint=.increasing))=true then Sort.partialInsertionSort ltN d a b else (d,false)).1
 else t8 (if (wb && wq && decide (hint=.increasing))=true then Sort.partialInsertionSort ltN d a b else (d,false)).1 a b lim wb wq piv
def t5 (d:Array Nat)(a b lim:Nat)(wb wq:Bool):Array Nat :=
 t7 (if (Sort.choosePivot ltN d a b).2=.decreasing then Sort.reverseRange d a b else d) a b lim wb wq
  (if (Sort.choosePivot ltN d a b).2=.decreasing then (b-1)-((Sort.choosePivot ltN d a b).1-a) else (Sort.choosePivot ltN d a b).1)
  (if (Sort.choosePivot ltN d a b).2=.decreasing then .increasing else (Sort.choosePivot ltN d a b).2)
theorem pdq_t5 {d:Array Nat}{a b lim:Nat}{wb wq:Bool}(h12:¬b-a≤12)(hl:¬lim=0)(hb:b≤d.size) :
 Sort.pdq ltN d a b lim wb wq=t5 (if (!wb)=true then Sort.breakPatterns d a b else d) a b (if (!wb)=true then lim-1 else lim) wb wq:=by
 rw [Sort.pdq,if_neg h12,if_neg hl]
 unfold t5 t7 t8 t9
 dsimp only
 have s1:(if (!wb)=true then Sort.breakPatterns d a b else d).size=d.size:=by
  split
  ·exact ZhE d a b
  ·rfl
 generalize (if (!wb)=true then Sort.breakPatterns d a b else d)=d1 at *
 generalize (if (!wb)=true then lim-1 else lim)=lim1 at *
 obtain ⟨c1,c2⟩:=Sort.choosePivot_holds ltN d1 a b (by omega)
 generalize Sort.choosePivot ltN d1 a b=c at *
 have hpv:a≤(if c.2=.decreasing then (b-1)-(c.1-a) else c.1)∧(if c.2=.decreasing then (b-1)-(c.1-a) else c.1)<b:=by
  split<;>omega
 generalize (if c.2=.decreasing then (b-1)-(c.1-a) else c.1)=piv at *
 have s2:(if c.2=.decreasing then Sort.reverseRange d1 a b else d1).size=d.size:=by
  split
  ·rw [ZfS (by omega) (by omega),s1]
  ·exact s1
 generalize (if c.2=.decreasing then Sort.reverseRange d1 a b else d1)=d2 at *
 generalize (if c.2=Sort.Hint.decreasing then Sort.Hint.increasing else c.2)=hint at *
 have s3:(if (wb && wq && decide (hint=.increasing))=true then Sort.partialInsertionSort ltN d2 a b else (d2,false)).1.size=d.size:=by
  split
  ·rw [ZdA,s2]
  ·exact s2
 generalize (if (wb && wq && decide (hint=.increasing))=true then Sort.partialInsertionSort ltN d2 a b else (d2,false))=pi at *
 split
 ·rfl
 ·split
  ·obtain ⟨k1,k2,_⟩:=Zh1 (d:=pi.1) (p:=piv) (show a<b by omega)
   generalize Sort.partitionEqual ltN pi.1 a b piv=r at *
   obtain ⟨mid,d4⟩:=r
   simp only at *
   rw [dif_pos ⟨k1,k2⟩]
  ·obtain ⟨k1,k2,_⟩:=ZlI (d:=pi.1) (p:=piv) hpv.1 hpv.2 (by omega)
   generalize Sort.partition ltN pi.1 a b piv=r at *
   obtain ⟨mid,ap,d4⟩:=r
   simp only at *
   rw [dif_pos ⟨k1,k2⟩]
def p9:VCode:=(sq [oM 95 0,oM 96 1,oM 97 2,oM 98 11,cA 99 200 [ta 95,fa 96,fa 97,fa 98] 5760,oM 94 99,oE 100 94 0,oE 101 94 1,oM 14 100,oM 15 101] [0,1,2,3,8,9,10,14,15] (sq [oM 102 15,oM 9 102] [0,1,2,3,8,9,10,14] (sq [oM 103 14,oM 104 1,oB 105 .sub 103 104,oM 106 2,oM 107 14,oB 108 .sub 106 107,oM 16 105,oM 17 108] [0,1,2,3,8,9,10,14,16,17] (sq [oM 109 10,oK 110 .quo 109 8,oM 18 110] [0,1,2,3,8,9,14,16,17,18] (sq [oM 111 16,oM 112 17,oB 113 .lss 111 112] [0,1,2,3,8,9,14,16,17,18,113] (cd 113 (sq [oM 114 16,oM 115 18,oB 116 .geq 114 115,oM 8 116] [0,1,2,3,8,9,14] (sq [oM 117 0,oM 118 1,oM 119 14,oM 120 3,cA 121 138 [ta 117,fa 118,fa 119,fa 120] 7680] [0,1,2,3,8,9,14] (rg [oM 122 14,oK 123 .add 122 1,oM 1 123] [0,1,2,3,8,9]))) (sq [oM 124 17,oM 125 18,oB 126 .geq 124 125,oM 8 126] [0,1,2,3,8,9,14] (sq [oM 127 0,oM 128 14,oK 129 .add 128 1,oM 130 2,oM 131 3,cA 132 138 [ta 127,fa 129,fa 130,fa 131] 8512] [0,1,2,3,8,9,14] (rg [oM 133 14,oM 2 133] [0,1,2,3,8,9])))))))))
def p8:VCode:=(.seq (.seq (.region [] [oM 73 1,oK 74 .gtr 73 0,oM 75 74,gM 76 0 75 true,gM 77 1 75 true,og 78 (.bin .sub 0 (tv 77) (ki 1)) 75 true,gX 79 1 76 78 75 true,gL 80 79 75 true,gM 81 0 75 true,gM 82 11 75 true,gX 83 1 81 82 75 true,gL 84 83 75 true,gA 85 198 [fa 80,fa 84] 75 true 4800,gU 86 85 75 true,oQ 87 75 86] [(6,10),(7,10),(6,11),(7,11)] [0,1,2,3,8,9,10,11,87]) (cd 87 (sq [oM 88 0,oM 89 1,oM 90 2,oM 91 11,cA 92 199 [ta 88,fa 89,fa 90,fa 91] 5248,oM 13 92] [0,1,2,3,8,9,13] (sq [oM 93 13,oM 1 93] [0,1,2,3,8,9] (.exit 1))) .skip))
 p9)
def p7:VCode:=(.seq (sq [oM 61 8,oM 62 61,gM 63 9 62 true,oQ 64 62 63,oM 65 64,gM 66 12 65 true,og 67 (.bin .eql 0 (tv 66) (ki 1)) 65 true,oQ 68 65 67] [0,1,2,3,8,9,10,11,68] (cd 68 (sq [oM 69 0,oM 70 1,oM 71 2,cA 72 197 [ta 69,fa 70,fa 71] 3968] [0,1,2,3,8,9,10,11,72] (cd 72 .ret .skip)) .skip))
 p8)
def p5:VCode:=(sq [oM 43 0,oM 44 1,oM 45 2,cA 46 195 [ta 43,fa 44,fa 45] 1984,oM 42 46,oE 47 42 0,oE 48 42 1,oM 11 47,oM 12 48] [0,1,2,3,8,9,10,11,12] (.seq (sq [oM 49 12,oK 50 .eql 49 2] [0,1,2,3,8,9,10,11,12,50] (cd 50 (sq [oM 51 0,oM 52 1,oM 53 2,cA 54 196 [ta 51,fa 52,fa 53] 2688] [0,1,2,3,8,9,10,11] (sq [oM 55 2,oK 56 .sub 55 1,oM 57 11,oM 58 1,oB 59 .sub 57 58,oB 60 .sub 56 59,oM 11 60] [0,1,2,3,8,9,10,11] (rg [oJ 12 1] [0,1,2,3,8,9,10,11,12]))) .skip))
 p7))
def p4:VCode:=(.seq (sq [oM 34 8,oU 35 34] [0,1,2,3,8,9,10,35] (cd 35 (sq [oM 36 0,oM 37 1,oM 38 2,cA 39 194 [ta 36,fa 37,fa 38] 1536] [0,1,2,3,8,9,10] (rg [oM 40 3,oK 41 .sub 40 1,oM 3 41] [0,1,2,3,8,9,10])) .skip))
 p5)
theorem Zs7:ZnS=.block 1 (.seq (.region [] [o 19 (.mv (tv 2)),
 o 20 (.mv (tv 1)),
 o 21 (.bin .sub 0 (tv 19) (tv 20)),
 o 10 (.mv (tv 21))] [] [0,1,2,3,8,9,10])
 (.seq (.seq (.region [] [o 22 (.mv (tv 10)),
 o 23 (.bin .leq 0 (tv 22) (ki 12))] [] [0,1,2,3,8,9,10,23])
 (.cond (tv 23) (.seq (.region [] [o 24 (.mv (tv 0)),
 o 25 (.mv (tv 1)),
 o 26 (.mv (tv 2)),
 oa 27 (.call (kf 192) [(true,(tv 24)),(false,(tv 25)),(false,(tv 26))] []) 768] [] [1000000])
 .ret)
 .skip))
 (.seq (.seq (.region [] [o 28 (.mv (tv 3)),
 o 29 (.bin .eql 0 (tv 28) (ki 0))] [] [0,1,2,3,8,9,10,29])
 (.cond (tv 29) (.seq (.region [] [o 30 (.mv (tv 0)),
 o 31 (.mv (tv 1)),
 o 32 (.mv (tv 2)),
 oa 33 (.call (kf 193) [(true,(tv 30)),(false,(tv 31)),(false,(tv 32))] []) 1152] [] [1000000])
 .ret)
 .skip))
 p4))):=rfl
theorem Zsg {e:Array Nat}{l:List Nat}(h:Is e l){n:Nat}(hn:e.size=n)(a b:Nat)(hab:a≤b)(hb:b≤n)(hl:n≤1073741824) :
 (K A).call 192 [.sc (.arr 0 n),intV a,intV b] [arrU l]=some (retV,[arrU (Sort.insertionSort ltN e a b).toList]):=by
 cases h
 subst hn
 exact Zs0 e a b hab hb hl
theorem heapL {e:Array Nat}{l:List Nat}(h:Is e l){n:Nat}(hn:e.size=n)(a b:Nat)(hab:a<b)(hb:b≤n)(hl:n≤1073741824) :
 (K A).call 193 [.sc (.arr 0 n),intV a,intV b] [arrU l]=some (retV,[arrU (Sort.heapSort ltN e a b).toList]):=by
 cases h
 subst hn
 exact heapA e a b hab hb hl
theorem ZqB {e:Array Nat}{l:List Nat}(h:Is e l){n:Nat}(hn:e.size=n)(a b:Nat)(hab:a<b)(hb:b≤n)(hl:n≤1073741824) :
 (K A).call 196 [.sc (.arr 0 n),intV a,intV b] [arrU l]=some (retV,[arrU (Sort.reverseRange e a b).toList]):=by
 cases h
 subst hn
 exact Zpu e a b hab hb hl
abbrev S6 (n a b lim:Nat)(wb wq:Bool)(xs:Env):Env:=(0,.sc (.arr 0 n))::(1,intV a)::(2,intV b)::(3,intV lim)::(8,Zah wb)::(9,Zah wq)::xs
structure Owes (Q:Ex→St→Prop)(n L:Nat)(R:Array Nat):Prop where
 ret:∀ (env:Env) (l:List Nat),Is R l→R.size=n→Q .ret ⟨env,[(0,some (arrU l))]⟩
 next:∀ (x:Ex) (a b lim:Nat) (wb wq:Bool) (e:Array Nat) (l:List Nat),(x=.normal∨x=.exit 1)→Is e l→e.size=n→Sort.pdq ltN e a b lim wb wq=R→a≤b→b≤n→lim≤1000→b-a<L →
  Q x ⟨S6 n a b lim wb wq [],[(0,some (arrU l))]⟩
def Zez (A:Zac)(n L:Nat):Prop:=∀ (e:Array Nat)(l:List Nat)(a b lim:Nat),Is e l→e.size=n→a≤b→b≤n→lim≤1000→b-a<L →
 (K A).call 138 [.sc (.arr 0 n),intV a,intV b,intV lim] [arrU l]=some (retV,[arrU (Sort.pdq ltN e a b lim true true).toList])∧(Sort.pdq ltN e a b lim true true).size=n
theorem p9_ok {e:Array Nat}{l:List Nat}(h:Is e l){n:Nat}(hn:e.size=n){a b lim:Nat}{wb wq:Bool}{piv:Nat}(h12:¬b-a≤12)(hp1:a≤piv)(hp2:piv<b)(hb:b≤n)(hl:n≤1073741824)(hlim:lim≤1000)
 {R:Array Nat} (hR:t9 e a b lim piv=R) (sh:Zez A n (b-a)) {Q:Ex→St→Prop} (q:Owes Q n (b-a) R) :
 wp (K A) p9 Q ⟨S6 n a b lim wb wq [(10,intV ((b-a:Nat):Int)),(11,intV piv),(87,Zah false)],[(0,some (arrU l))]⟩:=by
 unfold t9 at hR
 obtain ⟨k1,k2,k3⟩:=ZlI (d:=e) (p:=piv) hp1 hp2 (by omega)
 have hc:=partA (A:=A) h hn a b piv hp1 hp2 hb hl
 generalize Sort.partition ltN e a b piv=r at *
 obtain ⟨mid,ap,d4⟩:=r
 simp only at *
 have hll:=ZaL h
 have hq:Int.tdiv ((b-a:Nat):Int) 8=(((b-a) / 8:Nat):Int):=by
  rw [Int.tdiv_eq_ediv_of_nonneg (by omega)]
  omega
 have hmI:(mid:Int)-a=((mid-a:Nat):Int):=by omega
 have hbI:(b:Int)-mid=((b-mid:Nat):Int):=by omega
 have hm1:(mid:Int)+1=((mid+1:Nat):Int):=by omega
 have hd4:Is d4 d4.toList:=rfl
 have hd4l:d4.toList.length=n:=by rw [ZaL hd4];omega
 unfold p9
 by_cases hlt:mid-a<b-mid
 ·rw [if_pos hlt] at hR
  obtain ⟨c1,c2⟩:=sh d4 d4.toList a mid lim hd4 (by omega) k1 (by omega) hlim (by omega)
  generalize hg:Sort.pdq ltN d4 a mid lim true true=g at *
  have hgl:g.toList.length=n:=by rw [ZaL (show Is g g.toList from rfl)];exact c2
  have fin:=q.next .normal (mid+1) b lim (decide ((b-a) / 8≤mid-a)) ap g g.toList (.inl rfl) rfl c2 hR (by omega) hb hlim (by omega)
  have ht8:(b-a) / 8≤1073741824:=by omega
  generalize (b-a) / 8=t at *
  generalize mid-a=m1 at *
  generalize b-mid=m2 at *
  generalize mid+1=m3 at *
  generalize b-a=L at *
  generalize hgt:g.toList=gl at *
  generalize hdt:d4.toList=dl at *
  simp (maxSteps:=4000000) (disch:=first|omega|(simp;done)|(simp;omega)) [hc,c1,hq,hmI,hbI,hm1,hlt,hll,hn,hd4l,hgl,retV,V.ren,-getElem?_pos]
  exact fin
 ·rw [if_neg hlt] at hR
  obtain ⟨c1,c2⟩:=sh d4 d4.toList (mid+1) b lim hd4 (by omega) (by omega) hb hlim (by omega)
  generalize hg:Sort.pdq ltN d4 (mid+1) b lim true true=g at *
  have hgl:g.toList.length=n:=by rw [ZaL (show Is g g.toList from rfl)];exact c2
  have fin:=q.next .normal a mid lim (decide ((b-a) / 8≤b-mid)) ap g g.toList (.inl rfl) rfl c2 hR k1 (by omega) hlim (by omega)
  have ht8:(b-a) / 8≤1073741824:=by omega
  generalize (b-a) / 8=t at *
  generalize mid-a=m1 at *
  generalize b-mid=m2 at *
  generalize mid+1=m3 at *
  generalize b-a=L at *
  generalize hgt:g.toList=gl at *
  generalize hdt:d4.toList=dl at *
  simp (maxSteps:=4000000) (disch:=first|omega|(simp;done)|(simp;omega)) [hc,c1,hq,hmI,hbI,hm1,hlt,hll,hn,hd4l,hgl,retV,V.ren,-getElem?_pos]
  exact fin
theorem p8_ok {e:Array Nat}{l:List Nat}(h:Is e l){n:Nat}(hn:e.size=n){a b lim:Nat}{wb wq:Bool}{piv:Nat}(h12:¬b-a≤12)(hp1:a≤piv)(hp2:piv<b)(hb:b≤n)(hl:n≤1073741824)(hlim:lim≤1000)
 {R:Array Nat} (hR:t8 e a b lim wb wq piv=R) (sh:Zez A n (b-a)) {Q:Ex→St→Prop} (q:Owes Q n (b-a) R) {t:Nat} (ht:t=68∨t=72) :
 wp (K A) p8 Q ⟨S6 n a b lim wb wq [(10,intV ((b-a:Nat):Int)),(11,intV piv),(t,Zah false)],[(0,some (arrU l))]⟩:=by
 unfold t8 at hR
 have hll:=ZaL h
 by_cases ha:0<a
 ·have haI:(0:Int)<a:=by omega
  have hx:=ZaY h (i:=a-1) (by omega)
  have hy:=ZaY h (i:=piv) (by omega)
  have ha1:(a:Int)-1=((a-1:Nat):Int):=by omega
  have hal:a-1<l.length:=by omega
  have hpl:piv<l.length:=by omega
  have hless:=ZbB (A:=A) e[a-1]! e[piv]!
  rw [ZfX] at hR
  generalize e[a-1]! = u at *
  generalize e[piv]! = v at *
  by_cases huv:u<v
  ·rw [if_neg (by simp [huv])] at hR
   have fin:=p9_ok (A:=A) h hn (wb:=wb) (wq:=wq) h12 hp1 hp2 hb hl hlim hR sh q
   unfold p8
   rcases ht with rfl|rfl <;>
   (simp (maxSteps:=4000000) (disch:=first|omega|(simp;done)|(simp;omega)) [haI,ha,hx,hy,ha1,hless,huv,hll,hn,-getElem?_pos]
    exact fin)
  ·rw [if_pos (by simp [huv,ha])] at hR
   obtain ⟨k1,k2,k3⟩:=Zh1 (d:=e) (p:=piv) (show a<b by omega)
   have hc:=Zsl (A:=A) h hn a b piv hp1 hp2 hb hl
   generalize Sort.partitionEqual ltN e a b piv=r at *
   obtain ⟨mid,d4⟩:=r
   simp only at *
   have hd4l:d4.toList.length=n:=by rw [ZaL (show Is d4 d4.toList from rfl)];omega
   have fin:=q.next (.exit 1) mid b lim wb wq d4 d4.toList (.inr rfl) rfl (by omega) hR k2 hb hlim (by omega)
   generalize hdt:d4.toList=dl at *
   unfold p8
   rcases ht with rfl|rfl <;>
   (simp (maxSteps:=4000000) (disch:=first|omega|(simp;done)|(simp;omega)) [haI,ha,hx,hy,ha1,hless,huv,hc,hll,hn,hd4l,V.ren,-getElem?_pos]
    exact fin)
 ·obtain rfl:a=0:=by omega
  rw [if_neg (by simp)] at hR
  have fin:=p9_ok (A:=A) h hn (wb:=wb) (wq:=wq) h12 hp1 hp2 hb hl hlim hR sh q
  unfold p8
  rcases ht with rfl|rfl <;>
  (simp (maxSteps:=4000000) (disch:=first|omega|(simp;done)|(simp;omega)) [hll,hn,-getElem?_pos]
   exact fin)
theorem ZsP {e:Array Nat}{l:List Nat}(h:Is e l){n:Nat}(hn:e.size=n){a b lim:Nat}{wb wq:Bool}{piv:Nat}{hint:Sort.Hint}(h12:¬b-a≤12)(hp1:a≤piv)(hp2:piv<b)(hb:b≤n)(hl:n≤1073741824)(hlim:lim≤1000)
 {R:Array Nat} (hR:t7 e a b lim wb wq piv hint=R) (sh:Zez A n (b-a)) {Q:Ex→St→Prop} (q:Owes Q n (b-a) R) {xs:Env} (hx:xs=[]∨xs=[(50,Zah false)]) :
 wp (K A) p7 Q ⟨S6 n a b lim wb wq ((10,intV ((b-a:Nat):Int))::(11,intV piv)::(12,intV (Zfv hint))::xs),[(0,some (arrU l))]⟩:=by
 unfold t7 at hR
 have hll:=ZaL h
 by_cases hc:(wb && wq && decide (hint=.increasing))=true
 ·rw [if_pos hc] at hR
  simp only [Bool.and_eq_true,decide_eq_true_eq] at hc
  obtain ⟨⟨rfl,rfl⟩,rfl⟩:=hc
  have hcall:=Zp5 (A:=A) h hn a b (by omega) hb hl
  have hsz:=ZdA e a b
  generalize Sort.partialInsertionSort ltN e a b=r at *
  obtain ⟨d2,ok⟩:=r
  simp only at *
  have hdl:d2.toList.length=n:=by rw [ZaL (show Is d2 d2.toList from rfl)];omega
  cases ok with
  | true =>
   rw [if_pos rfl] at hR
   subst hR
   have fin:=fun env=>q.ret env d2.toList rfl (by omega)
   generalize hdt:d2.toList=dl at *
   unfold p7
   rcases hx with rfl|rfl <;>
   (simp (maxSteps:=4000000) (disch:=first|omega|(simp;done)|(simp;omega)) [hcall,Zfv,hll,hn,hdl,V.ren,-getElem?_pos]
    exact fin _)
  | false =>
   rw [if_neg (by simp)] at hR
   have fin:=p8_ok (A:=A) (show Is d2 d2.toList from rfl) (hsz.trans hn) h12 hp1 hp2 hb hl hlim hR sh q (t:=72) (.inr rfl)
   generalize hdt:d2.toList=dl at *
   unfold p7
   rcases hx with rfl|rfl <;>
   (simp (maxSteps:=4000000) (disch:=first|omega|(simp;done)|(simp;omega)) [hcall,Zfv,hll,hn,hdl,V.ren,-getElem?_pos]
    exact fin)
 ·rw [if_neg hc,if_neg (by simp)] at hR
  have fin:=p8_ok (A:=A) h hn (wb:=wb) (wq:=wq) h12 hp1 hp2 hb hl hlim hR sh q (t:=68) (.inl rfl)
  unfold p7
  cases wb with
  | false =>
   rcases hx with rfl|rfl <;>
   (simp (maxSteps:=4000000) (disch:=first|omega|(simp;done)|(simp;omega)) [hll,hn,-getElem?_pos]
    exact fin)
  | true =>
   cases wq with
   | false =>
    rcases hx with rfl|rfl <;>
    (simp (maxSteps:=4000000) (disch:=first|omega|(simp;done)|(simp;omega)) [hll,hn,-getElem?_pos]
     exact fin)
   | true =>
    cases hint with
    | increasing=>exact absurd rfl hc
    | unknown =>
     rcases hx with rfl|rfl <;>
     (simp (maxSteps:=4000000) (disch:=first|omega|(simp;done)|(simp;omega)) [Zfv,hll,hn,-getElem?_pos]
      exact fin)
    | decreasing =>
     rcases hx with rfl|rfl <;>
     (simp (maxSteps:=4000000) (disch:=first|omega|(simp;done)|(simp;omega)) [Zfv,hll,hn,-getElem?_pos]
      exact fin)
theorem p5_ok {e:Array Nat}{l:List Nat}(h:Is e l){n:Nat}(hn:e.size=n){a b lim:Nat}{wb wq:Bool}(h12:¬b-a≤12)(hb:b≤n)(hl:n≤1073741824)(hlim:lim≤1000)
 {R:Array Nat} (hR:t5 e a b lim wb wq=R) (sh:Zez A n (b-a)) {Q:Ex→St→Prop} (q:Owes Q n (b-a) R) {xs:Env} (hx:xs=[]∨xs=[(35,Zah false)]) :
 wp (K A) p5 Q ⟨S6 n a b lim wb wq ((10,intV ((b-a:Nat):Int))::xs),[(0,some (arrU l))]⟩:=by
 unfold t5 at hR
 have hll:=ZaL h
 have hc:=pivotA (A:=A) h hn a b (by omega) hb hl
 obtain ⟨c1,c2⟩:=Sort.choosePivot_holds ltN e a b (by omega)
 generalize Sort.choosePivot ltN e a b=c at *
 obtain ⟨piv,hint⟩:=c
 simp only at *
 cases hint with
 | decreasing =>
  simp only [if_true] at hR
  have hrev:=ZqB (A:=A) h hn a b (by omega) hb hl
  have hsz:=ZfS (d:=e) (a:=a) (b:=b) (by omega) (by omega)
  generalize Sort.reverseRange e a b=e2 at *
  have hdl:e2.toList.length=n:=by rw [ZaL (show Is e2 e2.toList from rfl)];omega
  have fin:=ZsP (A:=A) (show Is e2 e2.toList from rfl) (hsz.trans hn) h12 (show a≤b-1-(piv-a) by omega) (by omega) hb hl hlim hR sh q (.inl rfl)
  have hpI:(b:Int)-1-(piv-a)=((b-1-(piv-a):Nat):Int):=by omega
  generalize hdt:e2.toList=dl at *
  generalize b-1-(piv-a)=pv at *
  unfold p5
  rcases hx with rfl|rfl <;>
  (simp (maxSteps:=4000000) (disch:=first|omega|(simp;done)|(simp;omega)) [hc,hrev,hpI,Zfv,hll,hn,hdl,retV,V.ren,-getElem?_pos]
   simpa [Zfv] using fin)
 | increasing =>
  simp only [reduceCtorEq,if_false] at hR
  have fin:=ZsP (A:=A) h hn h12 c1 c2 hb hl hlim hR sh q (xs:=[(50,Zah false)]) (.inr rfl)
  unfold p5
  rcases hx with rfl|rfl <;>
  (simp (maxSteps:=4000000) (disch:=first|omega|(simp;done)|(simp;omega)) [hc,Zfv,hll,hn,V.ren,-getElem?_pos]
   simpa [Zfv] using fin)
 | unknown =>
  simp only [reduceCtorEq,if_false] at hR
  have fin:=ZsP (A:=A) h hn h12 c1 c2 hb hl hlim hR sh q (xs:=[(50,Zah false)]) (.inr rfl)
  unfold p5
  rcases hx with rfl|rfl <;>
  (simp (maxSteps:=4000000) (disch:=first|omega|(simp;done)|(simp;omega)) [hc,Zfv,hll,hn,V.ren,-getElem?_pos]
   simpa [Zfv] using fin)
theorem p4_ok {e:Array Nat}{l:List Nat}(h:Is e l){n:Nat}(hn:e.size=n){a b lim:Nat}{wb wq:Bool}(h12:¬b-a≤12)(hb:b≤n)(hl:n≤1073741824)(hlim:lim≤1000)(hlim0:¬lim=0)
 {R:Array Nat} (hR:Sort.pdq ltN e a b lim wb wq=R) (sh:Zez A n (b-a)) {Q:Ex→St→Prop} (q:Owes Q n (b-a) R) :
 wp (K A) p4 Q ⟨S6 n a b lim wb wq [(10,intV ((b-a:Nat):Int)),(29,Zah false)],[(0,some (arrU l))]⟩:=by
 rw [pdq_t5 h12 hlim0 (by omega)] at hR
 have hll:=ZaL h
 cases wb with
 | true =>
  simp only [Bool.not_true,Bool.false_eq_true,if_false] at hR
  have fin:=p5_ok (A:=A) h hn h12 hb hl hlim hR sh q (xs:=[(35,Zah false)]) (.inr rfl)
  unfold p4
  simp (maxSteps:=4000000) (disch:=first|omega|(simp;done)|(simp;omega)) [hll,hn,-getElem?_pos]
  exact fin
 | false =>
  simp only [Bool.not_false,if_true] at hR
  have hbr:=breakA (A:=A) h hn a b (by omega) hb hl
  have hsz:=ZhE e a b
  generalize Sort.breakPatterns e a b=e2 at *
  have hdl:e2.toList.length=n:=by rw [ZaL (show Is e2 e2.toList from rfl)];omega
  have fin:=p5_ok (A:=A) (show Is e2 e2.toList from rfl) (hsz.trans hn) h12 hb hl (by omega) hR sh q (xs:=[]) (.inl rfl)
  have hlI:(lim:Int)-1=((lim-1:Nat):Int):=by omega
  generalize hdt:e2.toList=dl at *
  generalize lim-1=lim1 at *
  unfold p4
  simp (maxSteps:=4000000) (disch:=first|omega|(simp;done)|(simp;omega)) [hbr,hlI,hll,hn,hdl,retV,V.ren,-getElem?_pos]
  exact fin
theorem ZqZ {e:Array Nat}{l:List Nat}(h:Is e l){n:Nat}(hn:e.size=n){a b lim:Nat}{wb wq:Bool}(hab:a≤b)(hb:b≤n)(hl:n≤1073741824)(hlim:lim≤1000)
 {R:Array Nat} (hR:Sort.pdq ltN e a b lim wb wq=R) (sh:Zez A n (b-a)) {Q:Ex→St→Prop} (q:Owes (Zdd 1 Q) n (b-a) R) :
 wp (K A) ZnS Q ⟨S6 n a b lim wb wq [],[(0,some (arrU l))]⟩:=by
 have hll:=ZaL h
 have hLI:(b:Int)-a=((b-a:Nat):Int):=by omega
 rw [Zs7]
 by_cases h12:b-a≤12
 ·rw [Sort.pdq,if_pos h12] at hR
  have hc:=Zsg (A:=A) h hn a b hab hb hl
  have hsz:=Zjm (d:=e) hab (by omega)
  rw [hR] at hc hsz
  have fin:=fun env=>q.ret env R.toList rfl (hsz.trans hn)
  have hdl:R.toList.length=n:=by rw [ZaL (show Is R R.toList from rfl)];omega
  generalize hdt:R.toList=dl at *
  have h12I:((b-a:Nat):Int)≤12:=by omega
  generalize b-a=L at *
  simp (maxSteps:=4000000) (disch:=first|omega|(simp;done)|(simp;omega)) [hc,hLI,h12,h12I,hll,hn,hdl,retV,V.ren,-getElem?_pos]
  exact fin _
 ·by_cases hl0:lim=0
  ·rw [Sort.pdq,if_neg h12,if_pos hl0] at hR
   subst hl0
   have hc:=heapL (A:=A) h hn a b (by omega) hb hl
   have hsz:=Ziz (d:=e) hab (by omega)
   rw [hR] at hc hsz
   have fin:=fun env=>q.ret env R.toList rfl (hsz.trans hn)
   have hdl:R.toList.length=n:=by rw [ZaL (show Is R R.toList from rfl)];omega
   generalize hdt:R.toList=dl at *
   have h12I:¬((b-a:Nat):Int)≤12:=by omega
   generalize b-a=L at *
   simp (maxSteps:=4000000) (disch:=first|omega|(simp;done)|(simp;omega)) [hc,hLI,h12,h12I,hll,hn,hdl,retV,V.ren,-getElem?_pos]
   exact fin _
  ·have fin:=p4_ok (A:=A) h hn h12 hb hl hlim hl0 hR sh q
   have h12I:¬((b-a:Nat):Int)≤12:=by omega
   generalize b-a=L at *
   simp (maxSteps:=4000000) (disch:=first|omega|(simp;done)|(simp;omega)) [hLI,h12,h12I,hl0,hll,hn,-getElem?_pos]
   exact fin
theorem pdqA (n:Nat)(hl:n≤1073741824):∀ L,Zez A n L:=by
 intro L
 induction L with
 | zero=>intro e l a b lim _ _ _ _ _ h;omega
 | succ L ih =>
  intro e l a b lim h hn hab hb hlim hlt
  have sz:(Sort.pdq ltN e a b lim true true).size=n∧(K A).call 138 [.sc (.arr 0 n),intV a,intV b,intV lim] [arrU l]=some (retV,[arrU (Sort.pdq ltN e a b lim true true).toList]):=by
   generalize hR:Sort.pdq ltN e a b lim true true=R
   suffices hw:∃ r,(R.size=n∧r=(retV,[arrU R.toList]))∧(K A).call 138 [.sc (.arr 0 n),intV a,intV b,intV lim] [arrU l]=some r by
    obtain ⟨_,⟨h1,rfl⟩,h2⟩:=hw
    exact ⟨h1,h2⟩
   have hll:=ZaL h
   refine ZcI _ (vf:=v138) (by kernel_rfl) rfl (by simp) ?_
   unfold v138
   simp (maxSteps:=4000000) (disch:=first|omega|(simp;done)|(simp;omega)) [-getElem?_pos]
   generalize hQ:(Zdd 0 (Zfq false 1 [] fun r=>R.size=n∧r=(retV,[arrU R.toList])))=Q
   have hret:∀ (env:Env) (l:List Nat),Is R l→R.size=n→Q .ret ⟨env,[(0,some (arrU l))]⟩:=by
    intro env l h1 h2
    rw [←hQ]
    have hl2:=ZaL h1
    simp [isEq h1,retV,h2]
   clear hQ
   refine Zam (fun r s=>∃ (a' b' lim':Nat) (wb wq:Bool) (e':Array Nat) (l':List Nat),Is e' l'∧e'.size=n∧Sort.pdq ltN e' a' b' lim' wb wq=R∧a'≤b'∧b'≤n∧lim'≤1000∧b'-a'+r≤b-a ∧
    s=⟨S6 n a' b' lim' wb wq [],[(0,some (arrU l'))]⟩) (b-a+1) ⟨a,b,lim,true,true,e,l,h,hn,hR,hab,hb,hlim,Nat.le_refl _,rfl⟩ ?_ ?_
   ·clear h hn hR hll
    rintro r s hr ⟨a',b',lim',wb,wq,e',l',h,hn,hR,hab',hb',hlim',hlen,rfl⟩
    refine ZqZ (A:=A) h hn hab' hb' hl hlim' hR (fun e l a b lim q1 q2 q3 q4 q5 q6=>ih e l a b lim q1 q2 q3 q4 q5 (by omega)) ⟨?_,?_⟩
    ·intro env l h1 h2
     simp only [blockQ_ret]
     exact .inr ⟨by simp,hret env l h1 h2⟩
    ·rintro x a2 b2 lim2 wb2 wp2 e2 l2 (rfl|rfl) q1 q2 q3 q4 q5 q6 q7
     ·simp only [blockQ_normal]
      exact .inl ⟨trivial,a2,b2,lim2,wb2,wp2,e2,l2,q1,q2,q3,q4,q5,q6,by omega,rfl⟩
     ·simp only [blockQ_exit,beq_self_eq_true,cond_true]
      exact .inl ⟨trivial,a2,b2,lim2,wb2,wp2,e2,l2,q1,q2,q3,q4,q5,q6,by omega,rfl⟩
   ·rintro s ⟨a',b',lim',wb,wq,e',l',h,hn,hR,hab',hb',hlim',hlen,rfl⟩
    omega
  exact ⟨sz.2,sz.1⟩
theorem Zkp {d:Array Nat}{R:Array Nat}(h1:Sort.PermIn 0 d.size d R)(h2:Sort.SortedIn ltN 0 d.size R):SortR 0 d.size d.toList R.toList:=by
 obtain ⟨s1,s2,s3⟩:=h1
 refine ⟨?_,fun k hk => ?_,fun p q x y hp hpq hq hx hy => ?_⟩
 ·have e1:R.extract 0 d.size=R:=by rw [←s1];simp
  have e2:d.extract 0 d.size=d:=by simp
  rw [e1,e2] at s3
  exact s3
 ·have hk:d.size≤k:=by omega
  rw [List.getElem?_eq_none (by simpa [s1] using hk),List.getElem?_eq_none (by simpa using hk)]
 ·have h3:=h2 p q (Nat.zero_le _) hpq hq
  rw [ZaY (show Is R R.toList from rfl) (by omega)] at hx hy
  cases hx
  cases hy
  simpa [ltN] using h3
theorem Ztb (d:List Nat)(hl:d.length≤1073741824):∃ r,(∃ e,SortR 0 d.length d e∧r=(retV,[arrU e]))∧(K A).call 76 [.sc (.arr 0 d.length)] [arrU d]=some r:=by
 refine ZcI _ (vf:=v76) (by kernel_rfl) rfl (by simp) ?_
 have hlen:=ZnT (A:=A) d.length (by omega)
 have hbl:=ZeO (n:=d.length) (k:=31) (by omega)
 have hw:IntKind.u64.wrap (d.length:Int)=d.length:=ZaO _ (by omega)
 obtain ⟨hc,hsz⟩:=pdqA (A:=A) d.length hl (d.length+1) d.toArray d 0 d.length (Sort.bitsLen d.length) rfl (by simp) (by omega) (by omega) (by omega) (by omega)
 obtain ⟨k1,k2⟩:=Sort.pdq_sorts ltN swoN d.toArray 0 d.length (Sort.bitsLen d.length) true true (by omega) (by simp) (.inl rfl)
 generalize Sort.pdq ltN d.toArray 0 d.length (Sort.bitsLen d.length) true true=R at *
 have hs:SortR 0 d.length d R.toList:=by
  have:=Zkp (d:=d.toArray) (R:=R) (by simpa using k1) (by simpa using k2)
  simpa using this
 have h0:((0:Nat):Int)=0:=rfl
 rw [h0] at hc
 have hRl:R.toList.length=d.length:=by rw [ZaL (show Is R R.toList from rfl)];exact hsz
 generalize Sort.bitsLen d.length=bl at *
 generalize hRt:R.toList=rl at *
 unfold v76
 simp (maxSteps:=4000000) (disch:=first|omega|(simp;done)|(simp;omega)) [hlen,hw,hc,hRl,retV,V.ren,-getElem?_pos]
 exact ⟨rl,hs,rfl⟩
end Go.Vs.Tryz
