/- The library's sort, walked (8): insertion with few steps. -/
import Derived.Test.YtccmnfpbcmccpaaGreatDoorRBs
set_option linter.unusedSimpArgs false
set_option linter.unusedVariables false
set_option linter.deprecated false
set_option maxRecDepth 9999
set_option maxHeartbeats 8000000
namespace Go.Vs.Tryz
open Go Go.Vs
variable {A:Zab}
theorem ss_go {d:Array Nat}{b i:Nat}(h:i<b)(hp:¬d[i]! < d[i-1]!):Sort.scanSorted ltN d b i=Sort.scanSorted ltN d b (i+1):=by
 rw[Sort.scanSorted];simp[h,hp,ltN]
theorem Zlg {d:Array Nat}{b i:Nat}(h:¬(i<b/\¬d[i]! < d[i-1]!)):Sort.scanSorted ltN d b i=i:=by
 rw[Sort.scanSorted,if_neg (by simpa[ltN]using h)]
theorem ss_bd (d:Array Nat)(b:Nat):∀(k i:Nat),b-i<=k->i<=b->i<=Sort.scanSorted ltN d b i/\Sort.scanSorted ltN d b i<=b
 |0,i,h,h2=>by rw[Zlg (by omega)];exact⟨qe _,h2⟩
 |k+1,i,h,h2=>by
  by_cases hc:i<b/\¬d[i]! < d[i-1]!
  .rw [ss_go hc.1 hc.2]
   have:=ss_bd d b k (i+1) (by omega) (by omega);omega
  .rw [Zlg hc]
   exact⟨qe _,h2⟩
abbrev S5 (n a b i st:Nat)(xs:Env):Env:=(0,.sc (.arr 0 n))::(1,intV a)::(2,intV b)::(7,intV i)::(8,intV st)::xs
theorem Zup {e:Array Nat}{l:List Nat}(h:Is e l){n:Nat}(hn:e.size=n)(a b i st:Nat)(hi:1<=i)(hib:i<=b)(hb:b<=n)(hl:n<=1073741824){xs:Env}(hx:xs=[]\/xs=[(14,Zae true)]):
 wp (K A) (.loop ZiD) (fun x s'=>x=.exit 2/\s'=⟨S5 n a b (Sort.scanSorted ltN e b i) st [(32,Zae false)],[(0,some (arrU l))]⟩) ⟨S5 n a b i st xs,[(0,some (arrU l))]⟩:=by
 refine Zad (fun r s=>∃(i':Nat) (xs:Env),(xs=[]\/xs=[(14,Zae true)])/\Sort.scanSorted ltN e b i'=Sort.scanSorted ltN e b i/\i'=i+r/\s=⟨S5 n a b i' st xs,[(0,some (arrU l))]⟩) (b-i) ⟨i,xs,hx,rfl,rfl,rfl⟩ ?_ ?_
 .clear hx
  rintro r s hr ⟨i',xs,hx,hs,hi',rfl⟩;have hij:i'<b:=by omega
  have hy:=Zbf h (i:=i') (by omega);have hz:=Zbf h (i:=i'-1) (by omega);have hll:=Za5 h;have hstop:=Zlg (d:=e) (b:=b) (i:=i');have hgo:=ss_go (d:=e) (b:=b) (i:=i') hij;generalize e[i']! = y at *
  generalize e[i'-1]! = z at *
  have hless:=Zb6 (A:=A) y z;have hil:i'<l.length:=by omega
  have hil1:i'-1<l.length:=by omega
  have hi1:(i':Int)-1=((i'-1:Nat):Int):=by omega
  unfold ZiD;by_cases hlt:y<z
  .rw [hstop (by simp [hlt])] at hs
   rcases hx with rfl|rfl<;>simp(maxSteps:=4000000) (disch:=first|exact zd|fail) [hij,hy,hz,hi1,hll,hn,hless,hlt,<-hs,-getElem?_pos]
  .rw [hgo hlt] at hs
   have fin:∃(i'':Nat) (xs:Env),(xs=[]\/xs=[(14,Zae true)])/\Sort.scanSorted ltN e b i''=Sort.scanSorted ltN e b i/\i''=i+(r+1)/\(⟨S5 n a b (i'+1) st [],[(0,some (arrU l))]⟩:St)=⟨S5 n a b i'' st xs,[(0,some (arrU l))]⟩:=
    ⟨i'+1,[],.inl rfl,hs,by omega,rfl⟩
   rcases hx with rfl|rfl<;>(simp(maxSteps:=4000000) (disch:=first|exact zd|fail) [hij,hy,hz,hi1,hll,hn,hless,hlt,-getElem?_pos];simpa using fin)
 .clear hx
  rintro s ⟨i',xs,hx,hs,hi',rfl⟩;have hij:¬i'<b:=by omega
  rw[Zlg (by omega)]at hs;unfold ZiD;rcases hx with rfl|rfl<;>simp(maxSteps:=4000000) (disch:=first|exact zd|fail) [hij,<-hs,-getElem?_pos]
theorem Zr8 {d:Array Nat}{j:Nat}(hj:1<=j):Sort.shiftDown ltN j d=if d[j]! < d[j-1]! then Sort.shiftDown ltN (j-1) (Sort.swp d j (j-1)) else d:=by
 obtain⟨k,rfl⟩:∃k,j=k+1:=⟨j-1,by omega⟩;rw[Sort.shiftDown];simp only[qaX,ltN];by_cases h:d[k+1]! < d[k]!
 .simp[h]
 .simp[h]
theorem Zta {d:Array Nat}{b j:Nat}(hj:j<b):Sort.shiftUp ltN b j d=if d[j]! < d[j-1]! then Sort.shiftUp ltN b (j+1) (Sort.swp d j (j-1)) else d:=by
 rw[Sort.shiftUp,if_pos hj];simp only[ltN];by_cases h:d[j]! < d[j-1]!
 .simp[h]
 .simp[h]
theorem Zne {d:Array Nat}{b j:Nat}(hj:¬j<b):Sort.shiftUp ltN b j d=d:=by
 rw[Sort.shiftUp,if_neg hj]
theorem ZtT {e:Array Nat}{l:List Nat}(h:Is e l){n:Nat}(hn:e.size=n)(a b i st j:Nat)(hj:j<n)(hl:n<=1073741824):
 wp (K A) (.loop ZjN) (fun x s'=>x=.exit 4/\∃(e':Array Nat) (l':List Nat) (j':Nat),Is e' l'/\e'.size=n/\e'=Sort.shiftDown ltN j e/\
  (s'=⟨S5 n a b i st [(9,intV j'),(65,Zae false)],[(0,some (arrU l'))]⟩\/s'=⟨S5 n a b i st [(9,intV j'),(78,Zae true)],[(0,some (arrU l'))]⟩)) ⟨S5 n a b i st [(9,intV j)],[(0,some (arrU l))]⟩:=by
 generalize hR:Sort.shiftDown ltN j e=R;refine Zad (fun r s=>∃(j':Nat) (e':Array Nat) (l':List Nat),Is e' l'/\e'.size=n/\Sort.shiftDown ltN j' e'=R/\j'+r=j/\s=⟨S5 n a b i st [(9,intV j')],[(0,some (arrU l'))]⟩) j ⟨j,e,l,h,hn,hR,rfl,rfl⟩ ?_ ?_
 .clear h
  rintro r s hr ⟨j',e',l',h,hn',hs,hj',rfl⟩;have hj1:(1:Int)<=j':=by omega
  have hy:=Zbf h (i:=j') (by omega);have hz:=Zbf h (i:=j'-1) (by omega);have hsw:=Ze1 h j' (j'-1);have hll:=Za5 h;rw[Zr8 (by omega)]at hs;generalize e'[j']! = y at *
  generalize e'[j'-1]! = z at *
  have hless:=Zb6 (A:=A) y z;have hjl:j'<l'.length:=by omega
  have hjl1:j'-1<l'.length:=by omega
  have hjI:(j':Int)-1=((j'-1:Nat):Int):=by omega
  obtain⟨v2,hv2⟩:=Zaa (l:=l'.set j' z) (i:=j'-1) (by simp;omega);unfold ZjN;by_cases hlt:y<z
  .rw [if_pos hlt] at hs
   have fin:∃(j'':Nat) (e'':Array Nat) (l'':List Nat),Is e'' l''/\e''.size=n/\Sort.shiftDown ltN j'' e''=R/\j''+(r+1)=j/\(⟨S5 n a b i st [(9,intV ((j'-1:Nat):Int))],[(0,some (arrU ((l'.set j' z).set (j'-1) y)))]⟩:St)=⟨S5 n a b i st [(9,intV j'')],[(0,some (arrU l''))]⟩:=
    ⟨j'-1,_,_,hsw,by simp[hn'],hs,by omega,rfl⟩
   simp(maxSteps:=4000000) (disch:=first|exact zd|fail) [hj1,hy,hz,hv2,hjI,hll,hn',hless,hlt,-getElem?_pos];simpa using fin
  .rw [if_neg hlt] at hs
   have fin:∃(e'':Array Nat) (l'':List Nat) (j'':Nat),Is e'' l''/\e''.size=n/\e''=R/\((⟨S5 n a b i st [(9,intV j'),(78,Zae true)],[(0,some (arrU l'))]⟩:St)=⟨S5 n a b i st [(9,intV j''),(65,Zae false)],[(0,some (arrU l''))]⟩\/
    (⟨S5 n a b i st [(9,intV j'),(78,Zae true)],[(0,some (arrU l'))]⟩:St)=⟨S5 n a b i st [(9,intV j''),(78,Zae true)],[(0,some (arrU l''))]⟩):=
    ⟨e',l',j',h,hn',hs,.inr rfl⟩
   simp(maxSteps:=4000000) (disch:=first|exact zd|fail) [hj1,hy,hz,hjI,hll,hn',hless,hlt,-getElem?_pos];simpa using fin
 .clear h
  rintro s ⟨j',e',l',h,hn',hs,hj',rfl⟩;obtain rfl:j'=0:=by omega
  rw[Sort.shiftDown]at hs;have fin:∃(e'':Array Nat) (l'':List Nat) (j'':Nat),Is e'' l''/\e''.size=n/\e''=R/\((⟨S5 n a b i st [(9,intV ((0:Nat):Int)),(65,Zae false)],[(0,some (arrU l'))]⟩:St)=⟨S5 n a b i st [(9,intV j''),(65,Zae false)],[(0,some (arrU l''))]⟩\/
   (⟨S5 n a b i st [(9,intV ((0:Nat):Int)),(65,Zae false)],[(0,some (arrU l'))]⟩:St)=⟨S5 n a b i st [(9,intV j''),(78,Zae true)],[(0,some (arrU l''))]⟩):=
   ⟨e',l',0,h,hn',hs,.inl rfl⟩
  unfold ZjN;simp(maxSteps:=4000000) (disch:=first|exact zd|fail) [-getElem?_pos];simpa using fin
theorem Zr4 {e:Array Nat}{l:List Nat}(h:Is e l){n:Nat}(hn:e.size=n)(a b i st j:Nat)(hj:1<=j)(hjb:j<=b)(hb:b<=n)(hl:n<=1073741824):
 wp (K A) (.loop Zjx) (fun x s'=>x=.exit 6/\∃(e':Array Nat) (l':List Nat) (j':Nat),Is e' l'/\e'.size=n/\e'=Sort.shiftUp ltN b j e/\
  (s'=⟨S5 n a b i st [(10,intV j'),(103,Zae false)],[(0,some (arrU l'))]⟩\/s'=⟨S5 n a b i st [(10,intV j'),(116,Zae true)],[(0,some (arrU l'))]⟩)) ⟨S5 n a b i st [(10,intV j)],[(0,some (arrU l))]⟩:=by
 generalize hR:Sort.shiftUp ltN b j e=R;refine Zad (fun r s=>∃(j':Nat) (e':Array Nat) (l':List Nat),Is e' l'/\e'.size=n/\Sort.shiftUp ltN b j' e'=R/\j'=j+r/\s=⟨S5 n a b i st [(10,intV j')],[(0,some (arrU l'))]⟩) (b-j) ⟨j,e,l,h,hn,hR,rfl,rfl⟩ ?_ ?_
 .clear h
  rintro r s hr ⟨j',e',l',h,hn',hs,hj',rfl⟩;have hj1:j'<b:=by omega
  have hy:=Zbf h (i:=j') (by omega);have hz:=Zbf h (i:=j'-1) (by omega);have hsw:=Ze1 h j' (j'-1);have hll:=Za5 h;rw[Zta hj1]at hs;generalize e'[j']! = y at *
  generalize e'[j'-1]! = z at *
  have hless:=Zb6 (A:=A) y z;have hjl:j'<l'.length:=by omega
  have hjl1:j'-1<l'.length:=by omega
  have hjI:(j':Int)-1=((j'-1:Nat):Int):=by omega
  obtain⟨v2,hv2⟩:=Zaa (l:=l'.set j' z) (i:=j'-1) (by simp;omega);unfold Zjx;by_cases hlt:y<z
  .rw [if_pos hlt] at hs
   have fin:∃(j'':Nat) (e'':Array Nat) (l'':List Nat),Is e'' l''/\e''.size=n/\Sort.shiftUp ltN b j'' e''=R/\j''=j+(r+1)/\(⟨S5 n a b i st [(10,intV ((j':Int)+1))],[(0,some (arrU ((l'.set j' z).set (j'-1) y)))]⟩:St)=⟨S5 n a b i st [(10,intV j'')],[(0,some (arrU l''))]⟩:=
    ⟨j'+1,_,_,hsw,by simp[hn'],hs,by omega,rfl⟩
   simp(maxSteps:=4000000) (disch:=first|exact zd|fail) [hj1,hy,hz,hv2,hjI,hll,hn',hless,hlt,-getElem?_pos];simpa using fin
  .rw [if_neg hlt] at hs
   have fin:∃(e'':Array Nat) (l'':List Nat) (j'':Nat),Is e'' l''/\e''.size=n/\e''=R/\((⟨S5 n a b i st [(10,intV j'),(116,Zae true)],[(0,some (arrU l'))]⟩:St)=⟨S5 n a b i st [(10,intV j''),(103,Zae false)],[(0,some (arrU l''))]⟩\/
    (⟨S5 n a b i st [(10,intV j'),(116,Zae true)],[(0,some (arrU l'))]⟩:St)=⟨S5 n a b i st [(10,intV j''),(116,Zae true)],[(0,some (arrU l''))]⟩):=
    ⟨e',l',j',h,hn',hs,.inr rfl⟩
   simp(maxSteps:=4000000) (disch:=first|exact zd|fail) [hj1,hy,hz,hjI,hll,hn',hless,hlt,-getElem?_pos];simpa using fin
 .clear h
  rintro s ⟨j',e',l',h,hn',hs,hj',rfl⟩;have hj1:¬j'<b:=by omega
  rw[Zne hj1]at hs;have fin:∃(e'':Array Nat) (l'':List Nat) (j'':Nat),Is e'' l''/\e''.size=n/\e''=R/\((⟨S5 n a b i st [(10,intV j'),(103,Zae false)],[(0,some (arrU l'))]⟩:St)=⟨S5 n a b i st [(10,intV j''),(103,Zae false)],[(0,some (arrU l''))]⟩\/
   (⟨S5 n a b i st [(10,intV j'),(103,Zae false)],[(0,some (arrU l'))]⟩:St)=⟨S5 n a b i st [(10,intV j''),(116,Zae true)],[(0,some (arrU l''))]⟩):=
   ⟨e',l',j',h,hn',hs,.inl rfl⟩
  unfold Zjx;simp(maxSteps:=4000000) (disch:=first|exact zd|fail) [hj1,-getElem?_pos];simpa using fin
def ZqC:VCode:=(sq [oM 95 2,oM 96 7,oB 97 .sub 95 96,oK 98 .geq 97 2] [0,1,2,7,8,98] (cd 98 (sq [oM 99 7,oK 100 .add 99 1,oM 10 100] [0,1,2,7,8,10] (.block 6 (.loop Zjx))) .skip))
theorem ZwR {n a b i2 r:Nat}(h1:1<=i2)(hib:i2<b)(hb:b<=n)(hl:n<=1073741824){e2:Array Nat}{l2:List Nat}{xs:Env}(k1:Is e2 l2)(k2:e2.size=n)
 (k4:xs=[(61,Zae false)]\/(∃j':Nat,xs=[(9,intV j'),(65,Zae false)])\/∃j':Nat,xs=[(9,intV j'),(78,Zae true)])
 (Q:Ex->St->Prop) (hQ:∀(e:Array Nat) (l:List Nat) (ys:Env),Is e l->e.size=n->e=(if b-i2>=2 then Sort.shiftUp ltN b (i2+1) e2 else e2)->
   (ys=[(98,Zae false)]\/(∃j':Nat,ys=[(10,intV j'),(103,Zae false)])\/∃j':Nat,ys=[(10,intV j'),(116,Zae true)])->Q .normal ⟨S5 n a b i2 r ys,[(0,some (arrU l))]⟩):
 wp (K A) ZqC Q ⟨S5 n a b i2 r xs,[(0,some (arrU l2))]⟩:=by
 have hi2:(i2:Int)+1=((i2+1:Nat):Int):=by omega
 by_cases hu:b-i2>=2
 .have huI:(2:Int)<=(b:Int)-i2:=by omega
  rw[if_pos hu]at hQ;have hw2:=Zr4 (A:=A) k1 k2 a b i2 r (i2+1) (by omega) (by omega) hb hl;generalize i2+1=i3 at *
  unfold ZqC;rcases k4 with rfl|⟨j0,rfl⟩|⟨j0,rfl⟩ <;>
  (simp (maxSteps:=4000000) (disch:=first|exact zd|fail) [huI,hi2,-getElem?_pos]
   refine ZaU hw2 ?_;rintro _ _ ⟨rfl,e',l',j',q1,q2,q3,(rfl|rfl)⟩
   .simp only [blockQ_exit,beq_self_eq_true,cond_true]
    exact hQ e' l' _ q1 q2 q3 (.inr (.inl ⟨j',rfl⟩))
   .simp only [blockQ_exit,beq_self_eq_true,cond_true]
    exact hQ e' l' _ q1 q2 q3 (.inr (.inr ⟨j',rfl⟩)))
 .have huI:¬(2:Int)<=(b:Int)-i2:=by omega
  rw[if_neg hu]at hQ;have fin:=hQ e2 l2 _ k1 k2 rfl (.inl rfl);unfold ZqC;rcases k4 with rfl|⟨j0,rfl⟩|⟨j0,rfl⟩ <;>
  (simp (maxSteps:=4000000) (disch:=first|exact zd|fail) [huI,-getElem?_pos]
   exact fin)
theorem Zv3 {e:Array Nat}{l:List Nat}(h:Is e l){n:Nat}(hn:e.size=n)(a b:Nat)(hab:a<b)(hb:b<=n)(hl:n<=1073741824):
 (K A).call 275 [.sc (.arr 0 n),intV a,intV b] [arrU l]=some (Zae (Sort.partialInsertionSort ltN e a b).2,[arrU (Sort.partialInsertionSort ltN e a b).1.toList]):=by
 generalize hR:Sort.partialInsertionSort ltN e a b=R;unfold Sort.partialInsertionSort at hR;have hll:=Za5 h;refine fnO v275 ?_;unfold v275;simp(maxSteps:=4000000) (disch:=first|exact zd|fail) [-getElem?_pos];refine Zad (fun r s=>∃(i:Nat) (e:Array Nat) (l:List Nat),Is e l/\e.size=n/\Sort.partialIns ltN a b (5-r) i e=R/\a+1<=i/\i<=b/\s=⟨S5 n a b i r [],[(0,some (arrU l))]⟩) 5
  ⟨a+1,e,l,h,hn,hR,qe _,hab,by simp⟩ ?_ ?_
 .clear h hn hR hll
  rintro r s hr ⟨i,e,l,h,hn,hR,hai,hib,rfl⟩;obtain⟨k,hk⟩:∃k,5-r=k+1:=⟨4-r,by omega⟩;rw[hk]at hR;dsimp only[Sort.partialIns]at hR;have hr5:(r:Int)<5:=by omega
  obtain⟨g1,g2⟩:=ss_bd e b _ i (qe _) hib;have hw:=Zup (A:=A) (xs:=[(14,Zae true)]) h hn a b i r (by omega) hib hb hl (.inr rfl);generalize Sort.scanSorted ltN e b i=i2 at *
  unfold ZsT;dsimp only[G];have hu:=(by unfold ZqC;dsimp only[sq,oM,oB,oK,cd,o,tv,ki]:ZqC=_);rw[<-hu];simp(maxSteps:=4000000) (disch:=first|exact zd|fail) [hr5,-getElem?_pos];refine ZaU hw ?_;rintro _ _ ⟨rfl,rfl⟩;have hll:=Za5 h;by_cases hib2:i2=b
  .rw [if_pos hib2] at hR
   subst hR hib2;simp(maxSteps:=4000000) (disch:=first|exact zd|fail) [hll,hn,isEq h,-getElem?_pos]
  .have hibI:¬(i2:Int)=b:=by omega
   rw[if_neg hib2]at hR;by_cases h50:b-a<50
   .have h50I:(b:Int)-a<50:=by omega
    rw[if_pos h50]at hR;subst hR;simp(maxSteps:=4000000) (disch:=first|exact zd|fail) [hib2,hibI,h50I,hll,hn,isEq h,-getElem?_pos]
   .have h50I:¬(b:Int)-a<50:=by omega
    rw[if_neg h50]at hR;have hx:=Zbf h (i:=i2) (by omega);have hy:=Zbf h (i:=i2-1) (by omega);have hsw:=Ze1 h i2 (i2-1);have hsz:(Sort.swp e i2 (i2-1)).size=n:=(by simp[hn]);generalize Sort.swp e i2 (i2-1)=e1 at *
    generalize e[i2]! = u at *
    generalize e[i2-1]! = v at *
    have hil:i2<l.length:=(by omega);have hil1:i2-1<l.length:=(by omega);have hiI:(i2:Int)-1=((i2-1:Nat):Int):=(by omega);obtain⟨v2,hv2⟩:=Zaa (l:=l.set i2 v) (i:=i2-1) (by simp;omega);generalize hl1:(l.set i2 v).set (i2-1) u=l1 at *
    have cont:∀(e2:Array Nat) (l2:List Nat) (xs:Env),Is e2 l2->e2.size=n->e2=(if i2-a>=2 then Sort.shiftDown ltN (i2-1) e1 else e1)->
     (xs=[(61,Zae false)]\/(∃j':Nat,xs=[(9,intV j'),(65,Zae false)])\/∃j':Nat,xs=[(9,intV j'),(78,Zae true)])->
     wp (K A) ZqC (Zb5 1 (Zdt (K A) (.region [] [o 15 (.mv (tv 8)),o 16 (.bin .add 0 (tv 15) (ki 1)),o 8 (.mv (tv 16))] [] [0,1,2,7,8]) (fun e s'=>
      (e=.normal/\∃(i:Nat) (e:Array Nat) (l:List Nat),Is e l/\e.size=n/\Sort.partialIns ltN a b (4-r) i e=R/\a+1<=i/\i<=b/\s'=⟨S5 n a b i (r+1) [],[(0,some (arrU l))]⟩)\/
      (¬e=.normal/\Zb5 0 (Zdt (K A) (.seq (.region [] [o 6 (.mv kF)] [] [6]) .ret) (Zg0 false 1 [.tmp 6] (Zae R.2,[arrU R.1.toList]))) e s'))))
      ⟨S5 n a b i2 r xs,[(0,some (arrU l2))]⟩:=by
     intro e2 l2 xs k1 k2 k3 k4;refine ZwR (A:=A) (by omega) (by omega) hb hl k1 k2 k4 _ ?_;intro e' l' ys q1 q2 q3 q4;rw[<-k3,<-q3]at hR;have fin:∃(i:Nat) (e:Array Nat) (l:List Nat),Is e l/\e.size=n/\Sort.partialIns ltN a b (4-r) i e=R/\a+1<=i/\i<=b/\(⟨S5 n a b i2 (r+1) [],[(0,some (arrU l'))]⟩:St)=⟨S5 n a b i (r+1) [],[(0,some (arrU l))]⟩:=
      ⟨i2,e',l',q1,q2,by rw[show 4-r=k by omega];exact hR,by omega,by omega,rfl⟩
     rcases q4 with rfl|⟨j0,rfl⟩|⟨j0,rfl⟩ <;>
     (simp (maxSteps:=4000000) (disch:=first|exact zd|fail) [-getElem?_pos]
      simpa using fin)
    by_cases hd:i2-a>=2
    .have hdI:(2:Int)<=(i2:Int)-a:=by omega
     rw[if_pos hd]at cont;have hw1:=ZtT (A:=A) hsw hsz a b i2 r (i2-1) (by omega) hl;generalize i2-1=i1 at *
     simp(maxSteps:=4000000) (disch:=first|exact zd|fail) [hib2,hibI,h50I,hx,hy,hv2,hiI,hdI,hll,hn,hl1,-getElem?_pos];refine ZaU hw1 ?_;rintro _ _ ⟨rfl,e',l',j',q1,q2,q3,(rfl|rfl)⟩
     .simp only [blockQ_exit,beq_self_eq_true,cond_true,thenQ_normal]
      exact cont e' l' _ q1 q2 q3 (.inr (.inl ⟨j',rfl⟩))
     .simp only [blockQ_exit,beq_self_eq_true,cond_true,thenQ_normal]
      exact cont e' l' _ q1 q2 q3 (.inr (.inr ⟨j',rfl⟩))
    .have hdI:¬(2:Int)<=(i2:Int)-a:=by omega
     rw[if_neg hd]at cont;simp(maxSteps:=4000000) (disch:=first|exact zd|fail) [hib2,hibI,h50I,hx,hy,hv2,hiI,hdI,hll,hn,hl1,-getElem?_pos];exact cont e1 l1 _ hsw hsz rfl (.inl rfl)
 .clear h hn hR hll
  rintro s ⟨i,e,l,h,hn,hR,hai,hib,rfl⟩;rw[qaV,Sort.partialIns]at hR;subst hR;have hll:=Za5 h;unfold ZsT;simp(maxSteps:=4000000) (disch:=first|exact zd|fail) [hll,hn,isEq h,-getElem?_pos]
variable {A:Zab}
theorem Zmv {d:Array Nat}{a b:Nat}(h:a<=b)(hb:b<=d.size):(Sort.insertionSort ltN d a b).size=d.size:=(Sort.insertionSort_holds swoN d a b h hb).1.1
theorem ZkH {d:Array Nat}{a b:Nat}(h:a<=b)(hb:b<=d.size):(Sort.heapSort ltN d a b).size=d.size:=(Sort.heapSort_holds swoN d a b h hb).1.1
theorem Zhm {d:Array Nat}{a b:Nat}(h:a<=b)(hb:b<=d.size):(Sort.reverseRange d a b).size=d.size:=(Sort.reverseRange_holds d a b h hb).1
theorem Zkc (d:Array Nat)(a b:Nat):(Sort.breakPatterns d a b).size=d.size:=by
 dsimp only[Sort.breakPatterns];split
 .rw[ZdR,ZdR,ZdR]
 .rfl
theorem ZdN:∀(j:Nat)(d:Array Nat),(Sort.shiftDown ltN j d).size=d.size
 |0,d=>by rw[Sort.shiftDown]
 |j+1,d=>by
  rw[Zr8 (by omega)];split
  .rw[qaX,ZdN j,swp_size]
  .rfl
theorem Zhg (b:Nat):∀(k j:Nat) (d:Array Nat),b-j<=k->(Sort.shiftUp ltN b j d).size=d.size
 |0,j,d,h=>by rw[Zne (by omega)]
 |k+1,j,d,h=>by
  by_cases hj:j<b
  .rw [Zta hj]
   split
   .rw[Zhg b k _ _ (by omega),swp_size]
   .rfl
  .rw[Zne hj]
theorem ZeW (a b:Nat):∀(s i:Nat) (d:Array Nat),(Sort.partialIns ltN a b s i d).1.size=d.size
 |0,i,d=>by rw[Sort.partialIns]
 |s+1,i,d=>by
  dsimp only[Sort.partialIns];split
  .rfl
  .split
   .rfl
   .rw [ZeW a b s]
    split
    .rw [Zhg b _ _ _ (qe _)]
     split
     .rw[ZdN,swp_size]
     .rw[swp_size]
    .split
     .rw[ZdN,swp_size]
     .rw[swp_size]
theorem Zex (d:Array Nat)(a b:Nat):(Sort.partialInsertionSort ltN d a b).1.size=d.size:=ZeW a b 5 (a+1) d
theorem Zjl (a:Nat):∀(k i j:Nat) (d:Array Nat),j+1-i<=k->1<=i->i<=(Sort.partEqLoop ltN a i j d).1/\(Sort.partEqLoop ltN a i j d).1<=max i (j+1)/\(Sort.partEqLoop ltN a i j d).2.size=d.size:=by
 intro k
 induction k with
 |zero=>
  intro i j d h h1;have hu:Sort.scanUp (fun x=>!ltN d[a]! x) d j i=i:=Zcy (by omega);have hd:=Zg2 (fun x=>ltN d[a]! x) d i j;rw[Zej,hu,if_pos (by omega)];exact⟨qe _,qaK _ _,rfl⟩
 |succ k ih=>
  intro i j d h h1;rw[Zej];have g1:=Zth (fun x=>!ltN d[a]! x) d j _ i (qe _);have g2:i<=j+1->Sort.scanUp (fun x=>!ltN d[a]! x) d j i<=j+1:=ZvE (fun x=>!ltN d[a]! x) d j _ i (qe _);have g3:¬i<=j+1->Sort.scanUp (fun x=>!ltN d[a]! x) d j i=i:=fun hc=>Zcy (by omega);generalize Sort.scanUp (fun x=>!ltN d[a]! x) d j i=i2 at *
  have g4:=Zg2 (fun x=>ltN d[a]! x) d i2 j;generalize Sort.scanDown (fun x=>ltN d[a]! x) d i2 j=j2 at *
  split
  .refine ⟨g1,?_,rfl⟩
   show i2<=_;by_cases hc:i<=j+1
   .have:=g2 hc
    omega
   .have:=g3 hc
    omega
  .rw [if_pos (by omega)]
   obtain⟨k1,k2,k3⟩:=ih (i2+1) (j2-1) (Sort.swp d i2 j2) (by omega) (by omega);refine⟨by omega,by omega,by rw[k3,swp_size]⟩
theorem ZjF {d:Array Nat}{a b p:Nat}(h:a<b):a<(Sort.partitionEqual ltN d a b p).1/\(Sort.partitionEqual ltN d a b p).1<=b/\(Sort.partitionEqual ltN d a b p).2.size=d.size:=by
 unfold Sort.partitionEqual;obtain⟨k1,k2,k3⟩:=Zjl a _ (a+1) (b-1) (Sort.swp d a p) (qe _) (by omega);exact⟨by omega,by omega,by rw[k3,swp_size]⟩
theorem ZoM {d:Array Nat}{a b p:Nat}(ha:a<=p)(hp:p<b)(hb:b<=d.size):a<=(Sort.partition ltN d a b p).1/\(Sort.partition ltN d a b p).1<b/\(Sort.partition ltN d a b p).2.2.size=d.size:=by
 obtain⟨h1,h2,h3,_⟩:=Sort.partition_holds ltN swoN d a b p ha hp hb;exact⟨h1,h2,h3.1⟩
def t9 (d:Array Nat)(a b lim piv:Nat):Array Nat:=
 if (Sort.partition ltN d a b piv).1-a<b-(Sort.partition ltN d a b piv).1 then
  Sort.pdq ltN (Sort.pdq ltN (Sort.partition ltN d a b piv).2.2 a (Sort.partition ltN d a b piv).1 lim true true) ((Sort.partition ltN d a b piv).1+1) b lim
   (decide ((Sort.partition ltN d a b piv).1-a>=(b-a) / 8)) (Sort.partition ltN d a b piv).2.1
 else
  Sort.pdq ltN (Sort.pdq ltN (Sort.partition ltN d a b piv).2.2 ((Sort.partition ltN d a b piv).1+1) b lim true true) a (Sort.partition ltN d a b piv).1 lim
   (decide (b-(Sort.partition ltN d a b piv).1>=(b-a) / 8)) (Sort.partition ltN d a b piv).2.1
def t8 (d:Array Nat)(a b lim:Nat)(wb wq:Bool)(piv:Nat):Array Nat:=
 if (decide (a>0) && !ltN d[a-1]! d[piv]!)=true then Sort.pdq ltN (Sort.partitionEqual ltN d a b piv).2 (Sort.partitionEqual ltN d a b piv).1 b lim wb wq
 else t9 d a b lim piv
def t7 (d:Array Nat)(a b lim:Nat)(wb wq:Bool)(piv:Nat)(hint:Sort.Hint):Array Nat:=
 if (if (wb&&wq&&decide (hint=.increasing))=true then Sort.partialInsertionSort ltN d a b else (d,false)).2=true then
  (if (wb&&wq&&decide (hint=.increasing))=true then Sort.partialInsertionSort ltN d a b else (d,false)).1
 else t8 (if (wb&&wq&&decide (hint=.increasing))=true then Sort.partialInsertionSort ltN d a b else (d,false)).1 a b lim wb wq piv
def t5 (d:Array Nat)(a b lim:Nat)(wb wq:Bool):Array Nat:=
 t7 (if (Sort.choosePivot ltN d a b).2=.decreasing then Sort.reverseRange d a b else d) a b lim wb wq
  (if (Sort.choosePivot ltN d a b).2=.decreasing then (b-1)-((Sort.choosePivot ltN d a b).1-a) else (Sort.choosePivot ltN d a b).1)
  (if (Sort.choosePivot ltN d a b).2=.decreasing then .increasing else (Sort.choosePivot ltN d a b).2)
theorem pdq_t5 {d:Array Nat}{a b lim:Nat}{wb wq:Bool}(h12:¬b-a<=12)(hl:¬lim=0)(hb:b<=d.size):
 Sort.pdq ltN d a b lim wb wq=t5 (if (!wb)=true then Sort.breakPatterns d a b else d) a b (if (!wb)=true then lim-1 else lim) wb wq:=by
 rw[Sort.pdq,if_neg h12,if_neg hl];unfold t5 t7 t8 t9;dsimp only;have s1:(if (!wb)=true then Sort.breakPatterns d a b else d).size=d.size:=by
  split
  .exact Zkc d a b
  .rfl
 generalize (if (!wb)=true then Sort.breakPatterns d a b else d)=d1 at *
 generalize (if (!wb)=true then lim-1 else lim)=lim1 at *
 obtain⟨c1,c2⟩:=Sort.choosePivot_holds ltN d1 a b (by omega);generalize Sort.choosePivot ltN d1 a b=c at *
 have hpv:a<=(if c.2=.decreasing then (b-1)-(c.1-a) else c.1)/\(if c.2=.decreasing then (b-1)-(c.1-a) else c.1)<b:=by
  split<;>omega
 generalize (if c.2=.decreasing then (b-1)-(c.1-a) else c.1)=piv at *
 have s2:(if c.2=.decreasing then Sort.reverseRange d1 a b else d1).size=d.size:=by
  split
  .rw[Zhm (by omega) (by omega),s1]
  .exact s1
 generalize (if c.2=.decreasing then Sort.reverseRange d1 a b else d1)=d2 at *
 generalize (if c.2=Sort.Hint.decreasing then Sort.Hint.increasing else c.2)=hint at *
 have s3:(if (wb&&wq&&decide (hint=.increasing))=true then Sort.partialInsertionSort ltN d2 a b else (d2,false)).1.size=d.size:=by
  split
  .rw[Zex,s2]
  .exact s2
 generalize (if (wb&&wq&&decide (hint=.increasing))=true then Sort.partialInsertionSort ltN d2 a b else (d2,false))=pi at *
 split
 .rfl
 .split
  .obtain ⟨k1,k2,_⟩:=ZjF (d:=pi.1) (p:=piv) (show a<b by omega)
   generalize Sort.partitionEqual ltN pi.1 a b piv=r at *
   obtain⟨mid,d4⟩:=r;simp only at *
   rw[dif_pos ⟨k1,k2⟩]
  .obtain ⟨k1,k2,_⟩:=ZoM (d:=pi.1) (p:=piv) hpv.1 hpv.2 (by omega)
   generalize Sort.partition ltN pi.1 a b piv=r at *
   obtain⟨mid,ap,d4⟩:=r;simp only at *
   rw[dif_pos ⟨k1,k2⟩]
def p9:VCode:=(sq [oM 95 0,oM 96 1,oM 97 2,oM 98 11,cA 99 278 [ta 95,fa 96,fa 97,fa 98] 5760,oM 94 99,oE 100 94 0,oE 101 94 1,oM 14 100,oM 15 101] [0,1,2,3,8,9,10,14,15] (sq [oM 102 15,oM 9 102] [0,1,2,3,8,9,10,14] (sq [oM 103 14,oM 104 1,oB 105 .sub 103 104,oM 106 2,oM 107 14,oB 108 .sub 106 107,oM 16 105,oM 17 108] [0,1,2,3,8,9,10,14,16,17] (sq [oM 109 10,oK 110 .quo 109 8,oM 18 110] [0,1,2,3,8,9,14,16,17,18] (sq [oM 111 16,oM 112 17,oB 113 .lss 111 112] [0,1,2,3,8,9,14,16,17,18,113] (cd 113 (sq [oM 114 16,oM 115 18,oB 116 .geq 114 115,oM 8 116] [0,1,2,3,8,9,14] (sq [oM 117 0,oM 118 1,oM 119 14,oM 120 3,cA 121 249 [ta 117,fa 118,fa 119,fa 120] 7680] [0,1,2,3,8,9,14] (rg [oM 122 14,oK 123 .add 122 1,oM 1 123] [0,1,2,3,8,9]))) (sq [oM 124 17,oM 125 18,oB 126 .geq 124 125,oM 8 126] [0,1,2,3,8,9,14] (sq [oM 127 0,oM 128 14,oK 129 .add 128 1,oM 130 2,oM 131 3,cA 132 249 [ta 127,fa 129,fa 130,fa 131] 8512] [0,1,2,3,8,9,14] (rg [oM 133 14,oM 2 133] [0,1,2,3,8,9])))))))))
def p8:VCode:=(.seq (.seq (.region [] [oM 73 1,oK 74 .gtr 73 0,oM 75 74,gM 76 0 75 true,gM 77 1 75 true,og 78 (.bin .sub 0 (tv 77) (ki 1)) 75 true,gX 79 1 76 78 75 true,gL 80 79 75 true,gM 81 0 75 true,gM 82 11 75 true,gX 83 1 81 82 75 true,gL 84 83 75 true,gA 85 276 [fa 80,fa 84] 75 true 4800,gU 86 85 75 true,oQ 87 75 86] [(6,10),(7,10),(6,11),(7,11)] [0,1,2,3,8,9,10,11,87]) (cd 87 (sq [oM 88 0,oM 89 1,oM 90 2,oM 91 11,cA 92 277 [ta 88,fa 89,fa 90,fa 91] 5248,oM 13 92] [0,1,2,3,8,9,13] (sq [oM 93 13,oM 1 93] [0,1,2,3,8,9] (.exit 1))) .skip))
 p9)
def p7:VCode:=(.seq (sq [oM 61 8,oM 62 61,gM 63 9 62 true,oQ 64 62 63,oM 65 64,gM 66 12 65 true,og 67 (.bin .eql 0 (tv 66) (ki 1)) 65 true,oQ 68 65 67] [0,1,2,3,8,9,10,11,68] (cd 68 (sq [oM 69 0,oM 70 1,oM 71 2,cA 72 275 [ta 69,fa 70,fa 71] 3968] [0,1,2,3,8,9,10,11,72] (cd 72 .ret .skip)) .skip))
 p8)
def p5:VCode:=(sq [oM 43 0,oM 44 1,oM 45 2,cA 46 273 [ta 43,fa 44,fa 45] 1984,oM 42 46,oE 47 42 0,oE 48 42 1,oM 11 47,oM 12 48] [0,1,2,3,8,9,10,11,12] (.seq (sq [oM 49 12,oK 50 .eql 49 2] [0,1,2,3,8,9,10,11,12,50] (cd 50 (sq [oM 51 0,oM 52 1,oM 53 2,cA 54 274 [ta 51,fa 52,fa 53] 2688] [0,1,2,3,8,9,10,11] (sq [oM 55 2,oK 56 .sub 55 1,oM 57 11,oM 58 1,oB 59 .sub 57 58,oB 60 .sub 56 59,oM 11 60] [0,1,2,3,8,9,10,11] (rg [oJ 12 1] [0,1,2,3,8,9,10,11,12]))) .skip))
 p7))
def p4:VCode:=(.seq (sq [oM 34 8,oU 35 34] [0,1,2,3,8,9,10,35] (cd 35 (sq [oM 36 0,oM 37 1,oM 38 2,cA 39 272 [ta 36,fa 37,fa 38] 1536] [0,1,2,3,8,9,10] (rg [oM 40 3,oK 41 .sub 40 1,oM 3 41] [0,1,2,3,8,9,10])) .skip))
 p5)
theorem Zzk:ZrE=.block 1 (.seq (.region [] [o 19 (.mv (tv 2)),
 o 20 (.mv (tv 1)),
 o 21 (.bin .sub 0 (tv 19) (tv 20)),
 o 10 (.mv (tv 21))] [] [0,1,2,3,8,9,10])
 (.seq (.seq (.region [] [o 22 (.mv (tv 10)),
 o 23 (.bin .leq 0 (tv 22) (ki 12))] [] [0,1,2,3,8,9,10,23])
 (.cond (tv 23) (.seq (.region [] [o 24 (.mv (tv 0)),
 o 25 (.mv (tv 1)),
 o 26 (.mv (tv 2)),
 oa 27 (.call (kf 270) [(true,(tv 24)),(false,(tv 25)),(false,(tv 26))] []) 768] [] [1000000])
 .ret)
 .skip))
 (.seq (.seq (.region [] [o 28 (.mv (tv 3)),
 o 29 (.bin .eql 0 (tv 28) (ki 0))] [] [0,1,2,3,8,9,10,29])
 (.cond (tv 29) (.seq (.region [] [o 30 (.mv (tv 0)),
 o 31 (.mv (tv 1)),
 o 32 (.mv (tv 2)),
 oa 33 (.call (kf 271) [(true,(tv 30)),(false,(tv 31)),(false,(tv 32))] []) 1152] [] [1000000])
 .ret)
 .skip))
 p4))):=rfl
theorem ZzY {e:Array Nat}{l:List Nat}(h:Is e l){n:Nat}(hn:e.size=n)(a b:Nat)(hab:a<=b)(hb:b<=n)(hl:n<=1073741824):
 (K A).call 270 [.sc (.arr 0 n),intV a,intV b] [arrU l]=some (retV,[arrU (Sort.insertionSort ltN e a b).toList]):=by
 cases h;subst hn;exact ZzI e a b hab hb hl
theorem heapL {e:Array Nat}{l:List Nat}(h:Is e l){n:Nat}(hn:e.size=n)(a b:Nat)(hab:a<b)(hb:b<=n)(hl:n<=1073741824):
 (K A).call 271 [.sc (.arr 0 n),intV a,intV b] [arrU l]=some (retV,[arrU (Sort.heapSort ltN e a b).toList]):=by
 cases h;subst hn;exact heapA e a b hab hb hl
theorem ZxC {e:Array Nat}{l:List Nat}(h:Is e l){n:Nat}(hn:e.size=n)(a b:Nat)(hab:a<b)(hb:b<=n)(hl:n<=1073741824):
 (K A).call 274 [.sc (.arr 0 n),intV a,intV b] [arrU l]=some (retV,[arrU (Sort.reverseRange e a b).toList]):=by
 cases h;subst hn;exact Zwb e a b hab hb hl
abbrev S6 (n a b lim:Nat)(wb wq:Bool)(xs:Env):Env:=(0,.sc (.arr 0 n))::(1,intV a)::(2,intV b)::(3,intV lim)::(8,Zae wb)::(9,Zae wq)::xs
structure Owes (Q:Ex->St->Prop)(n L:Nat)(R:Array Nat):Prop where
 ret:∀(env:Env) (l:List Nat),Is R l->R.size=n->Q .ret ⟨env,[(0,some (arrU l))]⟩
 next:∀(x:Ex) (a b lim:Nat) (wb wq:Bool) (e:Array Nat) (l:List Nat),(x=.normal\/x=.exit 1)->Is e l->e.size=n->Sort.pdq ltN e a b lim wb wq=R->a<=b->b<=n->lim<=1000->b-a<L->
  Q x ⟨S6 n a b lim wb wq [],[(0,some (arrU l))]⟩
def ZfG (A:Zab)(n L:Nat):Prop:=∀(e:Array Nat) (l:List Nat) (a b lim:Nat),Is e l->e.size=n->a<=b->b<=n->lim<=1000->b-a<L->
 (K A).call 249 [.sc (.arr 0 n),intV a,intV b,intV lim] [arrU l]=some (retV,[arrU (Sort.pdq ltN e a b lim true true).toList])/\(Sort.pdq ltN e a b lim true true).size=n
theorem p9_ok {e:Array Nat}{l:List Nat}(h:Is e l){n:Nat}(hn:e.size=n){a b lim:Nat}{wb wq:Bool}{piv:Nat}(h12:¬b-a<=12)(hp1:a<=piv)(hp2:piv<b)(hb:b<=n)(hl:n<=1073741824)(hlim:lim<=1000)
 {R:Array Nat}(hR:t9 e a b lim piv=R) (sh:ZfG A n (b-a)) {Q:Ex->St->Prop}(q:Owes Q n (b-a) R):
 wp (K A) p9 Q ⟨S6 n a b lim wb wq [(10,intV ((b-a:Nat):Int)),(11,intV piv),(87,Zae false)],[(0,some (arrU l))]⟩:=by
 unfold t9 at hR;obtain⟨k1,k2,k3⟩:=ZoM (d:=e) (p:=piv) hp1 hp2 (by omega);have hc:=partA (A:=A) h hn a b piv hp1 hp2 hb hl;generalize Sort.partition ltN e a b piv=r at *
 obtain⟨mid,ap,d4⟩:=r;simp only at *
 have hll:=Za5 h;have hq:Int.tdiv ((b-a:Nat):Int) 8=(((b-a) / 8:Nat):Int):=by
  rw[qt (by omega)];omega
 have hmI:(mid:Int)-a=((mid-a:Nat):Int):=by omega
 have hbI:(b:Int)-mid=((b-mid:Nat):Int):=by omega
 have hm1:(mid:Int)+1=((mid+1:Nat):Int):=by omega
 have hd4:Is d4 d4.toList:=rfl;have hd4l:d4.toList.length=n:=by rw[Za5 hd4];omega
 unfold p9;by_cases hlt:mid-a<b-mid
 .rw [if_pos hlt] at hR
  obtain⟨c1,c2⟩:=sh d4 d4.toList a mid lim hd4 (by omega) k1 (by omega) hlim (by omega);generalize hg:Sort.pdq ltN d4 a mid lim true true=g at *
  have hgl:g.toList.length=n:=by rw[Za5 (show Is g g.toList from rfl)];exact c2
  have fin:=q.next .normal (mid+1) b lim (decide ((b-a) / 8<=mid-a)) ap g g.toList (.inl rfl) rfl c2 hR (by omega) hb hlim (by omega);have ht8:(b-a) / 8<=1073741824:=by omega
  generalize (b-a) / 8=t at *
  generalize mid-a=m1 at *
  generalize b-mid=m2 at *
  generalize mid+1=m3 at *
  generalize b-a=L at *
  generalize hgt:g.toList=gl at *
  generalize hdt:d4.toList=dl at *
  simp(maxSteps:=4000000) (disch:=first|exact zd|fail) [hc,c1,hq,hmI,hbI,hm1,hlt,hll,hn,hd4l,hgl,retV,V.ren,-getElem?_pos];exact fin
 .rw [if_neg hlt] at hR
  obtain⟨c1,c2⟩:=sh d4 d4.toList (mid+1) b lim hd4 (by omega) (by omega) hb hlim (by omega);generalize hg:Sort.pdq ltN d4 (mid+1) b lim true true=g at *
  have hgl:g.toList.length=n:=by rw[Za5 (show Is g g.toList from rfl)];exact c2
  have fin:=q.next .normal a mid lim (decide ((b-a) / 8<=b-mid)) ap g g.toList (.inl rfl) rfl c2 hR k1 (by omega) hlim (by omega);have ht8:(b-a) / 8<=1073741824:=by omega
  generalize (b-a) / 8=t at *
  generalize mid-a=m1 at *
  generalize b-mid=m2 at *
  generalize mid+1=m3 at *
  generalize b-a=L at *
  generalize hgt:g.toList=gl at *
  generalize hdt:d4.toList=dl at *
  simp(maxSteps:=4000000) (disch:=first|exact zd|fail) [hc,c1,hq,hmI,hbI,hm1,hlt,hll,hn,hd4l,hgl,retV,V.ren,-getElem?_pos];exact fin
theorem p8_ok {e:Array Nat}{l:List Nat}(h:Is e l){n:Nat}(hn:e.size=n){a b lim:Nat}{wb wq:Bool}{piv:Nat}(h12:¬b-a<=12)(hp1:a<=piv)(hp2:piv<b)(hb:b<=n)(hl:n<=1073741824)(hlim:lim<=1000)
 {R:Array Nat}(hR:t8 e a b lim wb wq piv=R) (sh:ZfG A n (b-a)) {Q:Ex->St->Prop}(q:Owes Q n (b-a) R) {t:Nat}(ht:t=68\/t=72):
 wp (K A) p8 Q ⟨S6 n a b lim wb wq [(10,intV ((b-a:Nat):Int)),(11,intV piv),(t,Zae false)],[(0,some (arrU l))]⟩:=by
 unfold t8 at hR;have hll:=Za5 h;by_cases ha:0<a
 .have haI:(0:Int)<a:=by omega
  have hx:=Zbf h (i:=a-1) (by omega);have hy:=Zbf h (i:=piv) (by omega);have ha1:(a:Int)-1=((a-1:Nat):Int):=by omega
  have hal:a-1<l.length:=by omega
  have hpl:piv<l.length:=by omega
  have hless:=Zb6 (A:=A) e[a-1]! e[piv]!;rw[Zht]at hR;generalize e[a-1]! = u at *
  generalize e[piv]! = v at *
  by_cases huv:u<v
  .rw [if_neg (by simp [huv])] at hR
   have fin:=p9_ok (A:=A) h hn (wb:=wb) (wq:=wq) h12 hp1 hp2 hb hl hlim hR sh q;unfold p8;rcases ht with rfl|rfl <;>
   (simp (maxSteps:=4000000) (disch:=first|exact zd|fail) [haI,ha,hx,hy,ha1,hless,huv,hll,hn,-getElem?_pos]
    exact fin)
  .rw [if_pos (by simp [huv,ha])] at hR
   obtain⟨k1,k2,k3⟩:=ZjF (d:=e) (p:=piv) (show a<b by omega);have hc:=ZA7 (A:=A) h hn a b piv hp1 hp2 hb hl;generalize Sort.partitionEqual ltN e a b piv=r at *
   obtain⟨mid,d4⟩:=r;simp only at *
   have hd4l:d4.toList.length=n:=(by rw[Za5 (show Is d4 d4.toList from rfl)];omega);have fin:=q.next (.exit 1) mid b lim wb wq d4 d4.toList (.inr rfl) rfl (by omega) hR k2 hb hlim (by omega);generalize hdt:d4.toList=dl at *
   unfold p8;rcases ht with rfl|rfl <;>
   (simp (maxSteps:=4000000) (disch:=first|exact zd|fail) [haI,ha,hx,hy,ha1,hless,huv,hc,hll,hn,hd4l,V.ren,-getElem?_pos]
    exact fin)
 .obtain rfl:a=0:=by omega
  rw[if_neg (by simp)]at hR;have fin:=p9_ok (A:=A) h hn (wb:=wb) (wq:=wq) h12 hp1 hp2 hb hl hlim hR sh q;unfold p8;rcases ht with rfl|rfl <;>
  (simp (maxSteps:=4000000) (disch:=first|exact zd|fail) [hll,hn,-getElem?_pos]
   exact fin)
theorem ZAS {e:Array Nat}{l:List Nat}(h:Is e l){n:Nat}(hn:e.size=n){a b lim:Nat}{wb wq:Bool}{piv:Nat}{hint:Sort.Hint}(h12:¬b-a<=12)(hp1:a<=piv)(hp2:piv<b)(hb:b<=n)(hl:n<=1073741824)(hlim:lim<=1000)
 {R:Array Nat}(hR:t7 e a b lim wb wq piv hint=R) (sh:ZfG A n (b-a)) {Q:Ex->St->Prop}(q:Owes Q n (b-a) R) {xs:Env}(hx:xs=[]\/xs=[(50,Zae false)]):
 wp (K A) p7 Q ⟨S6 n a b lim wb wq ((10,intV ((b-a:Nat):Int))::(11,intV piv)::(12,intV (ZgB hint))::xs),[(0,some (arrU l))]⟩:=by
 unfold t7 at hR;have hll:=Za5 h;by_cases hc:(wb&&wq&&decide (hint=.increasing))=true
 .rw [if_pos hc] at hR
  simp only[qc,decide_eq_true_eq]at hc;obtain⟨⟨rfl,rfl⟩,rfl⟩:=hc;have hcall:=Zv3 (A:=A) h hn a b (by omega) hb hl;have hsz:=Zex e a b;generalize Sort.partialInsertionSort ltN e a b=r at *
  obtain⟨d2,ok⟩:=r;simp only at *
  have hdl:d2.toList.length=n:=by rw[Za5 (show Is d2 d2.toList from rfl)];omega
  cases ok with
  |true=>
   rw[if_pos rfl]at hR;subst hR;have fin:=fun env=>q.ret env d2.toList rfl (by omega);generalize hdt:d2.toList=dl at *
   unfold p7;rcases hx with rfl|rfl <;>
   (simp (maxSteps:=4000000) (disch:=first|exact zd|fail) [hcall,ZgB,hll,hn,hdl,V.ren,-getElem?_pos]
    exact fin _)
  |false=>
   rw[if_neg (by simp)]at hR;have fin:=p8_ok (A:=A) (show Is d2 d2.toList from rfl) (hsz.trans hn) h12 hp1 hp2 hb hl hlim hR sh q (t:=72) (.inr rfl);generalize hdt:d2.toList=dl at *
   unfold p7;rcases hx with rfl|rfl <;>
   (simp (maxSteps:=4000000) (disch:=first|exact zd|fail) [hcall,ZgB,hll,hn,hdl,V.ren,-getElem?_pos]
    exact fin)
 .rw [if_neg hc,if_neg (by simp)] at hR
  have fin:=p8_ok (A:=A) h hn (wb:=wb) (wq:=wq) h12 hp1 hp2 hb hl hlim hR sh q (t:=68) (.inl rfl);unfold p7;cases wb with
  |false=>
   rcases hx with rfl|rfl <;>
   (simp (maxSteps:=4000000) (disch:=first|exact zd|fail) [hll,hn,-getElem?_pos]
    exact fin)
  |true=>
   cases wq with
   |false=>
    rcases hx with rfl|rfl <;>
    (simp (maxSteps:=4000000) (disch:=first|exact zd|fail) [hll,hn,-getElem?_pos]
     exact fin)
   |true=>
    cases hint with
    |increasing=>exact absurd rfl hc
    |unknown=>
     rcases hx with rfl|rfl <;>
     (simp (maxSteps:=4000000) (disch:=first|exact zd|fail) [ZgB,hll,hn,-getElem?_pos]
      exact fin)
    |decreasing=>
     rcases hx with rfl|rfl <;>
     (simp (maxSteps:=4000000) (disch:=first|exact zd|fail) [ZgB,hll,hn,-getElem?_pos]
      exact fin)
theorem p5_ok {e:Array Nat}{l:List Nat}(h:Is e l){n:Nat}(hn:e.size=n){a b lim:Nat}{wb wq:Bool}(h12:¬b-a<=12)(hb:b<=n)(hl:n<=1073741824)(hlim:lim<=1000)
 {R:Array Nat}(hR:t5 e a b lim wb wq=R) (sh:ZfG A n (b-a)) {Q:Ex->St->Prop}(q:Owes Q n (b-a) R) {xs:Env}(hx:xs=[]\/xs=[(35,Zae false)]):
 wp (K A) p5 Q ⟨S6 n a b lim wb wq ((10,intV ((b-a:Nat):Int))::xs),[(0,some (arrU l))]⟩:=by
 unfold t5 at hR;have hll:=Za5 h;have hc:=pivotA (A:=A) h hn a b (by omega) hb hl;obtain⟨c1,c2⟩:=Sort.choosePivot_holds ltN e a b (by omega);generalize Sort.choosePivot ltN e a b=c at *
 obtain⟨piv,hint⟩:=c;simp only at *
 cases hint with
 |decreasing=>
  simp only[if_true]at hR;have hrev:=ZxC (A:=A) h hn a b (by omega) hb hl;have hsz:=Zhm (d:=e) (a:=a) (b:=b) (by omega) (by omega);generalize Sort.reverseRange e a b=e2 at *
  have hdl:e2.toList.length=n:=by rw[Za5 (show Is e2 e2.toList from rfl)];omega
  have fin:=ZAS (A:=A) (show Is e2 e2.toList from rfl) (hsz.trans hn) h12 (show a<=b-1-(piv-a) by omega) (by omega) hb hl hlim hR sh q (.inl rfl);have hpI:(b:Int)-1-(piv-a)=((b-1-(piv-a):Nat):Int):=by omega
  generalize hdt:e2.toList=dl at *
  generalize b-1-(piv-a)=pv at *
  unfold p5;rcases hx with rfl|rfl <;>
  (simp (maxSteps:=4000000) (disch:=first|exact zd|fail) [hc,hrev,hpI,ZgB,hll,hn,hdl,retV,V.ren,-getElem?_pos]
   simpa[ZgB]using fin)
 |increasing=>
  simp only[reduceCtorEq,if_false]at hR;have fin:=ZAS (A:=A) h hn h12 c1 c2 hb hl hlim hR sh q (xs:=[(50,Zae false)]) (.inr rfl);unfold p5;rcases hx with rfl|rfl <;>
  (simp (maxSteps:=4000000) (disch:=first|exact zd|fail) [hc,ZgB,hll,hn,V.ren,-getElem?_pos]
   simpa[ZgB]using fin)
 |unknown=>
  simp only[reduceCtorEq,if_false]at hR;have fin:=ZAS (A:=A) h hn h12 c1 c2 hb hl hlim hR sh q (xs:=[(50,Zae false)]) (.inr rfl);unfold p5;rcases hx with rfl|rfl <;>
  (simp (maxSteps:=4000000) (disch:=first|exact zd|fail) [hc,ZgB,hll,hn,V.ren,-getElem?_pos]
   simpa[ZgB]using fin)
theorem p4_ok {e:Array Nat}{l:List Nat}(h:Is e l){n:Nat}(hn:e.size=n){a b lim:Nat}{wb wq:Bool}(h12:¬b-a<=12)(hb:b<=n)(hl:n<=1073741824)(hlim:lim<=1000)(hlim0:¬lim=0)
 {R:Array Nat}(hR:Sort.pdq ltN e a b lim wb wq=R) (sh:ZfG A n (b-a)) {Q:Ex->St->Prop}(q:Owes Q n (b-a) R):
 wp (K A) p4 Q ⟨S6 n a b lim wb wq [(10,intV ((b-a:Nat):Int)),(29,Zae false)],[(0,some (arrU l))]⟩:=by
 rw[pdq_t5 h12 hlim0 (by omega)]at hR;have hll:=Za5 h;cases wb with
 |true=>
  simp only[Bool.not_true,qE,if_false]at hR;have fin:=p5_ok (A:=A) h hn h12 hb hl hlim hR sh q (xs:=[(35,Zae false)]) (.inr rfl);unfold p4;simp(maxSteps:=4000000) (disch:=first|exact zd|fail) [hll,hn,-getElem?_pos];exact fin
 |false=>
  simp only[Bool.not_false,if_true]at hR;have hbr:=breakA (A:=A) h hn a b (by omega) hb hl;have hsz:=Zkc e a b;generalize Sort.breakPatterns e a b=e2 at *
  have hdl:e2.toList.length=n:=by rw[Za5 (show Is e2 e2.toList from rfl)];omega
  have fin:=p5_ok (A:=A) (show Is e2 e2.toList from rfl) (hsz.trans hn) h12 hb hl (by omega) hR sh q (xs:=[]) (.inl rfl);have hlI:(lim:Int)-1=((lim-1:Nat):Int):=by omega
  generalize hdt:e2.toList=dl at *
  generalize lim-1=lim1 at *
  unfold p4;simp(maxSteps:=4000000) (disch:=first|exact zd|fail) [hbr,hlI,hll,hn,hdl,retV,V.ren,-getElem?_pos];exact fin
theorem Zxn {e:Array Nat}{l:List Nat}(h:Is e l){n:Nat}(hn:e.size=n){a b lim:Nat}{wb wq:Bool}(hab:a<=b)(hb:b<=n)(hl:n<=1073741824)(hlim:lim<=1000)
 {R:Array Nat}(hR:Sort.pdq ltN e a b lim wb wq=R) (sh:ZfG A n (b-a)) {Q:Ex->St->Prop}(q:Owes (Zb5 1 Q) n (b-a) R):
 wp (K A) ZrE Q ⟨S6 n a b lim wb wq [],[(0,some (arrU l))]⟩:=by
 have hll:=Za5 h;have hLI:(b:Int)-a=((b-a:Nat):Int):=by omega
 rw[Zzk];by_cases h12:b-a<=12
 .rw [Sort.pdq,if_pos h12] at hR
  have hc:=ZzY (A:=A) h hn a b hab hb hl;have hsz:=Zmv (d:=e) hab (by omega);rw[hR]at hc hsz;have fin:=fun env=>q.ret env R.toList rfl (hsz.trans hn);have hdl:R.toList.length=n:=by rw[Za5 (show Is R R.toList from rfl)];omega
  generalize hdt:R.toList=dl at *
  have h12I:((b-a:Nat):Int)<=12:=by omega
  generalize b-a=L at *
  simp(maxSteps:=4000000) (disch:=first|exact zd|fail) [hc,hLI,h12,h12I,hll,hn,hdl,retV,V.ren,-getElem?_pos];exact fin _
 .by_cases hl0:lim=0
  .rw [Sort.pdq,if_neg h12,if_pos hl0] at hR
   subst hl0;have hc:=heapL (A:=A) h hn a b (by omega) hb hl;have hsz:=ZkH (d:=e) hab (by omega);rw[hR]at hc hsz;have fin:=fun env=>q.ret env R.toList rfl (hsz.trans hn);have hdl:R.toList.length=n:=(by rw[Za5 (show Is R R.toList from rfl)];omega);generalize hdt:R.toList=dl at *
   have h12I:¬((b-a:Nat):Int)<=12:=(by omega);generalize b-a=L at *
   simp(maxSteps:=4000000) (disch:=first|exact zd|fail) [hc,hLI,h12,h12I,hll,hn,hdl,retV,V.ren,-getElem?_pos];exact fin _
  .have fin:=p4_ok (A:=A) h hn h12 hb hl hlim hl0 hR sh q
   have h12I:¬((b-a:Nat):Int)<=12:=(by omega);generalize b-a=L at *
   simp(maxSteps:=4000000) (disch:=first|exact zd|fail) [hLI,h12,h12I,hl0,hll,hn,-getElem?_pos];exact fin
theorem pdqA (n:Nat)(hl:n<=1073741824):∀L,ZfG A n L:=by
 intro L
 induction L with
 |zero=>intro e l a b lim _ _ _ _ _ h;omega
 |succ L ih=>
  intro e l a b lim h hn hab hb hlim hlt;have sz:(Sort.pdq ltN e a b lim true true).size=n/\(K A).call 249 [.sc (.arr 0 n),intV a,intV b,intV lim] [arrU l]=some (retV,[arrU (Sort.pdq ltN e a b lim true true).toList]):=by
   generalize hR:Sort.pdq ltN e a b lim true true=R
   suffices hw:∃r,(R.size=n/\r=(retV,[arrU R.toList]))/\(K A).call 249 [.sc (.arr 0 n),intV a,intV b,intV lim] [arrU l]=some r by
    obtain⟨_,⟨h1,rfl⟩,h2⟩:=hw;exact⟨h1,h2⟩
   have hll:=Za5 h;refine fnE v249 ?_;unfold v249;simp(maxSteps:=4000000) (disch:=first|exact zd|fail) [-getElem?_pos];generalize hQ:(Zb5 0 (Zeo false 1 [] fun r=>R.size=n/\r=(retV,[arrU R.toList])))=Q;have hret:∀(env:Env) (l:List Nat),Is R l->R.size=n->Q .ret ⟨env,[(0,some (arrU l))]⟩:=by
    intro env l h1 h2;rw[<-hQ];have hl2:=Za5 h1;simp[isEq h1,retV,h2]
   clear hQ;refine Zad (fun r s=>∃(a' b' lim':Nat) (wb wq:Bool) (e':Array Nat) (l':List Nat),Is e' l'/\e'.size=n/\Sort.pdq ltN e' a' b' lim' wb wq=R/\a'<=b'/\b'<=n/\lim'<=1000/\b'-a'+r<=b-a/\
    s=⟨S6 n a' b' lim' wb wq [],[(0,some (arrU l'))]⟩) (b-a+1) ⟨a,b,lim,true,true,e,l,h,hn,hR,hab,hb,hlim,qe _,rfl⟩ ?_ ?_
   .clear h hn hR hll
    rintro r s hr ⟨a',b',lim',wb,wq,e',l',h,hn,hR,hab',hb',hlim',hlen,rfl⟩;refine Zxn (A:=A) h hn hab' hb' hl hlim' hR (fun e l a b lim q1 q2 q3 q4 q5 q6=>ih e l a b lim q1 q2 q3 q4 q5 (by omega)) ⟨?_,?_⟩
    .intro env l h1 h2
     simp only[blockQ_ret];exact .inr ⟨by simp,hret env l h1 h2⟩
    .rintro x a2 b2 lim2 wb2 wp2 e2 l2 (rfl|rfl) q1 q2 q3 q4 q5 q6 q7
     .simp only [blockQ_normal]
      exact .inl ⟨trivial,a2,b2,lim2,wb2,wp2,e2,l2,q1,q2,q3,q4,q5,q6,by omega,rfl⟩
     .simp only [blockQ_exit,beq_self_eq_true,cond_true]
      exact .inl ⟨trivial,a2,b2,lim2,wb2,wp2,e2,l2,q1,q2,q3,q4,q5,q6,by omega,rfl⟩
   .rintro s ⟨a',b',lim',wb,wq,e',l',h,hn,hR,hab',hb',hlim',hlen,rfl⟩
    omega
  exact⟨sz.2,sz.1⟩
theorem Znt {d:Array Nat}{R:Array Nat}(h1:Sort.PermIn 0 d.size d R)(h2:Sort.SortedIn ltN 0 d.size R):SortR 0 d.size d.toList R.toList:=by
 obtain⟨s1,s2,s3⟩:=h1;refine⟨?_,fun k hk=>?_,fun p q x y hp hpq hq hx hy=>?_⟩
 .have e1:R.extract 0 d.size=R:=by rw [<-s1];simp
  have e2:d.extract 0 d.size=d:=by simp
  rw[e1,e2]at s3;exact s3
 .have hk:d.size<=k:=by omega
  rw[qY (by simpa[s1]using hk),qY (by simpa using hk)]
 .have h3:=h2 p q (qad _) hpq hq
  rw[Zbf (show Is R R.toList from rfl) (by omega)]at hx hy;cases hx;cases hy;simpa[ltN]using h3
theorem Zz8 (d:List Nat)(hl:d.length<=1073741824):∃r,(∃e,SortR 0 d.length d e/\r=(retV,[arrU e]))/\(K A).call 228 [.sc (.arr 0 d.length)] [arrU d]=some r:=by
 refine fnE v228 ?_;have hlen:=Zvb (A:=A) d.length (by omega);have hbl:=Zge (n:=d.length) (k:=31) (by omega);have hw:IntKind.u64.wrap (d.length:Int)=d.length:=Zba _ (by omega);obtain⟨hc,hsz⟩:=pdqA (A:=A) d.length hl (d.length+1) d.toArray d 0 d.length (Sort.bitsLen d.length) rfl (by simp) (by omega) (by omega) (by omega) (by omega)
 obtain⟨k1,k2⟩:=Sort.pdq_sorts ltN swoN d.toArray 0 d.length (Sort.bitsLen d.length) true true (by omega) (by simp) (.inl rfl);generalize Sort.pdq ltN d.toArray 0 d.length (Sort.bitsLen d.length) true true=R at *
 have hs:SortR 0 d.length d R.toList:=by
  have:=Znt (d:=d.toArray) (R:=R) (by simpa using k1) (by simpa using k2);simpa using this
 have h0:((0:Nat):Int)=0:=rfl;rw[h0]at hc;have hRl:R.toList.length=d.length:=by rw[Za5 (show Is R R.toList from rfl)];exact hsz
 generalize Sort.bitsLen d.length=bl at *
 generalize hRt:R.toList=rl at *
 unfold v228;simp(maxSteps:=4000000) (disch:=first|exact zd|fail) [hlen,hw,hc,hRl,retV,V.ren,-getElem?_pos];exact⟨rl,hs,rfl⟩
end Go.Vs.Tryz
namespace Go.Vs
open Go
variable {C:Ctx}{E:Nat->Option V}{L:Nat->Option Obj}{oid:Nat}
def clrK (L:Nat->Option Obj)(s:Nat)(zero:List W):V->Option (V×Upd)
 |.sc (.vw k N lo n)=>arrK (L k) fun s' rows p=>bif rows.length==N&&s'==s&&zero.length==s&&zero.all ZaI&&Nat.ble (lo+n) N&&Nat.ble p lo&&Nat.blt 0 n then
  some (.sc .un,[(k,some (.arr s (rows.take lo++List.replicate n zero++rows.drop (lo+n)) p))]) else none
 |_=>none
@[simp] theorem x_clr {s:Nat} {zero:List W} {x:Opd}:Zah C E L oid (.clr s zero x)=clrK L s zero (x.val C E):=by
 simp only[Zah];generalize x.val C E=v;cases v with
 |sc w=>
  cases w with
  |vw k N lo n=>
   simp only[clrK,arrK];cases L k with
   |none=>rfl
   |some o=>cases o<;>rfl
  |c y=>cases y<;>rfl
  |_=>rfl
 |_=>rfl
@[simp] theorem clrK_vw {s:Nat} {zero:List W} {k N lo n:Nat}:clrK L s zero (.sc (.vw k N lo n))=arrK (L k) fun s' rows p=>bif rows.length==N&&s'==s&&zero.length==s&&zero.all ZaI&&Nat.ble (lo+n) N&&Nat.ble p lo&&Nat.blt 0 n then
 some (.sc .un,[(k,some (.arr s (rows.take lo++List.replicate n zero++rows.drop (lo+n)) p))]) else none:=rfl
@[simp] theorem slice_arr_from {s k n i:Nat} {kk:IntKind} (h:i<=n):Zbw L s (.sc (.arr k n)) (some (.sc (.c (.int kk (i:Int))))) none none=
 arrK (L k) fun s' rows _=>bif rows.length==n&&s'==s then some (.sc (.vw k n i (n-i)),[]) else none:=by
 cases hL:L k with
 |none=>simp[Zbw,hL,arrK]
 |some o=>
  cases o with
  |box c=>simp[Zbw,hL,arrK]
  |arr s' rows p=>simp[Zbw,hL,arrK,Zaz,Zcj,Zbg,qbh h]
@[simp] theorem slice_arr_to {s k n i:Nat} {kk:IntKind} (h:i<=n):Zbw L s (.sc (.arr k n)) none (some (.sc (.c (.int kk (i:Int))))) none=
 arrK (L k) fun s' rows _=>bif rows.length==n&&s'==s then some (.sc (.vw k n 0 i),[]) else none:=by
 cases hL:L k with
 |none=>simp[Zbw,hL,arrK]
 |some o=>
  cases o with
  |box c=>simp[Zbw,hL,arrK]
  |arr s' rows p=>simp[Zbw,hL,arrK,Zaz,Zcj,Zbg,qbh h]
end Go.Vs
namespace Go.Vs.Tryz
open Go Go.Vs
variable {A:Zab}
theorem Zfe {d:List Nat}:∀m,m<=d.length->(∀k x,0<k->k<m->d[k]?=some x->d[k-1]?≠some x)->Zcc d m=d.take m
 |0,_,_=>rfl
 |m+1,h,hn=>by
  obtain⟨x,hx⟩:=Zaa (l:=d) (i:=m) (by omega);rw[Zfm hx (fun hc=>hn m x hc.1 (by omega) hx hc.2),Zfe m (by omega) (fun k x h1 h2=>hn k x h1 (by omega)),Zam hx]
theorem Zs2 {α:Type}{l:List α}{o n:Nat}(h:o+n<=l.length):∃r,cut l o n=some r:=by
 unfold cut;simp[h]
def ZwZ (d:List Nat)(r:V×List Obj):Prop:=∃(m:Nat) (d':List Nat),d'.length=d.length/\m<=d.length/\d'.take m=Zcc d d.length/\
 ((m=d.length/\r=(.sc (.arr 0 d.length),[arrU d']))\/r=(.sc (.vw 0 d.length 0 m),[arrU d']))
theorem Zxo (d:List Nat)(k m:Nat):(wr (ZbP d)).take k++List.replicate m [W.c (.int .u64 0)]++(wr (ZbP d)).drop (k+m)=wr (ZbP (d.take k++List.replicate m 0++d.drop (k+m))):=by
 simp[wr,ZbP,Zi4,qau,List.map_drop]
theorem Zrt (d:List Nat)(hl:d.length<=1073741824):∃r,ZwZ d r/\(K A).call 229 [.sc (.arr 0 d.length)] [arrU d]=some r:=by
 refine fnE v229 ?_;generalize hn:d.length=n at *
 generalize hQ:Zeo v229.keep [arrU d].length v229.results (ZwZ d)=Q;have hret:∀r,ZwZ d r->∀(s:St),((ZcF v229.keep 1 v229.results s).map (Zcg v229.keep))=some r->Q .ret s:=by
  intro r h1 s h2;rw[<-hQ];show Zeo v229.keep 1 v229.results (ZwZ d) .ret s;rw[endsQ_ret,h2,isR_some];exact h1
 clear hQ;unfold v229;by_cases h2:n<2
 .have h2I:(n:Int)<2:=by omega
  simp(maxSteps:=4000000) (disch:=first|exact zd|fail) [hn,h2I,h2,-getElem?_pos];refine hret (.sc (.arr 0 n),[arrU d]) ⟨n,d,by omega,by omega,?_,.inl ⟨hn.symm,by rw[hn]⟩⟩ _ ?_
  .rw[hn,Zfe n (by omega) (fun k x h1 h2=>by omega)]
  .simp[v229,hn]
 .have h2I:¬(n:Int)<2:=by omega
  simp(maxSteps:=4000000) (disch:=first|exact zd|fail) [hn,h2I,h2,-getElem?_pos];refine Zad (fun r s=>(∀k x,0<k->k<1+r->d[k]?=some x->d[k-1]?≠some x)/\s=⟨[(0,.sc (.arr 0 n)),(3,intV ((1+r:Nat):Int))],[(0,some (arrU d))]⟩) (n-1)
   ⟨fun k x h1 h2=>by omega,by simp⟩ ?_ ?_
  .rintro r s hr ⟨hdis,rfl⟩
   generalize hk:1+r=k at *
   obtain⟨x,hx⟩:=Zaa (l:=d) (i:=k) (by omega);obtain⟨y,hy⟩:=Zaa (l:=d) (i:=k-1) (by omega);have hkl:k<d.length:=(by omega);have hkl1:k-1<d.length:=(by omega);have hkI:(k:Int)-1=((k-1:Nat):Int):=(by omega);have hkn:(k:Int)<n:=(by omega);unfold ZrR;by_cases hxy:x=y
   .subst hxy
    have hc0:Zcc d (k+1)=d.take k:=by
     rw[Zfl hx (by omega) hy,Zfe k (by omega) hdis]
    simp(maxSteps:=4000000) (disch:=first|exact zd|fail) [hn,hkn,hkI,hx,hy,-getElem?_pos];refine Zad (fun t s=>∃(q:Nat) (e:List Nat),e.length=n/\e.take q=Zcc d (k+1+t)/\q<=k+t/\k<=q/\(∀p,k+t<=p->e[p]?=d[p]?)/\
     s=⟨[(0,.sc (.arr 0 n)),(3,intV q),(4,.sc (.vw 0 n k (n-k))),(5,intV ((1+t:Nat):Int))],[(0,some (arrU e))]⟩) (n-k-1)
     ⟨k,d,hn,hc0.symm,qe _,qe _,fun _ _=>rfl,by simp⟩ ?_ ?_
    .rintro t s ht ⟨q,e,he,htk,hq,hkq,hsame,rfl⟩
     obtain⟨u,hu⟩:=Zaa (l:=d) (i:=k+(1+t)) (by omega);obtain⟨v,hv⟩:=Zaa (l:=d) (i:=k+t) (by omega);have hue:e[k+(1+t)]?=some u:=(by rw[hsame _ (by omega)];exact hu);have hve:e[k+t]?=some v:=(by rw[hsame _ (qe _)];exact hv);have ht1:((1+t:Nat):Int)-1=((t:Nat):Int):=(by omega);have htn:((1+t:Nat):Int)<((n-k:Nat):Int):=(by omega);have htn2:(1:Int)+t<((n-k:Nat):Int):=(by omega)
     have ht12:(1:Int)+t-1=(t:Int):=(by omega);have ht13:(1:Int)+t=((1+t:Nat):Int):=(by omega);have ht2:1+t<n-k:=(by omega);have hql:q<e.length:=(by omega);generalize hpp:1+t=t1 at *
     generalize hp1:k+t1=p1 at *
     generalize hp0:k+t=p0 at *
     have hpl1:p1<e.length:=(by omega);have hpl0:p0<e.length:=(by omega);obtain⟨cs,hcut⟩:=Zs2 (l:=wr (ZbP e)) (o:=k) (n:=n-k) (by simp;omega);obtain⟨vq,hvq⟩:=Zaa (l:=e) (i:=q) hql;unfold ZoJ;by_cases huv:u=v
     .subst huv
      have hc1:Zcc d (k+1+(t+1))=Zcc d (k+1+t):=by
       rw[show k+1+(t+1)=p1+1 by omega,Zfl hu (by omega) (by rw[show p1-1=p0 by omega];exact hv),show k+1+t=p1 by omega]
      have fin:∃(q':Nat) (e':List Nat),e'.length=n/\e'.take q'=Zcc d (k+1+(t+1))/\q'<=k+(t+1)/\k<=q'/\(∀p,k+(t+1)<=p->e'[p]?=d[p]?)/\
       (⟨[(0,.sc (.arr 0 n)),(3,intV q),(4,.sc (.vw 0 n k (n-k))),(5,intV ((t1:Int)+1))],[(0,some (arrU e))]⟩:St)=⟨[(0,.sc (.arr 0 n)),(3,intV q'),(4,.sc (.vw 0 n k (n-k))),(5,intV ((1+(t+1):Nat):Int))],[(0,some (arrU e'))]⟩:=
       ⟨q,e,he,by rw[hc1];exact htk,by omega,hkq,fun p hp=>hsame p (by omega),by rw[show((1+(t+1):Nat):Int)=(t1:Int)+1 by omega]⟩
      simp(maxSteps:=4000000) (disch:=first|exact zd|fail) [he,hcut,hvq,htn,htn2,ht1,ht12,ht13,ht2,hue,hve,hp1,hp0,-getElem?_pos];simpa using fin
     .have hc1:Zcc d (k+1+(t+1))=Zcc d (k+1+t)++[u]:=by
       rw[show k+1+(t+1)=p1+1 by omega,Zfm hu (fun hc=>huv (qaL (hc.2.symm.trans (by rw[show p1-1=p0 by omega];exact hv)))),show k+1+t=p1 by omega]
      have huvI:¬(u:Int)=v:=(by omega);have hset:(e.set q u).take (q+1)=e.take q++[u]:=by
       have:(e.set q u)[q]?=some u:=(by simp[hql]);rw[Zam this,List.take_set_of_le (qe _)]
      have fin:∃(q':Nat) (e':List Nat),e'.length=n/\e'.take q'=Zcc d (k+1+(t+1))/\q'<=k+(t+1)/\k<=q'/\(∀p,k+(t+1)<=p->e'[p]?=d[p]?)/\
       (⟨[(0,.sc (.arr 0 n)),(3,intV ((q:Int)+1)),(4,.sc (.vw 0 n k (n-k))),(5,intV ((t1:Int)+1))],[(0,some (arrU (e.set q u)))]⟩:St)=⟨[(0,.sc (.arr 0 n)),(3,intV q'),(4,.sc (.vw 0 n k (n-k))),(5,intV ((1+(t+1):Nat):Int))],[(0,some (arrU e'))]⟩:=
       ⟨q+1,e.set q u,by simp[he],by rw[hset,hc1,htk],by omega,by omega,fun p hp=>by rw[qaC (by omega)];exact hsame p (by omega),by rw[show((1+(t+1):Nat):Int)=(t1:Int)+1 by omega];simp⟩
      simp(maxSteps:=4000000) (disch:=first|exact zd|fail) [he,hcut,hvq,htn,htn2,ht1,ht12,ht13,ht2,hue,hve,hp1,hp0,huv,huvI,-getElem?_pos];simpa using fin
    .rintro s ⟨q,e,he,htk,hq,hkq,hsame,rfl⟩
     have ht1:¬((1+(n-k-1):Nat):Int)<((n-k:Nat):Int):=(by omega);rw[show 1+(n-k-1)=n-k by omega];have hqn:q<n:=(by omega);have hqI:(n:Int)-q=((n-q:Nat):Int):=(by omega);have hwc:=Zxo e q (n-q);rw[show q+(n-q)=n by omega,qab]at hwc;have hlen2:(e.take q++List.replicate (n-q) 0++e.drop n).length=n:=(by simp;omega);have htk2:(e.take q++List.replicate (n-q) 0++e.drop n).take q=Zcc d d.length:=by
      rw[qab,qbc (by simp;omega),htk,show k+1+(n-k-1)=n by omega,hn]
     generalize e.take q++List.replicate (n-q) 0++e.drop n=e2 at *
     have fin:=hret (.sc (.vw 0 n 0 q),[arrU e2]) ⟨q,e2,by omega,by omega,htk2,.inr (by rw[hn])⟩;have hq0:q+(n-q)=n:=(by omega);have h0q:0<n-q:=(by omega);obtain⟨cs,hcut⟩:=Zs2 (l:=wr (ZbP e)) (o:=k) (n:=n-k) (by simp;omega);unfold ZoJ;simp(maxSteps:=4000000) (disch:=first|exact zd|fail) [he,hcut,hqn,hq0,h0q,hwc,hlen2,-getElem?_pos];refine fin _ ?_;simp[v229,hlen2]
   .have hxyI:¬(x:Int)=y:=by omega
    simp(maxSteps:=4000000) (disch:=first|exact zd|fail) [hn,hkn,hkI,hx,hy,hxy,hxyI,-getElem?_pos];refine⟨?_,by omega⟩;intro k' x' h1 h2 h3;rcases qbl k' k with h4|h4
    .exact hdis k' x' h1 h4 h3
    .obtain rfl:k'=k:=by omega
     rw[hx]at h3;cases h3;rw[hy];intro h5;cases h5;exact hxy rfl
  .rintro s ⟨hdis,rfl⟩
   rw[show 1+(n-1)=n by omega]at hdis |-;unfold ZrR;simp(maxSteps:=4000000) (disch:=first|exact zd|fail) [hn,-getElem?_pos];refine hret (.sc (.arr 0 n),[arrU d]) ⟨n,d,by omega,by omega,?_,.inl ⟨hn.symm,by rw[hn]⟩⟩ _ ?_
   .rw[hn,Zfe n (by omega) hdis]
   .simp[v229,hn]
end Go.Vs.Tryz
