/- The library's sort, walked (8): insertion with few steps. -/
import Derived.Test.YtccmnfpbcmccpaaGreatDoorR8p
set_option linter.unusedSimpArgs false
set_option linter.unusedVariables false
set_option linter.deprecated false
set_option maxHeartbeats 16000000
set_option maxRecDepth 100000
namespace Go.Vs.Tryz
open Go Go.Vs
variable {A:Af}
theorem RZ {d:Array Nat}{b i:Nat}(h:i<b)(hp:¬d[i]! < d[i-1]!):Sort.scanSorted ltN d b i=Sort.scanSorted ltN d b (i+1):=by
 rw[Sort.scanSorted];simp[h,hp,ltN]
theorem JP {d:Array Nat}{b i:Nat}(h:¬(i<b/\¬d[i]! < d[i-1]!)):Sort.scanSorted ltN d b i=i:=by
 rw[Sort.scanSorted,if_neg (by simpa[ltN]using h)]
theorem TC (d:Array Nat)(b:Nat):∀(k i:Nat),b-i<=k->i<=b->i<=Sort.scanSorted ltN d b i/\Sort.scanSorted ltN d b i<=b
 |0,i,h,h2=>by rw[JP (by omega)];exact⟨qg _,h2⟩
 |k+1,i,h,h2=>by
  by_cases hc:i<b/\¬d[i]! < d[i-1]!
  .rw [RZ hc.1 hc.2]
   have:=TC d b k (i+1) (by omega) (by omega);omega
  .rw [JP hc]
   exact⟨qg _,h2⟩
abbrev S5 (n a b i st:Nat)(xs:Env):Env:=(0,.sc (.arr 0 n))::(1,intV a)::(2,intV b)::(7,intV i)::(8,intV st)::xs
theorem YW {e:Array Nat}{l:List Nat}(h:Is e l){n:Nat}(hn:e.size=n)(a b i st:Nat)(hi:1<=i)(hib:i<=b)(hb:b<=n)(hl:n<=687194767360){xs:Env}(hx:xs=[]\/xs=[(14,Ac true)]):
 wp (K A) (.loop EN) (fun x s'=>x=.exit 2/\s'=⟨S5 n a b (Sort.scanSorted ltN e b i) st [(32,Ac false)],[(0,some (arrU l))]⟩) ⟨S5 n a b i st xs,[(0,some (arrU l))]⟩:=by
 refine Ak (fun r s=>∃(i':Nat) (xs:Env),(xs=[]\/xs=[(14,Ac true)])/\Sort.scanSorted ltN e b i'=Sort.scanSorted ltN e b i/\i'=i+r/\s=⟨S5 n a b i' st xs,[(0,some (arrU l))]⟩) (b-i) ⟨i,xs,hx,rfl,rfl,rfl⟩ ?_ ?_
 .clear hx
  rintro r s hr ⟨i',xs,hx,hs,hi',rfl⟩;have hij:i'<b:=by omega
  have hy:=AA h (i:=i') (by omega);have hz:=AA h (i:=i'-1) (by omega);have hll:=Av h;have hstop:=JP (d:=e) (b:=b) (i:=i');have hgo:=RZ (d:=e) (b:=b) (i:=i') hij;generalize e[i']! = y at *
  generalize e[i'-1]! = z at *
  have hless:=Cy (A:=A) y z;have hil:i'<l.length:=by omega
  have hil1:i'-1<l.length:=by omega
  have hi1:(i':Int)-1=((i'-1:Nat):Int):=by omega
  unfold EN;by_cases hlt:y<z
  .rw [hstop (by simp [hlt])] at hs
   rcases hx with rfl|rfl<;>simp(maxSteps:=9^7) (disch:=try exact zd) [hij,hy,hz,hi1,hll,hn,hless,hlt,<-hs,-getElem?_pos]
  .rw [hgo hlt] at hs
   have fin:∃(i'':Nat) (xs:Env),(xs=[]\/xs=[(14,Ac true)])/\Sort.scanSorted ltN e b i''=Sort.scanSorted ltN e b i/\i''=i+(r+1)/\(⟨S5 n a b (i'+1) st [],[(0,some (arrU l))]⟩:St)=⟨S5 n a b i'' st xs,[(0,some (arrU l))]⟩:=
    ⟨i'+1,[],.inl rfl,hs,by omega,rfl⟩
   rcases hx with rfl|rfl<;>(simp(maxSteps:=9^7) (disch:=try exact zd) [hij,hy,hz,hi1,hll,hn,hless,hlt,-getElem?_pos];simpa using fin)
 .clear hx
  rintro s ⟨i',xs,hx,hs,hi',rfl⟩;have hij:¬i'<b:=by omega
  rw[JP (by omega)]at hs;unfold EN;rcases hx with rfl|rfl<;>simp(maxSteps:=9^7) (disch:=try exact zd) [hij,<-hs,-getElem?_pos]
theorem RG {d:Array Nat}{j:Nat}(hj:1<=j):Sort.shiftDown ltN j d=if d[j]! < d[j-1]! then Sort.shiftDown ltN (j-1) (Sort.swp d j (j-1)) else d:=by
 obtain⟨k,rfl⟩:∃k,j=k+1:=⟨j-1,by omega⟩;rw[Sort.shiftDown];simp only[qaU,ltN];by_cases h:d[k+1]! < d[k]!
 .simp[h]
 .simp[h]
theorem Sj {d:Array Nat}{b j:Nat}(hj:j<b):Sort.shiftUp ltN b j d=if d[j]! < d[j-1]! then Sort.shiftUp ltN b (j+1) (Sort.swp d j (j-1)) else d:=by
 rw[Sort.shiftUp,if_pos hj];simp only[ltN];by_cases h:d[j]! < d[j-1]!
 .simp[h]
 .simp[h]
theorem MN {d:Array Nat}{b j:Nat}(hj:¬j<b):Sort.shiftUp ltN b j d=d:=by
 rw[Sort.shiftUp,if_neg hj]
theorem YU {e:Array Nat}{l:List Nat}(h:Is e l){n:Nat}(hn:e.size=n)(a b i st j:Nat)(hj:j<n)(hl:n<=687194767360):
 wp (K A) (.loop Fx) (fun x s'=>x=.exit 4/\∃(e':Array Nat) (l':List Nat) (j':Nat),Is e' l'/\e'.size=n/\e'=Sort.shiftDown ltN j e/\
  (s'=⟨S5 n a b i st [(9,intV j'),(65,Ac false)],[(0,some (arrU l'))]⟩\/s'=⟨S5 n a b i st [(9,intV j'),(78,Ac true)],[(0,some (arrU l'))]⟩)) ⟨S5 n a b i st [(9,intV j)],[(0,some (arrU l))]⟩:=by
 generalize hR:Sort.shiftDown ltN j e=R;refine Ak (fun r s=>∃(j':Nat) (e':Array Nat) (l':List Nat),Is e' l'/\e'.size=n/\Sort.shiftDown ltN j' e'=R/\j'+r=j/\s=⟨S5 n a b i st [(9,intV j')],[(0,some (arrU l'))]⟩) j ⟨j,e,l,h,hn,hR,rfl,rfl⟩ ?_ ?_
 .clear h
  rintro r s hr ⟨j',e',l',h,hn',hs,hj',rfl⟩;have hj1:(1:Int)<=j':=by omega
  have hy:=AA h (i:=j') (by omega);have hz:=AA h (i:=j'-1) (by omega);have hsw:=Cm h j' (j'-1);have hll:=Av h;rw[RG (by omega)]at hs;generalize e'[j']! = y at *
  generalize e'[j'-1]! = z at *
  have hless:=Cy (A:=A) y z;have hjl:j'<l'.length:=by omega
  have hjl1:j'-1<l'.length:=by omega
  have hjI:(j':Int)-1=((j'-1:Nat):Int):=by omega
  obtain⟨v2,hv2⟩:=Ae (l:=l'.set j' z) (i:=j'-1) (by simp;omega);unfold Fx;by_cases hlt:y<z
  .rw [if_pos hlt] at hs
   have fin:∃(j'':Nat) (e'':Array Nat) (l'':List Nat),Is e'' l''/\e''.size=n/\Sort.shiftDown ltN j'' e''=R/\j''+(r+1)=j/\(⟨S5 n a b i st [(9,intV ((j'-1:Nat):Int))],[(0,some (arrU ((l'.set j' z).set (j'-1) y)))]⟩:St)=⟨S5 n a b i st [(9,intV j'')],[(0,some (arrU l''))]⟩:=
    ⟨j'-1,_,_,hsw,by simp[hn'],hs,by omega,rfl⟩
   simp(maxSteps:=9^7) (disch:=try exact zd) [hj1,hy,hz,hv2,hjI,hll,hn',hless,hlt,-getElem?_pos];simpa using fin
  .rw [if_neg hlt] at hs
   have fin:∃(e'':Array Nat) (l'':List Nat) (j'':Nat),Is e'' l''/\e''.size=n/\e''=R/\((⟨S5 n a b i st [(9,intV j'),(78,Ac true)],[(0,some (arrU l'))]⟩:St)=⟨S5 n a b i st [(9,intV j''),(65,Ac false)],[(0,some (arrU l''))]⟩\/
    (⟨S5 n a b i st [(9,intV j'),(78,Ac true)],[(0,some (arrU l'))]⟩:St)=⟨S5 n a b i st [(9,intV j''),(78,Ac true)],[(0,some (arrU l''))]⟩):=
    ⟨e',l',j',h,hn',hs,.inr rfl⟩
   simp(maxSteps:=9^7) (disch:=try exact zd) [hj1,hy,hz,hjI,hll,hn',hless,hlt,-getElem?_pos];simpa using fin
 .clear h
  rintro s ⟨j',e',l',h,hn',hs,hj',rfl⟩;obtain rfl:j'=0:=by omega
  rw[Sort.shiftDown]at hs;have fin:∃(e'':Array Nat) (l'':List Nat) (j'':Nat),Is e'' l''/\e''.size=n/\e''=R/\((⟨S5 n a b i st [(9,intV ((0:Nat):Int)),(65,Ac false)],[(0,some (arrU l'))]⟩:St)=⟨S5 n a b i st [(9,intV j''),(65,Ac false)],[(0,some (arrU l''))]⟩\/
   (⟨S5 n a b i st [(9,intV ((0:Nat):Int)),(65,Ac false)],[(0,some (arrU l'))]⟩:St)=⟨S5 n a b i st [(9,intV j''),(78,Ac true)],[(0,some (arrU l''))]⟩):=
   ⟨e',l',0,h,hn',hs,.inl rfl⟩
  unfold Fx;simp(maxSteps:=9^7) (disch:=try exact zd) [-getElem?_pos];simpa using fin
theorem ZcU {e:Array Nat}{l:List Nat}(h:Is e l){n:Nat}(hn:e.size=n)(a b i st j:Nat)(hj:1<=j)(hjb:j<=b)(hb:b<=n)(hl:n<=687194767360):
 wp (K A) (.loop Gb) (fun x s'=>x=.exit 6/\∃(e':Array Nat) (l':List Nat) (j':Nat),Is e' l'/\e'.size=n/\e'=Sort.shiftUp ltN b j e/\
  (s'=⟨S5 n a b i st [(10,intV j'),(103,Ac false)],[(0,some (arrU l'))]⟩\/s'=⟨S5 n a b i st [(10,intV j'),(116,Ac true)],[(0,some (arrU l'))]⟩)) ⟨S5 n a b i st [(10,intV j)],[(0,some (arrU l))]⟩:=by
 generalize hR:Sort.shiftUp ltN b j e=R;refine Ak (fun r s=>∃(j':Nat) (e':Array Nat) (l':List Nat),Is e' l'/\e'.size=n/\Sort.shiftUp ltN b j' e'=R/\j'=j+r/\s=⟨S5 n a b i st [(10,intV j')],[(0,some (arrU l'))]⟩) (b-j) ⟨j,e,l,h,hn,hR,rfl,rfl⟩ ?_ ?_
 .clear h
  rintro r s hr ⟨j',e',l',h,hn',hs,hj',rfl⟩;have hj1:j'<b:=by omega
  have hy:=AA h (i:=j') (by omega);have hz:=AA h (i:=j'-1) (by omega);have hsw:=Cm h j' (j'-1);have hll:=Av h;rw[Sj hj1]at hs;generalize e'[j']! = y at *
  generalize e'[j'-1]! = z at *
  have hless:=Cy (A:=A) y z;have hjl:j'<l'.length:=by omega
  have hjl1:j'-1<l'.length:=by omega
  have hjI:(j':Int)-1=((j'-1:Nat):Int):=by omega
  obtain⟨v2,hv2⟩:=Ae (l:=l'.set j' z) (i:=j'-1) (by simp;omega);unfold Gb;by_cases hlt:y<z
  .rw [if_pos hlt] at hs
   have fin:∃(j'':Nat) (e'':Array Nat) (l'':List Nat),Is e'' l''/\e''.size=n/\Sort.shiftUp ltN b j'' e''=R/\j''=j+(r+1)/\(⟨S5 n a b i st [(10,intV ((j':Int)+1))],[(0,some (arrU ((l'.set j' z).set (j'-1) y)))]⟩:St)=⟨S5 n a b i st [(10,intV j'')],[(0,some (arrU l''))]⟩:=
    ⟨j'+1,_,_,hsw,by simp[hn'],hs,by omega,rfl⟩
   simp(maxSteps:=9^7) (disch:=try exact zd) [hj1,hy,hz,hv2,hjI,hll,hn',hless,hlt,-getElem?_pos];simpa using fin
  .rw [if_neg hlt] at hs
   have fin:∃(e'':Array Nat) (l'':List Nat) (j'':Nat),Is e'' l''/\e''.size=n/\e''=R/\((⟨S5 n a b i st [(10,intV j'),(116,Ac true)],[(0,some (arrU l'))]⟩:St)=⟨S5 n a b i st [(10,intV j''),(103,Ac false)],[(0,some (arrU l''))]⟩\/
    (⟨S5 n a b i st [(10,intV j'),(116,Ac true)],[(0,some (arrU l'))]⟩:St)=⟨S5 n a b i st [(10,intV j''),(116,Ac true)],[(0,some (arrU l''))]⟩):=
    ⟨e',l',j',h,hn',hs,.inr rfl⟩
   simp(maxSteps:=9^7) (disch:=try exact zd) [hj1,hy,hz,hjI,hll,hn',hless,hlt,-getElem?_pos];simpa using fin
 .clear h
  rintro s ⟨j',e',l',h,hn',hs,hj',rfl⟩;have hj1:¬j'<b:=by omega
  rw[MN hj1]at hs;have fin:∃(e'':Array Nat) (l'':List Nat) (j'':Nat),Is e'' l''/\e''.size=n/\e''=R/\((⟨S5 n a b i st [(10,intV j'),(103,Ac false)],[(0,some (arrU l'))]⟩:St)=⟨S5 n a b i st [(10,intV j''),(103,Ac false)],[(0,some (arrU l''))]⟩\/
   (⟨S5 n a b i st [(10,intV j'),(103,Ac false)],[(0,some (arrU l'))]⟩:St)=⟨S5 n a b i st [(10,intV j''),(116,Ac true)],[(0,some (arrU l''))]⟩):=
   ⟨e',l',j',h,hn',hs,.inl rfl⟩
  unfold Gb;simp(maxSteps:=9^7) (disch:=try exact zd) [hj1,-getElem?_pos];simpa using fin
def GE:VCode:=(fun a b c=>G (fdC 95 (lp 3 (lc Go.Proofs.Tryz.f275 c275 [a,b,c])))) EN Fx Gb
theorem Zfx {n a b i2 r:Nat}(h1:1<=i2)(hib:i2<b)(hb:b<=n)(hl:n<=687194767360){e2:Array Nat}{l2:List Nat}{xs:Env}(k1:Is e2 l2)(k2:e2.size=n)
 (k4:xs=[(61,Ac false)]\/(∃j':Nat,xs=[(9,intV j'),(65,Ac false)])\/∃j':Nat,xs=[(9,intV j'),(78,Ac true)])
 (Q:Ex->St->Prop) (hQ:∀(e:Array Nat) (l:List Nat) (ys:Env),Is e l->e.size=n->e=(if b-i2>=2 then Sort.shiftUp ltN b (i2+1) e2 else e2)->
   (ys=[(98,Ac false)]\/(∃j':Nat,ys=[(10,intV j'),(103,Ac false)])\/∃j':Nat,ys=[(10,intV j'),(116,Ac true)])->Q .normal ⟨S5 n a b i2 r ys,[(0,some (arrU l))]⟩):
 wp (K A) GE Q ⟨S5 n a b i2 r xs,[(0,some (arrU l2))]⟩:=by
 have hi2:(i2:Int)+1=((i2+1:Nat):Int):=by omega
 by_cases hu:b-i2>=2
 .have huI:(2:Int)<=(b:Int)-i2:=by omega
  rw[if_pos hu]at hQ;have hw2:=ZcU (A:=A) k1 k2 a b i2 r (i2+1) (by omega) (by omega) hb hl;generalize i2+1=i3 at *
  unfold GE G;rcases k4 with rfl|⟨j0,rfl⟩|⟨j0,rfl⟩ <;>
  (simp (maxSteps:=9^7) (disch:=try exact zd) [huI,hi2,-getElem?_pos]
   refine wp_mono hw2 ?_;rintro _ _ ⟨rfl,e',l',j',q1,q2,q3,(rfl|rfl)⟩
   .simp only [blockQ_exit,beq_self_eq_true,cond_true]
    exact hQ e' l' _ q1 q2 q3 (.inr (.inl ⟨j',rfl⟩))
   .simp only [blockQ_exit,beq_self_eq_true,cond_true]
    exact hQ e' l' _ q1 q2 q3 (.inr (.inr ⟨j',rfl⟩)))
 .have huI:¬(2:Int)<=(b:Int)-i2:=by omega
  rw[if_neg hu]at hQ;have fin:=hQ e2 l2 _ k1 k2 rfl (.inl rfl);unfold GE G;rcases k4 with rfl|⟨j0,rfl⟩|⟨j0,rfl⟩ <;>
  (simp (maxSteps:=9^7) (disch:=try exact zd) [huI,-getElem?_pos]
   exact fin)
theorem YD {e:Array Nat}{l:List Nat}(h:Is e l){n:Nat}(hn:e.size=n)(a b:Nat)(hab:a<b)(hb:b<=n)(hl:n<=687194767360):
 (K A).call 275 [.sc (.arr 0 n),intV a,intV b] [arrU l]=some (Ac (Sort.partialInsertionSort ltN e a b).2,[arrU (Sort.partialInsertionSort ltN e a b).1.toList]):=by
 generalize hR:Sort.partialInsertionSort ltN e a b=R;unfold Sort.partialInsertionSort at hR;have hll:=Av h;refine fnO v275 ?_;unfold v275;simp(maxSteps:=9^7) (disch:=try exact zd) [-getElem?_pos];refine Ak (fun r s=>∃(i:Nat) (e:Array Nat) (l:List Nat),Is e l/\e.size=n/\Sort.partialIns ltN a b (5-r) i e=R/\a+1<=i/\i<=b/\s=⟨S5 n a b i r [],[(0,some (arrU l))]⟩) 5
  ⟨a+1,e,l,h,hn,hR,qg _,hab,by simp⟩ ?_ ?_
 .clear h hn hR hll
  rintro r s hr ⟨i,e,l,h,hn,hR,hai,hib,rfl⟩;obtain⟨k,hk⟩:∃k,5-r=k+1:=⟨4-r,by omega⟩;rw[hk]at hR;dsimp only[Sort.partialIns]at hR;have hr5:(r:Int)<5:=by omega
  obtain⟨g1,g2⟩:=TC e b _ i (qg _) hib;have hw:=YW (A:=A) (xs:=[(14,Ac true)]) h hn a b i r (by omega) hib hb hl (.inr rfl);generalize Sort.scanSorted ltN e b i=i2 at *
  unfold N8;dsimp only[G];have hu:=(by unfold GE;dsimp only[G]:GE=_);rw[<-hu];simp(maxSteps:=9^7) (disch:=try exact zd) [hr5,-getElem?_pos];refine wp_mono hw ?_;rintro _ _ ⟨rfl,rfl⟩;have hll:=Av h;by_cases hib2:i2=b
  .rw [if_pos hib2] at hR
   subst hR hib2;simp(maxSteps:=9^7) (disch:=try exact zd) [hll,hn,isEq h,-getElem?_pos]
  .have hibI:¬(i2:Int)=b:=by omega
   rw[if_neg hib2]at hR;by_cases h50:b-a<50
   .have h50I:(b:Int)-a<50:=by omega
    rw[if_pos h50]at hR;subst hR;simp(maxSteps:=9^7) (disch:=try exact zd) [hib2,hibI,h50I,hll,hn,isEq h,-getElem?_pos]
   .have h50I:¬(b:Int)-a<50:=by omega
    rw[if_neg h50]at hR;have hx:=AA h (i:=i2) (by omega);have hy:=AA h (i:=i2-1) (by omega);have hsw:=Cm h i2 (i2-1);have hsz:(Sort.swp e i2 (i2-1)).size=n:=(by simp[hn]);generalize Sort.swp e i2 (i2-1)=e1 at *
    generalize e[i2]! = u at *
    generalize e[i2-1]! = v at *
    have hil:i2<l.length:=(by omega);have hil1:i2-1<l.length:=(by omega);have hiI:(i2:Int)-1=((i2-1:Nat):Int):=(by omega);obtain⟨v2,hv2⟩:=Ae (l:=l.set i2 v) (i:=i2-1) (by simp;omega);generalize hl1:(l.set i2 v).set (i2-1) u=l1 at *
    have cont:∀(e2:Array Nat) (l2:List Nat) (xs:Env),Is e2 l2->e2.size=n->e2=(if i2-a>=2 then Sort.shiftDown ltN (i2-1) e1 else e1)->
     (xs=[(61,Ac false)]\/(∃j':Nat,xs=[(9,intV j'),(65,Ac false)])\/∃j':Nat,xs=[(9,intV j'),(78,Ac true)])->
     wp (K A) GE (Bx 1 (BN (K A) (.region [] [o 15 (.mv (tv 8)),o 16 (.bin .add 0 (tv 15) (ki 1)),o 8 (.mv (tv 16))] [] [0,1,2,7,8]) (fun e s'=>
      (e=.normal/\∃(i:Nat) (e:Array Nat) (l:List Nat),Is e l/\e.size=n/\Sort.partialIns ltN a b (4-r) i e=R/\a+1<=i/\i<=b/\s'=⟨S5 n a b i (r+1) [],[(0,some (arrU l))]⟩)\/
      (¬e=.normal/\Bx 0 (BN (K A) (.seq (.region [] [o 6 (.mv kF)] [] [6]) .ret) (C8 false 1 [.tmp 6] (Ac R.2,[arrU R.1.toList]))) e s'))))
      ⟨S5 n a b i2 r xs,[(0,some (arrU l2))]⟩:=by
     intro e2 l2 xs k1 k2 k3 k4;refine Zfx (A:=A) (by omega) (by omega) hb hl k1 k2 k4 _ ?_;intro e' l' ys q1 q2 q3 q4;rw[<-k3,<-q3]at hR;have fin:∃(i:Nat) (e:Array Nat) (l:List Nat),Is e l/\e.size=n/\Sort.partialIns ltN a b (4-r) i e=R/\a+1<=i/\i<=b/\(⟨S5 n a b i2 (r+1) [],[(0,some (arrU l'))]⟩:St)=⟨S5 n a b i (r+1) [],[(0,some (arrU l))]⟩:=
      ⟨i2,e',l',q1,q2,by rw[show 4-r=k by omega];exact hR,by omega,by omega,rfl⟩
     rcases q4 with rfl|⟨j0,rfl⟩|⟨j0,rfl⟩ <;>
     (simp (maxSteps:=9^7) (disch:=try exact zd) [-getElem?_pos]
      simpa using fin)
    by_cases hd:i2-a>=2
    .have hdI:(2:Int)<=(i2:Int)-a:=by omega
     rw[if_pos hd]at cont;have hw1:=YU (A:=A) hsw hsz a b i2 r (i2-1) (by omega) hl;generalize i2-1=i1 at *
     simp(maxSteps:=9^7) (disch:=try exact zd) [hib2,hibI,h50I,hx,hy,hv2,hiI,hdI,hll,hn,hl1,-getElem?_pos];refine wp_mono hw1 ?_;rintro _ _ ⟨rfl,e',l',j',q1,q2,q3,(rfl|rfl)⟩
     .simp only [blockQ_exit,beq_self_eq_true,cond_true,thenQ_normal]
      exact cont e' l' _ q1 q2 q3 (.inr (.inl ⟨j',rfl⟩))
     .simp only [blockQ_exit,beq_self_eq_true,cond_true,thenQ_normal]
      exact cont e' l' _ q1 q2 q3 (.inr (.inr ⟨j',rfl⟩))
    .have hdI:¬(2:Int)<=(i2:Int)-a:=by omega
     rw[if_neg hd]at cont;simp(maxSteps:=9^7) (disch:=try exact zd) [hib2,hibI,h50I,hx,hy,hv2,hiI,hdI,hll,hn,hl1,-getElem?_pos];exact cont e1 l1 _ hsw hsz rfl (.inl rfl)
 .clear h hn hR hll
  rintro s ⟨i,e,l,h,hn,hR,hai,hib,rfl⟩;rw[qaQ,Sort.partialIns]at hR;subst hR;have hll:=Av h;unfold N8;simp(maxSteps:=9^7) (disch:=try exact zd) [hll,hn,isEq h,-getElem?_pos]
variable {A:Af}
theorem Zaw {d:Array Nat}{a b:Nat}(h:a<=b)(hb:b<=d.size):(Sort.insertionSort ltN d a b).size=d.size:=(Sort.insertionSort_holds swoN d a b h hb).1.1
theorem WW {d:Array Nat}{a b:Nat}(h:a<=b)(hb:b<=d.size):(Sort.heapSort ltN d a b).size=d.size:=(Sort.heapSort_holds swoN d a b h hb).1.1
theorem Pc {d:Array Nat}{a b:Nat}(h:a<=b)(hb:b<=d.size):(Sort.reverseRange d a b).size=d.size:=(Sort.reverseRange_holds d a b h hb).1
theorem PG (d:Array Nat)(a b:Nat):(Sort.breakPatterns d a b).size=d.size:=by
 dsimp only[Sort.breakPatterns];split
 .rw[N3,N3,N3]
 .rfl
theorem Mi:∀(j:Nat)(d:Array Nat),(Sort.shiftDown ltN j d).size=d.size
 |0,d=>by rw[Sort.shiftDown]
 |j+1,d=>by
  rw[RG (by omega)];split
  .rw[qaU,Mi j,swp_size]
  .rfl
theorem Qk (b:Nat):∀(k j:Nat)(d:Array Nat),b-j<=k->(Sort.shiftUp ltN b j d).size=d.size
 |0,j,d,h=>by rw[MN (by omega)]
 |k+1,j,d,h=>by
  by_cases hj:j<b
  .rw [Sj hj]
   split
   .rw[Qk b k _ _ (by omega),swp_size]
   .rfl
  .rw[MN hj]
theorem O3 (a b:Nat):∀(s i:Nat)(d:Array Nat),(Sort.partialIns ltN a b s i d).1.size=d.size
 |0,i,d=>by rw[Sort.partialIns]
 |s+1,i,d=>by
  dsimp only[Sort.partialIns];split
  .rfl
  .split
   .rfl
   .rw [O3 a b s]
    split
    .rw [Qk b _ _ _ (qg _)]
     split
     .rw[Mi,swp_size]
     .rw[swp_size]
    .split
     .rw[Mi,swp_size]
     .rw[swp_size]
theorem Sn (d:Array Nat)(a b:Nat):(Sort.partialInsertionSort ltN d a b).1.size=d.size:=O3 a b 5 (a+1) d
theorem Zbo (a:Nat):∀(k i j:Nat)(d:Array Nat),j+1-i<=k->1<=i->i<=(Sort.partEqLoop ltN a i j d).1/\(Sort.partEqLoop ltN a i j d).1<=max i (j+1)/\(Sort.partEqLoop ltN a i j d).2.size=d.size:=by
 intro k
 induction k with
 |zero=>
  intro i j d h h1;have hu:Sort.scanUp (fun x=>!ltN d[a]! x) d j i=i:=C2 (by omega);have hd:=Gl (fun x=>ltN d[a]! x) d i j;rw[MH,hu,if_pos (by omega)];exact⟨qg _,qaJ _ _,rfl⟩
 |succ k ih=>
  intro i j d h h1;rw[MH];have g1:=H0 (fun x=>!ltN d[a]! x) d j _ i (qg _);have g2:i<=j+1->Sort.scanUp (fun x=>!ltN d[a]! x) d j i<=j+1:=He (fun x=>!ltN d[a]! x) d j _ i (qg _);have g3:¬i<=j+1->Sort.scanUp (fun x=>!ltN d[a]! x) d j i=i:=fun hc=>C2 (by omega);generalize Sort.scanUp (fun x=>!ltN d[a]! x) d j i=i2 at *
  have g4:=Gl (fun x=>ltN d[a]! x) d i2 j;generalize Sort.scanDown (fun x=>ltN d[a]! x) d i2 j=j2 at *
  split
  .refine ⟨g1,?_,rfl⟩
   show i2<=_;by_cases hc:i<=j+1
   .have:=g2 hc
    omega
   .have:=g3 hc
    omega
  .rw [if_pos (by omega)]
   obtain⟨k1,k2,k3⟩:=ih (i2+1) (j2-1) (Sort.swp d i2 j2) (by omega) (by omega);refine⟨by omega,by omega,by rw[k3,swp_size]⟩
theorem Re {d:Array Nat}{a b p:Nat}(h:a<b):a<(Sort.partitionEqual ltN d a b p).1/\(Sort.partitionEqual ltN d a b p).1<=b/\(Sort.partitionEqual ltN d a b p).2.size=d.size:=by
 unfold Sort.partitionEqual;obtain⟨k1,k2,k3⟩:=Zbo a _ (a+1) (b-1) (Sort.swp d a p) (qg _) (by omega);exact⟨by omega,by omega,by rw[k3,swp_size]⟩
theorem Uy {d:Array Nat}{a b p:Nat}(ha:a<=p)(hp:p<b)(hb:b<=d.size):a<=(Sort.partition ltN d a b p).1/\(Sort.partition ltN d a b p).1<b/\(Sort.partition ltN d a b p).2.2.size=d.size:=by
 obtain⟨h1,h2,h3,_⟩:=Sort.partition_holds ltN swoN d a b p ha hp hb;exact⟨h1,h2,h3.1⟩
def t9 (d:Array Nat)(a b lim piv:Nat):Array Nat:=
 if (Sort.partition ltN d a b piv).1-a<b-(Sort.partition ltN d a b piv).1 then
  Sort.pdq ltN (Sort.pdq ltN (Sort.partition ltN d a b piv).2.2 a (Sort.partition ltN d a b piv).1 lim true true) ((Sort.partition ltN d a b piv).1+1) b lim
   (decide ((Sort.partition ltN d a b piv).1-a>=(b-a) / 8)) (Sort.partition ltN d a b piv).2.1
 else
  Sort.pdq ltN (Sort.pdq ltN (Sort.partition ltN d a b piv).2.2 ((Sort.partition ltN d a b piv).1+1) b lim true true) a (Sort.partition ltN d a b piv).1 lim
   (decide (b-(Sort.partition ltN d a b piv).1>=(b-a) / 8)) (Sort.partition ltN d a b piv).2.1
def t8 (d:Array Nat)(a b lim:Nat)(wb wq:Bool)(piv:Nat):Array Nat:=
 if (decide (a>0) && !ltN d[a-1]! d[piv]!)=true then Sort.pdq ltN (Sort.partitionEqual ltN d a b piv).2 (Sort.partitionEqual ltN d a b piv).1 b lim wb wq
 else t9 d a b lim piv
def t7 (d:Array Nat)(a b lim:Nat)(wb wq:Bool)(piv:Nat)(hint:Sort.Hint):Array Nat:=
 if (if (wb&&wq&&decide (hint=.increasing))=true then Sort.partialInsertionSort ltN d a b else (d,false)).2=true then
  (if (wb&&wq&&decide (hint=.increasing))=true then Sort.partialInsertionSort ltN d a b else (d,false)).1
 else t8 (if (wb&&wq&&decide (hint=.increasing))=true then Sort.partialInsertionSort ltN d a b else (d,false)).1 a b lim wb wq piv
def t5 (d:Array Nat)(a b lim:Nat)(wb wq:Bool):Array Nat:=
 t7 (if (Sort.choosePivot ltN d a b).2=.decreasing then Sort.reverseRange d a b else d) a b lim wb wq
  (if (Sort.choosePivot ltN d a b).2=.decreasing then (b-1)-((Sort.choosePivot ltN d a b).1-a) else (Sort.choosePivot ltN d a b).1)
  (if (Sort.choosePivot ltN d a b).2=.decreasing then .increasing else (Sort.choosePivot ltN d a b).2)
theorem Z8 {d:Array Nat}{a b lim:Nat}{wb wq:Bool}(h12:¬b-a<=12)(hl:¬lim=0)(hb:b<=d.size):
 Sort.pdq ltN d a b lim wb wq=t5 (if (!wb)=true then Sort.breakPatterns d a b else d) a b (if (!wb)=true then lim-1 else lim) wb wq:=by
 rw[Sort.pdq,if_neg h12,if_neg hl];unfold t5 t7 t8 t9;dsimp only;have s1:(if (!wb)=true then Sort.breakPatterns d a b else d).size=d.size:=by
  split
  .exact PG d a b
  .rfl
 generalize (if (!wb)=true then Sort.breakPatterns d a b else d)=d1 at *
 generalize (if (!wb)=true then lim-1 else lim)=lim1 at *
 obtain⟨c1,c2⟩:=Sort.choosePivot_holds ltN d1 a b (by omega);generalize Sort.choosePivot ltN d1 a b=c at *
 have hpv:a<=(if c.2=.decreasing then (b-1)-(c.1-a) else c.1)/\(if c.2=.decreasing then (b-1)-(c.1-a) else c.1)<b:=by
  split<;>omega
 generalize (if c.2=.decreasing then (b-1)-(c.1-a) else c.1)=piv at *
 have s2:(if c.2=.decreasing then Sort.reverseRange d1 a b else d1).size=d.size:=by
  split
  .rw[Pc (by omega) (by omega),s1]
  .exact s1
 generalize (if c.2=.decreasing then Sort.reverseRange d1 a b else d1)=d2 at *
 generalize (if c.2=Sort.Hint.decreasing then Sort.Hint.increasing else c.2)=hint at *
 have s3:(if (wb&&wq&&decide (hint=.increasing))=true then Sort.partialInsertionSort ltN d2 a b else (d2,false)).1.size=d.size:=by
  split
  .rw[Sn,s2]
  .exact s2
 generalize (if (wb&&wq&&decide (hint=.increasing))=true then Sort.partialInsertionSort ltN d2 a b else (d2,false))=pi at *
 split
 .rfl
 .split
  .obtain ⟨k1,k2,_⟩:=Re (d:=pi.1) (p:=piv) (show a<b by omega)
   generalize Sort.partitionEqual ltN pi.1 a b piv=r at *
   obtain⟨mid,d4⟩:=r;simp only at *
   rw[dif_pos ⟨k1,k2⟩]
  .obtain ⟨k1,k2,_⟩:=Uy (d:=pi.1) (p:=piv) hpv.1 hpv.2 (by omega)
   generalize Sort.partition ltN pi.1 a b piv=r at *
   obtain⟨mid,ap,d4⟩:=r;simp only at *
   rw[dif_pos ⟨k1,k2⟩]
def p9:VCode:=G (fdC 95 EE)
def p8:VCode:=(fun a=>G (rpC 95 a (fdC 73 EE))) p9
def p7:VCode:=(fun a=>G (rpC 73 a (fdC 61 EE))) p8
def p5:VCode:=(fun a=>G (rpC 61 a (fdC 43 EE))) p7
def p4:VCode:=(fun a=>G (rpC 43 a (fdC 34 EE))) p5
def r249:VCode:=(fun a=>G (rpC 34 a EE)) p4
theorem VR:EE=r249:=by kernel_rfl
theorem ZdE {e:Array Nat}{l:List Nat}(h:Is e l){n:Nat}(hn:e.size=n)(a b:Nat)(hab:a<=b)(hb:b<=n)(hl:n<=687194767360):
 (K A).call 270 [.sc (.arr 0 n),intV a,intV b] [arrU l]=some (retV,[arrU (Sort.insertionSort ltN e a b).toList]):=by
 cases h;subst hn;exact YE e a b hab hb hl
theorem Zbm {e:Array Nat}{l:List Nat}(h:Is e l){n:Nat}(hn:e.size=n)(a b:Nat)(hab:a<b)(hb:b<=n)(hl:n<=687194767360):
 (K A).call 271 [.sc (.arr 0 n),intV a,intV b] [arrU l]=some (retV,[arrU (Sort.heapSort ltN e a b).toList]):=by
 cases h;subst hn;exact Xw e a b hab hb hl
theorem ZcZ {e:Array Nat}{l:List Nat}(h:Is e l){n:Nat}(hn:e.size=n)(a b:Nat)(hab:a<b)(hb:b<=n)(hl:n<=687194767360):
 (K A).call 274 [.sc (.arr 0 n),intV a,intV b] [arrU l]=some (retV,[arrU (Sort.reverseRange e a b).toList]):=by
 cases h;subst hn;exact Ze6 e a b hab hb hl
abbrev S6 (n a b lim:Nat)(wb wq:Bool)(xs:Env):Env:=(0,.sc (.arr 0 n))::(1,intV a)::(2,intV b)::(3,intV lim)::(8,Ac wb)::(9,Ac wq)::xs
structure Owes (Q:Ex->St->Prop)(n L:Nat)(R:Array Nat):Prop where
 ret:∀(env:Env) (l:List Nat),Is R l->R.size=n->Q .ret ⟨env,[(0,some (arrU l))]⟩
 next:∀(x:Ex) (a b lim:Nat) (wb wq:Bool) (e:Array Nat) (l:List Nat),(x=.normal\/x=.exit 1)->Is e l->e.size=n->Sort.pdq ltN e a b lim wb wq=R->a<=b->b<=n->lim<=1000->b-a<L->
  Q x ⟨S6 n a b lim wb wq [],[(0,some (arrU l))]⟩
def FD (A:Af)(n L:Nat):Prop:=∀(e:Array Nat)(l:List Nat)(a b lim:Nat),Is e l->e.size=n->a<=b->b<=n->lim<=1000->b-a<L->
 (K A).call 249 [.sc (.arr 0 n),intV a,intV b,intV lim] [arrU l]=some (retV,[arrU (Sort.pdq ltN e a b lim true true).toList])/\(Sort.pdq ltN e a b lim true true).size=n
theorem Qg {e:Array Nat}{l:List Nat}(h:Is e l){n:Nat}(hn:e.size=n){a b lim:Nat}{wb wq:Bool}{piv:Nat}(h12:¬b-a<=12)(hp1:a<=piv)(hp2:piv<b)(hb:b<=n)(hl:n<=687194767360)(hlim:lim<=1000)
 {R:Array Nat}(hR:t9 e a b lim piv=R) (sh:FD A n (b-a)) {Q:Ex->St->Prop}(q:Owes Q n (b-a) R):
 wp (K A) p9 Q ⟨S6 n a b lim wb wq [(10,intV ((b-a:Nat):Int)),(11,intV piv),(87,Ac false)],[(0,some (arrU l))]⟩:=by
 unfold t9 at hR;obtain⟨k1,k2,k3⟩:=Uy (d:=e) (p:=piv) hp1 hp2 (by omega);have hc:=Zbi (A:=A) h hn a b piv hp1 hp2 hb hl;generalize Sort.partition ltN e a b piv=r at *
 obtain⟨mid,ap,d4⟩:=r;simp only at *
 have hll:=Av h;have hq:Int.tdiv ((b-a:Nat):Int) 8=(((b-a) / 8:Nat):Int):=by
  rw[qaV (by omega)];omega
 have hmI:(mid:Int)-a=((mid-a:Nat):Int):=by omega
 have hbI:(b:Int)-mid=((b-mid:Nat):Int):=by omega
 have hm1:(mid:Int)+1=((mid+1:Nat):Int):=by omega
 have hd4:Is d4 d4.toList:=rfl;have hd4l:d4.toList.length=n:=by rw[Av hd4];omega
 unfold p9 G;by_cases hlt:mid-a<b-mid
 .rw [if_pos hlt] at hR
  obtain⟨c1,c2⟩:=sh d4 d4.toList a mid lim hd4 (by omega) k1 (by omega) hlim (by omega);generalize hg:Sort.pdq ltN d4 a mid lim true true=g at *
  have hgl:g.toList.length=n:=by rw[Av (show Is g g.toList from rfl)];exact c2
  have fin:=q.next .normal (mid+1) b lim (decide ((b-a) / 8<=mid-a)) ap g g.toList (.inl rfl) rfl c2 hR (by omega) hb hlim (by omega);have ht8:(b-a) / 8<=687194767360:=by omega
  generalize (b-a) / 8=t at *
  generalize mid-a=m1 at *
  generalize b-mid=m2 at *
  generalize mid+1=m3 at *
  generalize b-a=L at *
  generalize hgt:g.toList=gl at *
  generalize hdt:d4.toList=dl at *
  simp(maxSteps:=9^7) (disch:=try exact zd) [hc,c1,hq,hmI,hbI,hm1,hlt,hll,hn,hd4l,hgl,retV,V.ren,-getElem?_pos];exact fin
 .rw [if_neg hlt] at hR
  obtain⟨c1,c2⟩:=sh d4 d4.toList (mid+1) b lim hd4 (by omega) (by omega) hb hlim (by omega);generalize hg:Sort.pdq ltN d4 (mid+1) b lim true true=g at *
  have hgl:g.toList.length=n:=by rw[Av (show Is g g.toList from rfl)];exact c2
  have fin:=q.next .normal a mid lim (decide ((b-a) / 8<=b-mid)) ap g g.toList (.inl rfl) rfl c2 hR k1 (by omega) hlim (by omega);have ht8:(b-a) / 8<=687194767360:=by omega
  generalize (b-a) / 8=t at *
  generalize mid-a=m1 at *
  generalize b-mid=m2 at *
  generalize mid+1=m3 at *
  generalize b-a=L at *
  generalize hgt:g.toList=gl at *
  generalize hdt:d4.toList=dl at *
  simp(maxSteps:=9^7) (disch:=try exact zd) [hc,c1,hq,hmI,hbI,hm1,hlt,hll,hn,hd4l,hgl,retV,V.ren,-getElem?_pos];exact fin
theorem Pu {e:Array Nat}{l:List Nat}(h:Is e l){n:Nat}(hn:e.size=n){a b lim:Nat}{wb wq:Bool}{piv:Nat}(h12:¬b-a<=12)(hp1:a<=piv)(hp2:piv<b)(hb:b<=n)(hl:n<=687194767360)(hlim:lim<=1000)
 {R:Array Nat}(hR:t8 e a b lim wb wq piv=R) (sh:FD A n (b-a)) {Q:Ex->St->Prop}(q:Owes Q n (b-a) R) {t:Nat}(ht:t=68\/t=72):
 wp (K A) p8 Q ⟨S6 n a b lim wb wq [(10,intV ((b-a:Nat):Int)),(11,intV piv),(t,Ac false)],[(0,some (arrU l))]⟩:=by
 unfold t8 at hR;have hll:=Av h;by_cases ha:0<a
 .have haI:(0:Int)<a:=by omega
  have hx:=AA h (i:=a-1) (by omega);have hy:=AA h (i:=piv) (by omega);have ha1:(a:Int)-1=((a-1:Nat):Int):=by omega
  have hal:a-1<l.length:=by omega
  have hpl:piv<l.length:=by omega
  have hless:=Cy (A:=A) e[a-1]! e[piv]!;rw[E4]at hR;generalize e[a-1]! = u at *
  generalize e[piv]! = v at *
  by_cases huv:u<v
  .rw [if_neg (by simp [huv])] at hR
   have fin:=Qg (A:=A) h hn (wb:=wb) (wq:=wq) h12 hp1 hp2 hb hl hlim hR sh q;unfold p8 G;rcases ht with rfl|rfl <;>
   (simp (maxSteps:=9^7) (disch:=try exact zd) [haI,ha,hx,hy,ha1,hless,huv,hll,hn,-getElem?_pos]
    exact fin)
  .rw [if_pos (by simp [huv,ha])] at hR
   obtain⟨k1,k2,k3⟩:=Re (d:=e) (p:=piv) (show a<b by omega);have hc:=ZaX (A:=A) h hn a b piv hp1 hp2 hb hl;generalize Sort.partitionEqual ltN e a b piv=r at *
   obtain⟨mid,d4⟩:=r;simp only at *
   have hd4l:d4.toList.length=n:=(by rw[Av (show Is d4 d4.toList from rfl)];omega);have fin:=q.next (.exit 1) mid b lim wb wq d4 d4.toList (.inr rfl) rfl (by omega) hR k2 hb hlim (by omega);generalize hdt:d4.toList=dl at *
   unfold p8 G;rcases ht with rfl|rfl <;>
   (simp (maxSteps:=9^7) (disch:=try exact zd) [haI,ha,hx,hy,ha1,hless,huv,hc,hll,hn,hd4l,V.ren,-getElem?_pos]
    exact fin)
 .obtain rfl:a=0:=by omega
  rw[if_neg (by simp)]at hR;have fin:=Qg (A:=A) h hn (wb:=wb) (wq:=wq) h12 hp1 hp2 hb hl hlim hR sh q;unfold p8 G;rcases ht with rfl|rfl <;>
  (simp (maxSteps:=9^7) (disch:=try exact zd) [hll,hn,-getElem?_pos]
   exact fin)
theorem LJ {e:Array Nat}{l:List Nat}(h:Is e l){n:Nat}(hn:e.size=n){a b lim:Nat}{wb wq:Bool}{piv:Nat}{hint:Sort.Hint}(h12:¬b-a<=12)(hp1:a<=piv)(hp2:piv<b)(hb:b<=n)(hl:n<=687194767360)(hlim:lim<=1000)
 {R:Array Nat}(hR:t7 e a b lim wb wq piv hint=R) (sh:FD A n (b-a)) {Q:Ex->St->Prop}(q:Owes Q n (b-a) R) {xs:Env}(hx:xs=[]\/xs=[(50,Ac false)]):
 wp (K A) p7 Q ⟨S6 n a b lim wb wq ((10,intV ((b-a:Nat):Int))::(11,intV piv)::(12,intV (Dd hint))::xs),[(0,some (arrU l))]⟩:=by
 unfold t7 at hR;have hll:=Av h;by_cases hc:(wb&&wq&&decide (hint=.increasing))=true
 .rw [if_pos hc] at hR
  simp only[qe,decide_eq_true_eq]at hc;obtain⟨⟨rfl,rfl⟩,rfl⟩:=hc;have hcall:=YD (A:=A) h hn a b (by omega) hb hl;have hsz:=Sn e a b;generalize Sort.partialInsertionSort ltN e a b=r at *
  obtain⟨d2,ok⟩:=r;simp only at *
  have hdl:d2.toList.length=n:=by rw[Av (show Is d2 d2.toList from rfl)];omega
  cases ok with
  |true=>
   rw[if_pos rfl]at hR;subst hR;have fin:=fun env=>q.ret env d2.toList rfl (by omega);generalize hdt:d2.toList=dl at *
   unfold p7 G;rcases hx with rfl|rfl <;>
   (simp (maxSteps:=9^7) (disch:=try exact zd) [hcall,Dd,hll,hn,hdl,V.ren,-getElem?_pos]
    exact fin _)
  |false=>
   rw[if_neg (by simp)]at hR;have fin:=Pu (A:=A) (show Is d2 d2.toList from rfl) (hsz.trans hn) h12 hp1 hp2 hb hl hlim hR sh q (t:=72) (.inr rfl);generalize hdt:d2.toList=dl at *
   unfold p7 G;rcases hx with rfl|rfl <;>
   (simp (maxSteps:=9^7) (disch:=try exact zd) [hcall,Dd,hll,hn,hdl,V.ren,-getElem?_pos]
    exact fin)
 .rw [if_neg hc,if_neg (by simp)] at hR
  have fin:=Pu (A:=A) h hn (wb:=wb) (wq:=wq) h12 hp1 hp2 hb hl hlim hR sh q (t:=68) (.inl rfl);unfold p7 G;cases wb with
  |false=>
   rcases hx with rfl|rfl <;>
   (simp (maxSteps:=9^7) (disch:=try exact zd) [hll,hn,-getElem?_pos]
    exact fin)
  |true=>
   cases wq with
   |false=>
    rcases hx with rfl|rfl <;>
    (simp (maxSteps:=9^7) (disch:=try exact zd) [hll,hn,-getElem?_pos]
     exact fin)
   |true=>
    cases hint with
    |increasing=>exact absurd rfl hc
    |unknown=>
     rcases hx with rfl|rfl <;>
     (simp (maxSteps:=9^7) (disch:=try exact zd) [Dd,hll,hn,-getElem?_pos]
      exact fin)
    |decreasing=>
     rcases hx with rfl|rfl <;>
     (simp (maxSteps:=9^7) (disch:=try exact zd) [Dd,hll,hn,-getElem?_pos]
      exact fin)
theorem PY {e:Array Nat}{l:List Nat}(h:Is e l){n:Nat}(hn:e.size=n){a b lim:Nat}{wb wq:Bool}(h12:¬b-a<=12)(hb:b<=n)(hl:n<=687194767360)(hlim:lim<=1000)
 {R:Array Nat}(hR:t5 e a b lim wb wq=R) (sh:FD A n (b-a)) {Q:Ex->St->Prop}(q:Owes Q n (b-a) R) {xs:Env}(hx:xs=[]\/xs=[(35,Ac false)]):
 wp (K A) p5 Q ⟨S6 n a b lim wb wq ((10,intV ((b-a:Nat):Int))::xs),[(0,some (arrU l))]⟩:=by
 unfold t5 at hR;have hll:=Av h;have hc:=Za7 (A:=A) h hn a b (by omega) hb hl;obtain⟨c1,c2⟩:=Sort.choosePivot_holds ltN e a b (by omega);generalize Sort.choosePivot ltN e a b=c at *
 obtain⟨piv,hint⟩:=c;simp only at *
 cases hint with
 |decreasing=>
  simp only[if_true]at hR;have hrev:=ZcZ (A:=A) h hn a b (by omega) hb hl;have hsz:=Pc (d:=e) (a:=a) (b:=b) (by omega) (by omega);generalize Sort.reverseRange e a b=e2 at *
  have hdl:e2.toList.length=n:=by rw[Av (show Is e2 e2.toList from rfl)];omega
  have fin:=LJ (A:=A) (show Is e2 e2.toList from rfl) (hsz.trans hn) h12 (show a<=b-1-(piv-a) by omega) (by omega) hb hl hlim hR sh q (.inl rfl);have hpI:(b:Int)-1-(piv-a)=((b-1-(piv-a):Nat):Int):=by omega
  generalize hdt:e2.toList=dl at *
  generalize b-1-(piv-a)=pv at *
  unfold p5 G;rcases hx with rfl|rfl <;>
  (simp (maxSteps:=9^7) (disch:=try exact zd) [hc,hrev,hpI,Dd,hll,hn,hdl,retV,V.ren,-getElem?_pos]
   simpa[Dd]using fin)
 |increasing=>
  simp only[reduceCtorEq,if_false]at hR;have fin:=LJ (A:=A) h hn h12 c1 c2 hb hl hlim hR sh q (xs:=[(50,Ac false)]) (.inr rfl);unfold p5 G;rcases hx with rfl|rfl <;>
  (simp (maxSteps:=9^7) (disch:=try exact zd) [hc,Dd,hll,hn,V.ren,-getElem?_pos]
   simpa[Dd]using fin)
 |unknown=>
  simp only[reduceCtorEq,if_false]at hR;have fin:=LJ (A:=A) h hn h12 c1 c2 hb hl hlim hR sh q (xs:=[(50,Ac false)]) (.inr rfl);unfold p5 G;rcases hx with rfl|rfl <;>
  (simp (maxSteps:=9^7) (disch:=try exact zd) [hc,Dd,hll,hn,V.ren,-getElem?_pos]
   simpa[Dd]using fin)
theorem Wm {e:Array Nat}{l:List Nat}(h:Is e l){n:Nat}(hn:e.size=n){a b lim:Nat}{wb wq:Bool}(h12:¬b-a<=12)(hb:b<=n)(hl:n<=687194767360)(hlim:lim<=1000)(hlim0:¬lim=0)
 {R:Array Nat}(hR:Sort.pdq ltN e a b lim wb wq=R) (sh:FD A n (b-a)) {Q:Ex->St->Prop}(q:Owes Q n (b-a) R):
 wp (K A) p4 Q ⟨S6 n a b lim wb wq [(10,intV ((b-a:Nat):Int)),(29,Ac false)],[(0,some (arrU l))]⟩:=by
 rw[Z8 h12 hlim0 (by omega)]at hR;have hll:=Av h;cases wb with
 |true=>
  simp only[Bool.not_true,qx,if_false]at hR;have fin:=PY (A:=A) h hn h12 hb hl hlim hR sh q (xs:=[(35,Ac false)]) (.inr rfl);unfold p4 G;simp(maxSteps:=9^7) (disch:=try exact zd) [hll,hn,-getElem?_pos];exact fin
 |false=>
  simp only[Bool.not_false,if_true]at hR;have hbr:=Zan (A:=A) h hn a b (by omega) hb hl;have hsz:=PG e a b;generalize Sort.breakPatterns e a b=e2 at *
  have hdl:e2.toList.length=n:=by rw[Av (show Is e2 e2.toList from rfl)];omega
  have fin:=PY (A:=A) (show Is e2 e2.toList from rfl) (hsz.trans hn) h12 hb hl (by omega) hR sh q (xs:=[]) (.inl rfl);have hlI:(lim:Int)-1=((lim-1:Nat):Int):=by omega
  generalize hdt:e2.toList=dl at *
  generalize lim-1=lim1 at *
  unfold p4 G;simp(maxSteps:=9^7) (disch:=try exact zd) [hbr,hlI,hll,hn,hdl,retV,V.ren,-getElem?_pos];exact fin
theorem Wp {e:Array Nat}{l:List Nat}(h:Is e l){n:Nat}(hn:e.size=n){a b lim:Nat}{wb wq:Bool}(hab:a<=b)(hb:b<=n)(hl:n<=687194767360)(hlim:lim<=1000)
 {R:Array Nat}(hR:Sort.pdq ltN e a b lim wb wq=R) (sh:FD A n (b-a)) {Q:Ex->St->Prop}(q:Owes (Bx 1 Q) n (b-a) R):
 wp (K A) EE Q ⟨S6 n a b lim wb wq [],[(0,some (arrU l))]⟩:=by
 have hll:=Av h;have hLI:(b:Int)-a=((b-a:Nat):Int):=by omega
 rw[VR];unfold r249 G;by_cases h12:b-a<=12
 .rw [Sort.pdq,if_pos h12] at hR
  have hc:=ZdE (A:=A) h hn a b hab hb hl;have hsz:=Zaw (d:=e) hab (by omega);rw[hR]at hc hsz;have fin:=fun env=>q.ret env R.toList rfl (hsz.trans hn);have hdl:R.toList.length=n:=by rw[Av (show Is R R.toList from rfl)];omega
  generalize hdt:R.toList=dl at *
  have h12I:((b-a:Nat):Int)<=12:=by omega
  generalize b-a=L at *
  simp(maxSteps:=9^7) (disch:=try exact zd) [hc,hLI,h12,h12I,hll,hn,hdl,retV,V.ren,-getElem?_pos];exact fin _
 .by_cases hl0:lim=0
  .rw [Sort.pdq,if_neg h12,if_pos hl0] at hR
   subst hl0;have hc:=Zbm (A:=A) h hn a b (by omega) hb hl;have hsz:=WW (d:=e) hab (by omega);rw[hR]at hc hsz;have fin:=fun env=>q.ret env R.toList rfl (hsz.trans hn);have hdl:R.toList.length=n:=(by rw[Av (show Is R R.toList from rfl)];omega);generalize hdt:R.toList=dl at *
   have h12I:¬((b-a:Nat):Int)<=12:=(by omega);generalize b-a=L at *
   simp(maxSteps:=9^7) (disch:=try exact zd) [hc,hLI,h12,h12I,hll,hn,hdl,retV,V.ren,-getElem?_pos];exact fin _
  .have fin:=Wm (A:=A) h hn h12 hb hl hlim hl0 hR sh q
   have h12I:¬((b-a:Nat):Int)<=12:=(by omega);generalize b-a=L at *
   simp(maxSteps:=9^7) (disch:=try exact zd) [hLI,h12,h12I,hl0,hll,hn,-getElem?_pos];exact fin
theorem pdqA (n:Nat)(hl:n<=687194767360):∀L,FD A n L:=by
 intro L
 induction L with
 |zero=>intro e l a b lim _ _ _ _ _ h;omega
 |succ L ih=>
  intro e l a b lim h hn hab hb hlim hlt;have sz:(Sort.pdq ltN e a b lim true true).size=n/\(K A).call 249 [.sc (.arr 0 n),intV a,intV b,intV lim] [arrU l]=some (retV,[arrU (Sort.pdq ltN e a b lim true true).toList]):=by
   generalize hR:Sort.pdq ltN e a b lim true true=R
   suffices hw:∃r,(R.size=n/\r=(retV,[arrU R.toList]))/\(K A).call 249 [.sc (.arr 0 n),intV a,intV b,intV lim] [arrU l]=some r by
    obtain⟨_,⟨h1,rfl⟩,h2⟩:=hw;exact⟨h1,h2⟩
   have hll:=Av h;refine fnE v249 ?_;unfold v249;simp(maxSteps:=9^7) (disch:=try exact zd) [-getElem?_pos];generalize hQ:(Bx 0 (BP false 1 [] fun r=>R.size=n/\r=(retV,[arrU R.toList])))=Q;have hret:∀(env:Env) (l:List Nat),Is R l->R.size=n->Q .ret ⟨env,[(0,some (arrU l))]⟩:=by
    intro env l h1 h2;rw[<-hQ];have hl2:=Av h1;simp[isEq h1,retV,h2]
   clear hQ;refine Ak (fun r s=>∃(a' b' lim':Nat) (wb wq:Bool) (e':Array Nat) (l':List Nat),Is e' l'/\e'.size=n/\Sort.pdq ltN e' a' b' lim' wb wq=R/\a'<=b'/\b'<=n/\lim'<=1000/\b'-a'+r<=b-a/\
    s=⟨S6 n a' b' lim' wb wq [],[(0,some (arrU l'))]⟩) (b-a+1) ⟨a,b,lim,true,true,e,l,h,hn,hR,hab,hb,hlim,qg _,rfl⟩ ?_ ?_
   .clear h hn hR hll
    rintro r s hr ⟨a',b',lim',wb,wq,e',l',h,hn,hR,hab',hb',hlim',hlen,rfl⟩;refine Wp (A:=A) h hn hab' hb' hl hlim' hR (fun e l a b lim q1 q2 q3 q4 q5 q6=>ih e l a b lim q1 q2 q3 q4 q5 (by omega)) ⟨?_,?_⟩
    .intro env l h1 h2
     simp only[blockQ_ret];exact .inr ⟨by simp,hret env l h1 h2⟩
    .rintro x a2 b2 lim2 wb2 wp2 e2 l2 (rfl|rfl) q1 q2 q3 q4 q5 q6 q7
     .simp only [blockQ_normal]
      exact .inl ⟨trivial,a2,b2,lim2,wb2,wp2,e2,l2,q1,q2,q3,q4,q5,q6,by omega,rfl⟩
     .simp only [blockQ_exit,beq_self_eq_true,cond_true]
      exact .inl ⟨trivial,a2,b2,lim2,wb2,wp2,e2,l2,q1,q2,q3,q4,q5,q6,by omega,rfl⟩
   .rintro s ⟨a',b',lim',wb,wq,e',l',h,hn,hR,hab',hb',hlim',hlen,rfl⟩
    omega
  exact⟨sz.2,sz.1⟩
theorem Wr {d:Array Nat}{R:Array Nat}(h1:Sort.PermIn 0 d.size d R)(h2:Sort.SortedIn ltN 0 d.size R):SortR 0 d.size d.toList R.toList:=by
 obtain⟨s1,s2,s3⟩:=h1;refine⟨?_,fun k hk=>?_,fun p q x y hp hpq hq hx hy=>?_⟩
 .have e1:R.extract 0 d.size=R:=by rw [<-s1];simp
  have e2:d.extract 0 d.size=d:=by simp
  rw[e1,e2]at s3;exact s3
 .have hk:d.size<=k:=by omega
  rw[qam (by simpa[s1]using hk),qam (by simpa using hk)]
 .have h3:=h2 p q (qac _) hpq hq
  rw[AA (show Is R R.toList from rfl) (by omega)]at hx hy;cases hx;cases hy;simpa[ltN]using h3
theorem U8 (d:List Nat)(hl:d.length<=687194767360):∃r,(∃e,SortR 0 d.length d e/\r=(retV,[arrU e]))/\(K A).call 228 [.sc (.arr 0 d.length)] [arrU d]=some r:=by
 refine fnE v228 ?_;have hlen:=UC (A:=A) d.length (by omega);have hbl:=F5 (n:=d.length) (k:=40) (by omega);have hw:IntKind.u64.wrap (d.length:Int)=d.length:=Db _ (by omega);obtain⟨hc,hsz⟩:=pdqA (A:=A) d.length hl (d.length+1) d.toArray d 0 d.length (Sort.bitsLen d.length) rfl (by simp) (by omega) (by omega) (by omega) (by omega)
 obtain⟨k1,k2⟩:=Sort.pdq_sorts ltN swoN d.toArray 0 d.length (Sort.bitsLen d.length) true true (by omega) (by simp) (.inl rfl);generalize Sort.pdq ltN d.toArray 0 d.length (Sort.bitsLen d.length) true true=R at *
 have hs:SortR 0 d.length d R.toList:=by
  have:=Wr (d:=d.toArray) (R:=R) (by simpa using k1) (by simpa using k2);simpa using this
 have h0:((0:Nat):Int)=0:=rfl;rw[h0]at hc;have hRl:R.toList.length=d.length:=by rw[Av (show Is R R.toList from rfl)];exact hsz
 generalize Sort.bitsLen d.length=bl at *
 generalize hRt:R.toList=rl at *
 unfold v228;simp(maxSteps:=9^7) (disch:=try exact zd) [hlen,hw,hc,hRl,retV,V.ren,-getElem?_pos];exact⟨rl,hs,rfl⟩
end Go.Vs.Tryz
namespace Go.Vs
open Go
variable {C:Ctx}{E:Nat->Option V}{L:Nat->Option Obj}{oid:Nat}
def clrK (L:Nat->Option Obj)(s:Nat)(zero:List W):V->Option (V×Upd)
 |.sc (.vw k N lo n)=>arrK (L k) fun s' rows p=>bif rows.length==N&&s'==s&&zero.length==s&&zero.all An&&Nat.ble (lo+n) N&&Nat.ble p lo&&Nat.blt 0 n then
  some (.sc .un,[(k,some (.arr s (rows.take lo++List.replicate n zero++rows.drop (lo+n)) p))]) else none
 |_=>none
@[simp] theorem x_clr {s:Nat} {zero:List W} {x:Opd}:Ad C E L oid (.clr s zero x)=clrK L s zero (x.val C E):=by
 simp only[Ad];generalize x.val C E=v;cases v with
 |sc w=>
  cases w with
  |vw k N lo n=>
   simp only[clrK,arrK];cases L k with
   |none=>rfl
   |some o=>cases o<;>rfl
  |c y=>cases y<;>rfl
  |_=>rfl
 |_=>rfl
@[simp] theorem clrK_vw {s:Nat} {zero:List W} {k N lo n:Nat}:clrK L s zero (.sc (.vw k N lo n))=arrK (L k) fun s' rows p=>bif rows.length==N&&s'==s&&zero.length==s&&zero.all An&&Nat.ble (lo+n) N&&Nat.ble p lo&&Nat.blt 0 n then
 some (.sc .un,[(k,some (.arr s (rows.take lo++List.replicate n zero++rows.drop (lo+n)) p))]) else none:=rfl
@[simp] theorem slice_arr_from {s k n i:Nat} {kk:IntKind} (h:i<=n):Bk L s (.sc (.arr k n)) (some (.sc (.c (.int kk (i:Int))))) none none=
 arrK (L k) fun s' rows _=>bif rows.length==n&&s'==s then some (.sc (.vw k n i (n-i)),[]) else none:=by
 cases hL:L k with
 |none=>simp[Bk,hL,arrK]
 |some o=>
  cases o with
  |box c=>simp[Bk,hL,arrK]
  |arr s' rows p=>simp[Bk,hL,arrK,AQ,G5,BC,qbf h]
@[simp] theorem slice_arr_to {s k n i:Nat} {kk:IntKind} (h:i<=n):Bk L s (.sc (.arr k n)) none (some (.sc (.c (.int kk (i:Int))))) none=
 arrK (L k) fun s' rows _=>bif rows.length==n&&s'==s then some (.sc (.vw k n 0 i),[]) else none:=by
 cases hL:L k with
 |none=>simp[Bk,hL,arrK]
 |some o=>
  cases o with
  |box c=>simp[Bk,hL,arrK]
  |arr s' rows p=>simp[Bk,hL,arrK,AQ,G5,BC,qbf h]
end Go.Vs
namespace Go.Vs.Tryz
open Go Go.Vs
variable {A:Af}
theorem JC {d:List Nat}:∀m,m<=d.length->(∀k x,0<k->k<m->d[k]?=some x->d[k-1]?≠some x)->Be d m=d.take m
 |0,_,_=>rfl
 |m+1,h,hn=>by
  obtain⟨x,hx⟩:=Ae (l:=d) (i:=m) (by omega);rw[Kb hx (fun hc=>hn m x hc.1 (by omega) hx hc.2),JC m (by omega) (fun k x h1 h2=>hn k x h1 (by omega)),Bh hx]
theorem NF {α:Type}{l:List α}{o n:Nat}(h:o+n<=l.length):∃r,cut l o n=some r:=by
 unfold cut;simp[h]
def Jb (d:List Nat)(r:V×List Obj):Prop:=∃(m:Nat)(d':List Nat),d'.length=d.length/\m<=d.length/\d'.take m=Be d d.length/\
 ((m=d.length/\r=(.sc (.arr 0 d.length),[arrU d']))\/r=(.sc (.vw 0 d.length 0 m),[arrU d']))
theorem ZbF (d:List Nat)(k m:Nat):(wr (B0 d)).take k++List.replicate m [W.c (.int .u64 0)]++(wr (B0 d)).drop (k+m)=wr (B0 (d.take k++List.replicate m 0++d.drop (k+m))):=by
 simp[wr,B0,F4,qaE,List.map_drop]
theorem Wn (d:List Nat)(hl:d.length<=687194767360):∃r,Jb d r/\(K A).call 229 [.sc (.arr 0 d.length)] [arrU d]=some r:=by
 refine fnE v229 ?_;generalize hn:d.length=n at *
 generalize hQ:BP v229.keep [arrU d].length v229.results (Jb d)=Q;have hret:∀r,Jb d r->∀(s:St),((Cd v229.keep 1 v229.results s).map (BU v229.keep))=some r->Q .ret s:=by
  intro r h1 s h2;rw[<-hQ];show BP v229.keep 1 v229.results (Jb d) .ret s;rw[endsQ_ret,h2,isR_some];exact h1
 clear hQ;unfold v229;by_cases h2:n<2
 .have h2I:(n:Int)<2:=by omega
  simp(maxSteps:=9^7) (disch:=try exact zd) [hn,h2I,h2,-getElem?_pos];refine hret (.sc (.arr 0 n),[arrU d]) ⟨n,d,by omega,by omega,?_,.inl ⟨hn.symm,by rw[hn]⟩⟩ _ ?_
  .rw[hn,JC n (by omega) (fun k x h1 h2=>by omega)]
  .simp[v229,hn]
 .have h2I:¬(n:Int)<2:=by omega
  simp(maxSteps:=9^7) (disch:=try exact zd) [hn,h2I,h2,-getElem?_pos];refine Ak (fun r s=>(∀k x,0<k->k<1+r->d[k]?=some x->d[k-1]?≠some x)/\s=⟨[(0,.sc (.arr 0 n)),(3,intV ((1+r:Nat):Int))],[(0,some (arrU d))]⟩) (n-1)
   ⟨fun k x h1 h2=>by omega,by simp⟩ ?_ ?_
  .rintro r s hr ⟨hdis,rfl⟩
   generalize hk:1+r=k at *
   obtain⟨x,hx⟩:=Ae (l:=d) (i:=k) (by omega);obtain⟨y,hy⟩:=Ae (l:=d) (i:=k-1) (by omega);have hkl:k<d.length:=(by omega);have hkl1:k-1<d.length:=(by omega);have hkI:(k:Int)-1=((k-1:Nat):Int):=(by omega);have hkn:(k:Int)<n:=(by omega);unfold NN;by_cases hxy:x=y
   .subst hxy
    have hc0:Be d (k+1)=d.take k:=by
     rw[JO hx (by omega) hy,JC k (by omega) hdis]
    simp(maxSteps:=9^7) (disch:=try exact zd) [hn,hkn,hkI,hx,hy,-getElem?_pos];refine Ak (fun t s=>∃(q:Nat) (e:List Nat),e.length=n/\e.take q=Be d (k+1+t)/\q<=k+t/\k<=q/\(∀p,k+t<=p->e[p]?=d[p]?)/\
     s=⟨[(0,.sc (.arr 0 n)),(3,intV q),(4,.sc (.vw 0 n k (n-k))),(5,intV ((1+t:Nat):Int))],[(0,some (arrU e))]⟩) (n-k-1)
     ⟨k,d,hn,hc0.symm,qg _,qg _,fun _ _=>rfl,by simp⟩ ?_ ?_
    .rintro t s ht ⟨q,e,he,htk,hq,hkq,hsame,rfl⟩
     obtain⟨u,hu⟩:=Ae (l:=d) (i:=k+(1+t)) (by omega);obtain⟨v,hv⟩:=Ae (l:=d) (i:=k+t) (by omega);have hue:e[k+(1+t)]?=some u:=(by rw[hsame _ (by omega)];exact hu);have hve:e[k+t]?=some v:=(by rw[hsame _ (qg _)];exact hv);have ht1:((1+t:Nat):Int)-1=((t:Nat):Int):=(by omega);have htn:((1+t:Nat):Int)<((n-k:Nat):Int):=(by omega);have htn2:(1:Int)+t<((n-k:Nat):Int):=(by omega)
     have ht12:(1:Int)+t-1=(t:Int):=(by omega);have ht13:(1:Int)+t=((1+t:Nat):Int):=(by omega);have ht2:1+t<n-k:=(by omega);have hql:q<e.length:=(by omega);generalize hpp:1+t=t1 at *
     generalize hp1:k+t1=p1 at *
     generalize hp0:k+t=p0 at *
     have hpl1:p1<e.length:=(by omega);have hpl0:p0<e.length:=(by omega);obtain⟨cs,hcut⟩:=NF (l:=wr (B0 e)) (o:=k) (n:=n-k) (by simp;omega);obtain⟨vq,hvq⟩:=Ae (l:=e) (i:=q) hql;unfold JT;by_cases huv:u=v
     .subst huv
      have hc1:Be d (k+1+(t+1))=Be d (k+1+t):=by
       rw[show k+1+(t+1)=p1+1 by omega,JO hu (by omega) (by rw[show p1-1=p0 by omega];exact hv),show k+1+t=p1 by omega]
      have fin:∃(q':Nat) (e':List Nat),e'.length=n/\e'.take q'=Be d (k+1+(t+1))/\q'<=k+(t+1)/\k<=q'/\(∀p,k+(t+1)<=p->e'[p]?=d[p]?)/\
       (⟨[(0,.sc (.arr 0 n)),(3,intV q),(4,.sc (.vw 0 n k (n-k))),(5,intV ((t1:Int)+1))],[(0,some (arrU e))]⟩:St)=⟨[(0,.sc (.arr 0 n)),(3,intV q'),(4,.sc (.vw 0 n k (n-k))),(5,intV ((1+(t+1):Nat):Int))],[(0,some (arrU e'))]⟩:=
       ⟨q,e,he,by rw[hc1];exact htk,by omega,hkq,fun p hp=>hsame p (by omega),by rw[show((1+(t+1):Nat):Int)=(t1:Int)+1 by omega]⟩
      simp(maxSteps:=9^7) (disch:=try exact zd) [he,hcut,hvq,htn,htn2,ht1,ht12,ht13,ht2,hue,hve,hp1,hp0,-getElem?_pos];simpa using fin
     .have hc1:Be d (k+1+(t+1))=Be d (k+1+t)++[u]:=by
       rw[show k+1+(t+1)=p1+1 by omega,Kb hu (fun hc=>huv (qaN (hc.2.symm.trans (by rw[show p1-1=p0 by omega];exact hv)))),show k+1+t=p1 by omega]
      have huvI:¬(u:Int)=v:=(by omega);have hset:(e.set q u).take (q+1)=e.take q++[u]:=by
       have:(e.set q u)[q]?=some u:=(by simp[hql]);rw[Bh this,List.take_set_of_le (qg _)]
      have fin:∃(q':Nat) (e':List Nat),e'.length=n/\e'.take q'=Be d (k+1+(t+1))/\q'<=k+(t+1)/\k<=q'/\(∀p,k+(t+1)<=p->e'[p]?=d[p]?)/\
       (⟨[(0,.sc (.arr 0 n)),(3,intV ((q:Int)+1)),(4,.sc (.vw 0 n k (n-k))),(5,intV ((t1:Int)+1))],[(0,some (arrU (e.set q u)))]⟩:St)=⟨[(0,.sc (.arr 0 n)),(3,intV q'),(4,.sc (.vw 0 n k (n-k))),(5,intV ((1+(t+1):Nat):Int))],[(0,some (arrU e'))]⟩:=
       ⟨q+1,e.set q u,by simp[he],by rw[hset,hc1,htk],by omega,by omega,fun p hp=>by rw[qaC (by omega)];exact hsame p (by omega),by rw[show((1+(t+1):Nat):Int)=(t1:Int)+1 by omega];simp⟩
      simp(maxSteps:=9^7) (disch:=try exact zd) [he,hcut,hvq,htn,htn2,ht1,ht12,ht13,ht2,hue,hve,hp1,hp0,huv,huvI,-getElem?_pos];simpa using fin
    .rintro s ⟨q,e,he,htk,hq,hkq,hsame,rfl⟩
     have ht1:¬((1+(n-k-1):Nat):Int)<((n-k:Nat):Int):=(by omega);rw[show 1+(n-k-1)=n-k by omega];have hqn:q<n:=(by omega);have hqI:(n:Int)-q=((n-q:Nat):Int):=(by omega);have hwc:=ZbF e q (n-q);rw[show q+(n-q)=n by omega,qau]at hwc;have hlen2:(e.take q++List.replicate (n-q) 0++e.drop n).length=n:=(by simp;omega);have htk2:(e.take q++List.replicate (n-q) 0++e.drop n).take q=Be d d.length:=by
      rw[qau,qa9 (by simp;omega),htk,show k+1+(n-k-1)=n by omega,hn]
     generalize e.take q++List.replicate (n-q) 0++e.drop n=e2 at *
     have fin:=hret (.sc (.vw 0 n 0 q),[arrU e2]) ⟨q,e2,by omega,by omega,htk2,.inr (by rw[hn])⟩;have hq0:q+(n-q)=n:=(by omega);have h0q:0<n-q:=(by omega);obtain⟨cs,hcut⟩:=NF (l:=wr (B0 e)) (o:=k) (n:=n-k) (by simp;omega);unfold JT;simp(maxSteps:=9^7) (disch:=try exact zd) [he,hcut,hqn,hq0,h0q,hwc,hlen2,-getElem?_pos];refine fin _ ?_;simp[v229,hlen2]
   .have hxyI:¬(x:Int)=y:=by omega
    simp(maxSteps:=9^7) (disch:=try exact zd) [hn,hkn,hkI,hx,hy,hxy,hxyI,-getElem?_pos];refine⟨?_,by omega⟩;intro k' x' h1 h2 h3;rcases qbk k' k with h4|h4
    .exact hdis k' x' h1 h4 h3
    .obtain rfl:k'=k:=by omega
     rw[hx]at h3;cases h3;rw[hy];intro h5;cases h5;exact hxy rfl
  .rintro s ⟨hdis,rfl⟩
   rw[show 1+(n-1)=n by omega]at hdis |-;unfold NN;simp(maxSteps:=9^7) (disch:=try exact zd) [hn,-getElem?_pos];refine hret (.sc (.arr 0 n),[arrU d]) ⟨n,d,by omega,by omega,?_,.inl ⟨hn.symm,by rw[hn]⟩⟩ _ ?_
   .rw[hn,JC n (by omega) hdis]
   .simp[v229,hn]
end Go.Vs.Tryz
namespace Go.Vs
open Go
variable {C:Ctx}{E:Nat->Option V}{L:Nat->Option Obj}{oid:Nat}
@[simp] theorem x_idxAA {s len:Nat} {x i:Opd}:Ad C E L oid (.idxAA s len x i)=AT (Ax (i.val C E) len) fun j=>onBy L (j*s) (x.val C E):=by
 simp only[Ad];cases Ax (i.val C E) len<;>rfl
@[simp] theorem x_newA {n:Nat} {zero:List W}:Ad C E L oid (.newA n zero)=newK (L oid) (bif Nat.ble n A5 then some (.sc (.el oid n 0 0),[(oid,some (.arr zero.length (List.replicate n zero) 0))]) else none):=by
 simp only[Ad];cases L oid<;>rfl
def slAK (L:Nat->Option Obj)(s n:Nat)(v:V)(lo hi:Option V):Option (V×Upd):=match v with
 |.sc (.el k N i off)=>arrK (L k) fun s' rows _=>AT (AQ hi n n) fun h=>AT (AQ lo 0 h) fun l=>
  bif N==n&&i==0&&off==0&&rows.length==N&&s'==s&&Nat.blt 0 N then some (.sc (.vw k N l (h-l)),[]) else none
 |_=>none
@[simp] theorem x_slA {s n:Nat} {x:Opd} {lo hi:Option Opd}:Ad C E L oid (.slA s n x lo hi)=slAK L s n (x.val C E) (lo.map (·.val C E)) (hi.map (·.val C E)):=by
 simp only[Ad];generalize x.val C E=v;cases v with
 |sc w=>
  cases w with
  |el k N i off=>
   simp only[slAK,arrK];cases L k with
   |none=>rfl
   |some o=>
    cases o with
    |box c=>rfl
    |arr s' rows p=>
     simp only;cases AQ (hi.map (·.val C E)) n n with
     |none=>rfl
     |some h=>
      simp only[AT];cases AQ (lo.map (·.val C E)) 0 h<;>rfl
  |c y=>cases y<;>rfl
  |_=>rfl
 |_=>rfl
@[simp] theorem slAK_to {s n k N h:Nat} {kk:IntKind} (hh:h<=n):slAK L s n (.sc (.el k N 0 0)) none (some (.sc (.c (.int kk (h:Int)))))=
 arrK (L k) fun s' rows _=>bif N==n&&rows.length==N&&s'==s&&Nat.blt 0 N then some (.sc (.vw k N 0 h),[]) else none:=by
 simp[slAK,AQ,G5,BC,qbf hh,AT]
def cvSK:Option (List (List W))->Option (V×Upd)
 |none=>none
 |some rows=>bif rows.isEmpty then none else (Ab DV rows).map fun l=>(.sc (.c (.str l)),[])
@[simp] theorem x_cvS {x:Opd}:Ad C E L oid (.cvS x)=cvSK (Bf L (x.val C E)):=by
 simp only[Ad,cvSK];cases Bf L (x.val C E)<;>rfl
def bRow (b:UInt8):List Cell:=[.int .u8 b.toNat]
def B6 (w:List UInt8):List (List Cell):=w.map bRow
@[simp] theorem bRow_len (b:UInt8):(bRow b).length=1:=rfl
@[simp] theorem bRows_len (w:List UInt8):(B6 w).length=w.length:=by simp[B6]
@[simp] theorem bRows_get (w:List UInt8) (i:Nat):(B6 w)[i]?=(w[i]?).map bRow:=by simp[B6]
@[simp] theorem wc_b (b:UInt8):wc (bRow b)=[.c (.int .u8 b.toNat)]:=rfl
@[simp] theorem b_set (w:List UInt8) (i:Nat) (b:UInt8):setRow (wr (B6 w)) i [W.c (.int .u8 (b.toNat:Int))]=wr (B6 (w.set i b)):=by
 rw[Tryz.setRow_set];simp[B6,wr,qaZ,bRow]
theorem RA:∀w:List UInt8,Ab DV (wr (B6 w))=some w
 |[]=>rfl
 |b::w=>by
  have h:=RA w;have hb:b.toNat<256:=b.toNat_lt;have e:DV (wc (bRow b))=some b:=by
   simp only[wc_b,DV];rw[show(decide ((0:Int)<=(b.toNat:Int))&&decide ((b.toNat:Int)<256))=true by simp;omega];simp
  show Ab DV (wc (bRow b)::wr (B6 w))=_;simp only[Ab,e,h]
@[simp] theorem cvSK_b {w:List UInt8} (h:w≠[]):cvSK (some (wr (B6 w)))=some (.sc (.c (.str w)),[]):=by
 simp only[cvSK];rw[show(wr (B6 w)).isEmpty=false by cases w<;>simp_all[wr,B6],RA];rfl
theorem Tt {w:List UInt8}{n:Nat}(h:n<=w.length):cut (wr (B6 w)) 0 n=some (wr (B6 (w.take n))):=by
 unfold cut;simp[wr,B6,h,qaE]
theorem Zfw (n:Nat):List.replicate n [W.c (.int .u8 0)]=wr (B6 (List.replicate n 0)):=by simp[wr,B6,bRow]
end Go.Vs
namespace Go.Vs.Tryz
open Go Go.Vs
variable {A:Af}
def dg (x:Nat):UInt8:=UInt8.ofNat (48+x % 10)
def pd:Nat->Nat->Str
 |0,_=>[]
 |m+1,k=>dg (k / 10 ^ m)::pd m k
theorem QI:∀(m k:Nat),(pd m k).length=m
 |0,_=>rfl
 |m+1,k=>by simp[pd,QI m]
theorem UG:∀(m k:Nat),pd (m+1) k=pd m (k / 10)++[dg k]
 |0,k=>by simp[pd]
 |m+1,k=>by
  rw[pd,UG m k,pd];simp only[qbh];rw[Nat.div_div_eq_div_mul,qa0,Nat.mul_comm]
theorem SB:∀(m k:Nat),10 ^ m<=k->k<10 ^ (m+1)->pd (m+1) k=numS k
 |0,k,h1,h2=>by
  have:k<10:=by simpa using h2
  rw[EB this];simp[pd,dg,qas this]
 |m+1,k,h1,h2=>by
  have hp:1<=10 ^ m:=Nat.one_le_pow _ _ (by omega);have h10:10 ^ (m+1)=10 ^ m*10:=qa0 ..;have h20:10 ^ (m+2)=10 ^ m*10*10:=by rw[qa0,qa0]
  rw[Ey (by omega),UG,SB m (k / 10) (by omega) (by omega)];rfl
def gs (L:Nat):Nat:=L*78913 / 262144
def ndig (k:Nat):Nat:=gs (Sort.bitsLen k)+if 10 ^ gs (Sort.bitsLen k)<=k then 1 else 0
theorem Ss {L:Nat}(h:L<65):gs L<20/\2 ^ L<=10 ^ (gs L+1)/\(L=0\/10 ^ (gs L-1)<=2 ^ (L-1)):=by
 have h1:(List.range 65).all (fun L=>decide (gs L<20)&&decide (2 ^ L<=10 ^ (gs L+1))&&(decide (L=0)||decide (10 ^ (gs L-1)<=2 ^ (L-1))))=true:=by kernel_rfl
 have h2:=Hc h1 h;simp only[qe,qaq,decide_eq_true_eq]at h2;exact⟨h2.1.1,h2.1.2,h2.2⟩
theorem Zu (n:Nat):n<2 ^ Sort.bitsLen n:=by
 unfold Sort.bitsLen;split
 .omega
 .exact Nat.lt_log2_self
theorem Wb {n:Nat}(h:n≠0):2 ^ (Sort.bitsLen n-1)<=n:=by
 unfold Sort.bitsLen;rw[if_neg h];exact Nat.log2_self_le h
theorem Za3 {k:Nat}(h1:1<=k)(h:k<18446744073709551616):1<=ndig k/\ndig k<=20/\10 ^ (ndig k-1)<=k/\k<10 ^ ndig k:=by
 have hL:Sort.bitsLen k<=64:=F5 (k:=64) h;obtain⟨g1,g2,g3⟩:=Ss (L:=Sort.bitsLen k) (by omega);have b1:=Zu k;have b2:=Wb (n:=k) (by omega);unfold ndig;by_cases hc:10 ^ gs (Sort.bitsLen k)<=k
 .rw [if_pos hc]
  exact⟨by omega,by omega,by rw[qaU];exact hc,qaf b1 g2⟩
 .rw [if_neg hc,qbi]
  have hg:1<=gs (Sort.bitsLen k):=by
   rcases Nat.eq_zero_or_pos (gs (Sort.bitsLen k))with h0|h0
   .rw [h0] at hc
    simp at hc;omega
   .exact h0
  refine⟨hg,by omega,?_,by omega⟩;rcases g3 with g3|g3
  .have:k=0:=by
    rw[g3]at b1;simpa using b1
   omega
  .exact qt g3 b2
theorem YY {j:Nat}(h:j<20):cut (tabOf .u64 pow10Tab) j 1=some [.int .u64 ((10 ^ j:Nat):Int)]:=by
 have h1:(List.range 20).all (fun j=>decide (pow10Tab[j]?=some ((10 ^ j:Nat):Int)))=true:=by kernel_rfl
 have h2:=of_decide_eq_true (Hc h1 h);unfold cut tabOf;have hl:pow10Tab.length=20:=rfl;have h3:(pow10Tab.drop j).take 1=[((10 ^ j:Nat):Int)]:=by
  rw[qaY (by omega)];rw[qi (by omega)]at h2;rw[qaN h2];rfl
 simp only[qbo,hl];rw[show Nat.ble (j+1) 20=true from qT (by omega),cond_true,<-List.map_drop,<-qaE,h3];rfl
theorem WU (n k:Nat)(hk:k<64):shrI .i64 (n:Int) (k:Int)=((n / 2 ^ k:Nat):Int):=by
 unfold shrI;rw[qai,show min k IntKind.i64.bits=k from qbb (qbl hk),Int.fdiv_eq_ediv_of_nonneg _ (Int.le_of_lt (Int.pow_pos (by decide)))];simp
theorem Vp (x:Nat)(h:x<65):(K A).call 287 [intV x] []=some (intV (gs x),[]):=by
 refine fnO v287 ?_;have h1:(x:Int)*78913=((x*78913:Nat):Int):=by omega
 have h2:shrI .i64 ((x*78913:Nat):Int) 18=((gs x:Nat):Int):=WU (x*78913) 18 (by omega);generalize hy:x*78913=y at *
 have hyb:y<6000000:=by omega
 unfold v287;simp(disch:=try exact zd) [h1,h2]
theorem UP (b:Bool):(K A).call 288 [Ac b] []=some (intV (if b=true then 1 else 0),[]):=by
 refine fnO v288 ?_;unfold v288;cases b<;>simp
theorem gl2:gl0 2=tabOf .u64 pow10Tab:=rfl
theorem Vt (k:Nat)(h:k<18446744073709551616):(K A).call 267 [u64V k] []=some (intV (ndig k),[]):=by
 have hL:Sort.bitsLen k<=64:=F5 (k:=64) h;obtain⟨g1,_⟩:=Ss (L:=Sort.bitsLen k) (by omega);have c1:=SS (A:=A) k h;have c2:=Vp (A:=A) (Sort.bitsLen k) (by omega);have c3:=YY g1;have c4:=UP (A:=A) (decide (10 ^ gs (Sort.bitsLen k)<=k));unfold ndig;generalize Sort.bitsLen k=L at *
 generalize gs L=g at *
 have hcI:decide (((10 ^ g:Nat):Int)<=(k:Int))=decide (10 ^ g<=k):=by rw[decide_eq_decide];omega
 generalize hp:10 ^ g=p at *
 refine fnO v267 ?_;unfold v267;by_cases hc:p<=k
 .have hcI2:(p:Int)<=(k:Int):=by omega
  simp only[hc,decide_true,if_true]at c4 |-;simp(maxSteps:=9^7) (disch:=try exact zd) [c1,c2,c3,c4,gl2,hc,hcI2,Opd.val]
 .have hcI2:¬(p:Int)<=(k:Int):=by omega
  simp only[hc,decide_false,qx,if_false]at c4 |-;simp(maxSteps:=9^7) (disch:=try exact zd) [c1,c2,c3,c4,gl2,hc,hcI2,Opd.val]
variable {A:Af}
abbrev arrB (w:Str):Obj:=.arr 1 (wr (B6 w)) 0
def tabS:Str:=(List.range 100).flatMap fun x=>[dg (x / 10),dg x]
theorem tabT (T:Str)(hT:tabS=T):T.length=200/\∀x:Nat,x<100->Ax (.sc (.c (.int .u32 ((x:Int)*2)))) 200=some (x*2)/\Ax (.sc (.c (.int .u32 ((x:Int)*2+1)))) 200=some (x*2+1)/\
 T[x*2]?=some (dg (x / 10))/\T[x*2+1]?=some (dg x):=by
 subst hT;refine⟨by kernel_rfl,fun x hx=>?_⟩;have h:(List.range 100).all (fun x=>tabS[x*2]?==some (dg (x / 10))&&tabS[x*2+1]?==some (dg x))=true:=by kernel_rfl
 have h1:=Hc h hx;simp only[qe,beq_iff_eq]at h1;exact⟨natBelow_cast (n:=x*2) (by omega),natBelow_cast (n:=x*2+1) (by omega),h1⟩
theorem Zcd {x y:Nat}(h:x % 10=y % 10):dg x=dg y:=by unfold dg;rw[h]
theorem vset {w:Str}{n i:Nat}{x:UInt8}(hi:i<n)(hn:n<=w.length):((w.set i x).take n).drop i=x::(w.take n).drop (i+1):=by
 apply qJ;intro j;cases j with
 |zero=>simp[qag,qW,qaM,hi];omega
 |succ j=>
  simp only[qag,qW,qa5];rw[qaC (by omega),show i+(j+1)=i+1+j by omega]
def FB (n k i u:Nat)(w:Str):Prop:=w.length=24/\i<=n/\k / 10 ^ (n-i)=u/\(w.take n).drop i=pd (n-i) k
theorem CF {n k i j u x:Nat}{w:Str}(hn:n<=24)(h:FB n k i u w)(hi:i=j+1)(hx:x % 10=u % 10):FB n k j (u / 10) (w.set j (dg x)):=by
 obtain⟨h1,h2,rfl,h4⟩:=h;subst hi;refine⟨by simp[h1],by omega,?_,?_⟩
 .rw[show n-j=n-(j+1)+1 by omega,qa0,Nat.div_div_eq_div_mul]
 .rw[vset (by omega) (by omega),h4,show n-j=n-(j+1)+1 by omega,pd,Zcd hx]
theorem KA {n k i u:Nat}{w:Str}(hk:k<10 ^ n)(h:FB n k i u w):u<10 ^ i:=by
 obtain⟨_,hi,rfl,_⟩:=h;rw[show 10 ^ n=10 ^ (n-i)*10 ^ i by rw[<-Nat.pow_add,show n-i+i=n by omega]]at hk;exact Nat.div_lt_of_lt_mul hk
def gB (w:Str)(i:Nat):UInt8:=w.getD i 0
theorem setG (w:Str)(i:Nat)(h:w.length=24)(hi:i<24):w[i]?=some (gB w i):=by unfold gB;grind
def r268:VCode:=(fun a=>G (rtC a Gy)) tabS
theorem ZeU:Gy=r268:=by kernel_rfl
theorem VB {n k i u:Nat}(hn:n<=24)(hu:u<18446744073709551616){w:Str}(hw:FB n k i u w)(hi:8<=i)(Q:Ex->St->Prop)
 (hQ:∀w',FB n k (i-8) (u / 100000000) w'->Q .normal ⟨[(0,.sc (.vw 0 24 0 n)),(1,u64V (u / 100000000)),(4,intV ((i-8:Nat):Int))],[(0,some (arrB w'))]⟩):
 wp (K A) Gy Q ⟨[(0,.sc (.vw 0 24 0 n)),(1,u64V u),(4,intV i)],[(0,some (arrB w))]⟩:=by
 have h1:=hw.1;have h2:=hw.2.1;have t1:Int.tmod (u:Int) 100000000=((u % 100000000:Nat):Int):=rfl;have t2:Int.tdiv (u:Int) 100000000=((u / 100000000:Nat):Int):=rfl;have hd:u / 10 / 10 / 10 / 10 / 10 / 10 / 10 / 10=u / 100000000:=by omega
 have x1:u / 100000000<18446744073709551616:=by omega
 generalize hun:u / 100000000=un at *
 generalize huh:u % 100000000=uh at *
 have t3:Int.tdiv (uh:Int) 10000=((uh / 10000:Nat):Int):=rfl;have t4:Int.tmod (uh:Int) 10000=((uh % 10000:Nat):Int):=rfl;generalize hd0:uh / 10000=d0 at *
 generalize hd1:uh % 10000=d1 at *
 have t5:Int.tdiv (d1:Int) 100=((d1 / 100:Nat):Int):=rfl;have t6:Int.tmod (d1:Int) 100=((d1 % 100:Nat):Int):=rfl;have t7:Int.tdiv (d0:Int) 100=((d0 / 100:Nat):Int):=rfl;have t8:Int.tmod (d0:Int) 100=((d0 % 100:Nat):Int):=rfl;generalize ha1:d1 / 100=a1 at *
 generalize ha0:d1 % 100=a0 at *
 generalize hb1:d0 / 100=b1 at *
 generalize hb0:d0 % 100=b0 at *
 have s1:=CF hn hw (j:=i-1) (x:=a0) (by omega) (by omega);have s2:=CF hn s1 (j:=i-2) (x:=a0 / 10) (by omega) (by omega);have s3:=CF hn s2 (j:=i-3) (x:=a1) (by omega) (by omega);have s4:=CF hn s3 (j:=i-4) (x:=a1 / 10) (by omega) (by omega);have s5:=CF hn s4 (j:=i-5) (x:=b0) (by omega) (by omega);have s6:=CF hn s5 (j:=i-6) (x:=b0 / 10) (by omega) (by omega)
 have s7:=CF hn s6 (j:=i-7) (x:=b1) (by omega) (by omega);have s8:=CF hn s7 (j:=i-8) (x:=b1 / 10) (by omega) (by omega);rw[hd]at s8;have fin:=hQ _ s8;obtain⟨T,hT⟩:∃T,tabS=T:=⟨_,rfl⟩;obtain⟨y1,y2⟩:=tabT T hT;have ya:=y2 a0 (by omega);have yb:=y2 a1 (by omega);have yc:=y2 b0 (by omega);have yd:=y2 b1 (by omega)
 have iI:(i:Int)-1=((i-1:Nat):Int)/\(i:Int)-2=((i-2:Nat):Int)/\(i:Int)-3=((i-3:Nat):Int)/\(i:Int)-4=((i-4:Nat):Int)/\(i:Int)-5=((i-5:Nat):Int)/\(i:Int)-6=((i-6:Nat):Int)/\(i:Int)-7=((i-7:Nat):Int)/\(i:Int)-8=((i-8:Nat):Int):=by omega
 have hiI:(8:Int)<=i:=by omega
 have hw64:=Db un x1;have ab:a0<100/\a1<100/\b0<100/\b1<100:=by omega
 rw[ZeU];unfold r268 G;rw[hT];clear hT s1 s2 s3 s4 s5 s6 s7 s8 hw hQ y2;simp(maxSteps:=9^8) (disch:=try exact zd) [hiI,t1,t2,t3,t4,t5,t6,t7,t8,y1,ya,yb,yc,yd,iI,hn,h1,hw64,setG,-getElem?_pos];exact fin
variable {A:Af}
def qC:VCode:=G (fdC 160 v268.body)
def qB:VCode:=(fun a b=>G (rpC 160 b (rtC a (fdC 138 v268.body)))) tabS qC
def qA:VCode:=(fun a b=>G (rpC 138 b (rtC a (fdC 98 v268.body)))) tabS qB
def q190:VCode:=(fun b=>G (rpC 98 b (fdC 96 v268.body))) qA
theorem ZJ:v268=⟨2,(.seq (.region [] [o 17 (.mv (tv 0)),
 o 18 (.len false (tv 17)),
 o 4 (.mv (tv 18))] [] [0,1,4])
 (.seq (.block 0 (.loop Gy))
 q190)),[],false⟩:=by kernel_rfl
section
variable {n k i u:Nat}{w:Str}(hn:n<=24)(hk:k<10 ^ n)(hw:FB n k i u w){xs:Env}(Q:Ex->St->Prop)(hQ:∀env w' u',FB n k 0 u' w'->Q .normal ⟨env,[(0,some (arrB w'))]⟩)
include hn hk hw hQ
theorem Sd (hi:i<2)(hx:xs=[]\/xs=[(139,Ac false)]):wp (K A) qC Q ⟨(0,.sc (.vw 0 24 0 n))::(4,intV i)::(12,.sc (.c (.int .u32 u)))::xs,[(0,some (arrB w))]⟩:=by
 have h1:=hw.1;have hin:=hw.2.1;have ul:=KA hk hw;obtain rfl|rfl:i=0\/i=1:=by omega
 .have fin:=fun env=>hQ env _ _ hw
  unfold qC G;rcases hx with rfl|rfl <;>
  (simp (maxSteps:=9^7) (disch:=try exact zd) [-getElem?_pos]
   exact fin _)
 .rw [Nat.pow_one] at ul
  have fin:=fun env=>hQ env _ _ (CF hn hw (j:=0) (x:=u) rfl rfl);have hdg:(48:Int)+u=((dg u).toNat:Int):=by unfold dg;rw[qas ul,UInt8.toNat_ofNat',qas (by omega)];omega
  have hdb:(dg u).toNat<256:=(dg u).toNat_lt;generalize dg u=dgu at *
  unfold qC G;rcases hx with rfl|rfl <;>
  (simp (maxSteps:=9^7) (disch:=try exact zd) [hdg,h1,hn,setG,-getElem?_pos]
   exact fin _)
theorem Q4 (hi:i<4)(hx:xs=[]\/xs=[(99,Ac false)]):wp (K A) qB Q ⟨(0,.sc (.vw 0 24 0 n))::(4,intV i)::(12,.sc (.c (.int .u32 u)))::xs,[(0,some (arrB w))]⟩:=by
 have h1:=hw.1;have hin:=hw.2.1;by_cases c:2<=i
 .have g:(2:Int)<=i:=by omega
  have ul:=KA hk hw;have ul2:10 ^ i<=10 ^ 3:=Nat.pow_le_pow_right (by omega) (by omega);have t1:Int.tmod (u:Int) 100=((u % 100:Nat):Int):=rfl;have t2:Int.tdiv (u:Int) 100=((u / 100:Nat):Int):=rfl;have hd:u / 10 / 10=u / 100:=by omega
  have s2:=CF hn (CF hn hw (j:=i-1) (x:=u % 100) (by omega) (by omega)) (j:=i-2) (x:=u % 100 / 10) (by omega) (by omega);rw[hd]at s2;have fin:=Sd (A:=A) hn hk s2 Q hQ (by omega) (.inl rfl);obtain⟨T,hT⟩:∃T,tabS=T:=⟨_,rfl⟩;obtain⟨y1,y2⟩:=tabT T hT;have hc:u % 100<100:=by omega
  have ya:=y2 (u % 100) hc;have iI:(i:Int)-1=((i-1:Nat):Int)/\(i:Int)-2=((i-2:Nat):Int):=by omega
  unfold qB G;rw[hT];clear hT y2 hQ hw;generalize u % 100=c0 at *
  generalize u / 100=u1 at *
  rcases hx with rfl|rfl <;>
  (simp (maxSteps:=9^7) (disch:=try exact zd) [g,c,t1,t2,y1,ya,iI,h1,hn,setG,-getElem?_pos]
   exact fin)
 .have g:¬(2:Int)<=i:=by omega
  have fin:=Sd (A:=A) hn hk hw Q hQ (by omega) (.inr rfl);unfold qB G;rcases hx with rfl|rfl <;>
  (simp (maxSteps:=9^7) (disch:=try exact zd) [g,c,-getElem?_pos]
   exact fin)
theorem WP (hi:i<8):wp (K A) qA Q ⟨[(0,.sc (.vw 0 24 0 n)),(4,intV i),(12,.sc (.c (.int .u32 u)))],[(0,some (arrB w))]⟩:=by
 have h1:=hw.1;have hin:=hw.2.1;by_cases c:4<=i
 .have g:(4:Int)<=i:=by omega
  have ul:=KA hk hw;have ul2:10 ^ i<=10 ^ 7:=Nat.pow_le_pow_right (by omega) (by omega);have t1:Int.tmod (u:Int) 10000=((u % 10000:Nat):Int):=rfl;have t2:Int.tdiv (u:Int) 10000=((u / 10000:Nat):Int):=rfl;have hd:u / 10 / 10 / 10 / 10=u / 10000:=by omega
  generalize hr:u % 10000=r at *
  have t3:Int.tmod (r:Int) 100=((r % 100:Nat):Int):=rfl;have t4:Int.tdiv (r:Int) 100=((r / 100:Nat):Int):=rfl;generalize ha0:r % 100=a0 at *
  generalize ha1:r / 100=a1 at *
  have s2:=CF hn (CF hn hw (j:=i-1) (x:=a0) (by omega) (by omega)) (j:=i-2) (x:=a0 / 10) (by omega) (by omega);have s4:=CF hn (CF hn s2 (j:=i-3) (x:=a1) (by omega) (by omega)) (j:=i-4) (x:=a1 / 10) (by omega) (by omega);rw[hd]at s4;have fin:=Q4 (A:=A) hn hk s4 Q hQ (by omega) (.inl rfl);obtain⟨T,hT⟩:∃T,tabS=T:=⟨_,rfl⟩;obtain⟨y1,y2⟩:=tabT T hT;have ab:a0<100/\a1<100:=by omega
  have ya:=y2 a0 ab.1;have yb:=y2 a1 ab.2;have iI:(i:Int)-1=((i-1:Nat):Int)/\(i:Int)-2=((i-2:Nat):Int)/\(i:Int)-3=((i-3:Nat):Int)/\(i:Int)-4=((i-4:Nat):Int):=by omega
  unfold qA G;rw[hT];clear hT y2 hQ hw s2 s4;generalize u / 10000=u1 at *
  simp(maxSteps:=9^7) (disch:=try exact zd) [g,c,t1,t2,t3,t4,y1,ya,yb,iI,h1,hn,setG,-getElem?_pos];exact fin
 .have g:¬(4:Int)<=i:=by omega
  have fin:=Q4 (A:=A) hn hk hw Q hQ (by omega) (.inr rfl);unfold qA G;simp(maxSteps:=9^7) (disch:=try exact zd) [g,c,-getElem?_pos];exact fin
theorem ZaT (hi:i<8):wp (K A) q190 Q ⟨[(0,.sc (.vw 0 24 0 n)),(1,u64V u),(4,intV i),(20,Ac false)],[(0,some (arrB w))]⟩:=by
 have ul:=KA hk hw;have ul2:10 ^ i<=10 ^ 7:=Nat.pow_le_pow_right (by omega) (by omega);have fin:=WP (A:=A) hn hk hw Q hQ hi;unfold q190 G;simp(maxSteps:=9^7) (disch:=try exact zd) [-getElem?_pos];exact fin
end
theorem W8 (n k:Nat)(hn:n<=24)(hk:k<10 ^ n)(hk2:k<18446744073709551616){w:Str}(hw:w.length=24):
 ∃r,(∃w':Str,w'.length=24/\w'.take n=pd n k/\r=(retV,[arrB w']))/\(K A).call 268 [.sc (.vw 0 24 0 n),u64V k] [arrB w]=some r:=by
 refine fnE v268 ?_;generalize hQ:BP v268.keep [arrB w].length v268.results (fun r=>∃w':Str,w'.length=24/\w'.take n=pd n k/\r=(retV,[arrB w']))=Q;have hret:∀env w' u,FB n k 0 u w'->Q .normal ⟨env,[(0,some (arrB w'))]⟩:=by
  intro env w' u h1;rw[<-hQ];show BP false 1 [] _ .normal _;rw[endsQ_normal];simp[retV,h1.1];exact⟨w',h1.1,by simpa using h1.2.2.2,rfl⟩
 clear hQ;have hcut:=Tt (w:=w) (n:=n) (by omega);rw[ZJ];simp(maxSteps:=9^7) (disch:=try exact zd) [hcut,hw,hn,-getElem?_pos];refine Ak (fun r s=>∃(i u:Nat) (w:Str),i+8*r=n/\FB n k i u w/\s=⟨[(0,.sc (.vw 0 24 0 n)),(1,u64V u),(4,intV i)],[(0,some (arrB w))]⟩) (n / 8)
  ⟨n,k,w,by omega,⟨hw,qg _,by rw[qaQ,Nat.pow_zero,Nat.div_one],by rw[qaQ,qak (by simp;omega)];rfl⟩,rfl⟩ ?_ ?_
 .rintro r s hr ⟨i,u,w,hi,hf,rfl⟩
  refine VB (A:=A) hn (by obtain⟨_,_,rfl,_⟩:=hf;exact Nat.lt_of_le_of_lt (Nat.div_le_self ..) hk2) hf (by omega) _ ?_;intro w' hf';exact .inl ⟨rfl,i-8,_,w',by omega,hf',rfl⟩
 .rintro s ⟨i,u,w,hi,hf,rfl⟩
  have hi8:i<8:=by omega
  have hi8I:¬(8:Int)<=i:=by omega
  have hi8N:¬8<=i:=by omega
  have fin:=ZaT (A:=A) hn hk hf Q hret hi8;unfold Gy;simp(maxSteps:=9^7) (disch:=try exact zd) [hi8,hi8I,hi8N,-getElem?_pos];exact fin
theorem Uw (k:Nat)(hk:k<18446744073709551616):(K A).call 227 [u64V k,intV 10] []=some (strV (numS k),[]):=by
 by_cases h100:k<100
 .exact Zfi k h100
 have h137:(K A).call 248 [u64V k,intV 10] []=some (strV (numS k),[]):=by
  refine fnO v248 ?_;have h1:¬(k:Int)<100:=by omega
  obtain⟨d1,d2,d3,d4⟩:=Za3 (k:=k) (by omega) hk;have hnd:=Vt (A:=A) k hk;obtain⟨_,⟨w',k1,k2,rfl⟩,hc⟩:=W8 (A:=A) (ndig k) k (by omega) d4 hk (w:=List.replicate 24 0) (by simp);have hnum:pd (ndig k) k=numS k:=by
   obtain⟨m,hm⟩:∃m,ndig k=m+1:=⟨ndig k-1,by omega⟩;rw[hm]at d3 d4 |-;exact SB m k d3 d4
  have hpl:=QI (ndig k) k;rw[hnum]at k2 hpl;generalize ndig k=n at *
  generalize hS:numS k=S at *
  have hSn:S≠[]:=by
   intro h0;rw[h0]at hpl;simp at hpl;omega
  have hz:List.replicate 24 [W.c (.int .u8 0)]=wr (B6 (List.replicate 24 0)):=Zfw 24;have hmx:24<=A5:=by decide
  have hzl:(List.replicate 24 (0:UInt8)).length=24:=by simp
  generalize List.replicate 24 (0:UInt8)=z0 at *
  have hcut:=Tt (w:=w') (n:=n) (by omega);rw[k2]at hcut;unfold v248;simp(maxSteps:=9^7) (disch:=try exact zd) [h1,hnd,hz,hmx,hc,hcut,hzl,k1,hSn,retV,V.ren,-getElem?_pos,-List.reduceReplicate]
 refine fnO v227 ?_;unfold v227;simp[h137]
end Go.Vs.Tryz
namespace Go.Vs
open Go
@[simp] theorem b_ifw5 {t:TypeId} {o:Bool} {r:List W}:binV .eql 5 (.sc (.ifw t o r)) (.sc (.c .nilif))=some (.sc (.c (.bool false)),[]):=rfl
@[simp] theorem b_nilif5:binV .eql 5 (.sc (.c .nilif)) (.sc (.c .nilif))=some (.sc (.c (.bool true)),[]):=rfl
end Go.Vs
namespace Go.Vs.Tryz
open Go Go.Vs
variable {A:Af}
abbrev badR (s:Str):V×List Obj:=(.tu [u64V 0,.sc (.ifw 275 true [.ptr 0 0])],[.box [.c (.str [80,97,114,115,101,85,105,110,116]),.c (.str s),.c (errCell Gq)]])
abbrev okR (n:Nat):V×List Obj:=(.tu [u64V n,.sc (.c .nilif)],[])
def Zgn (A:Af)(s:Str)(m:Option Nat):Prop:=∃dg is,(K A).call 225 [strV s,strV [118]] []=some (.tu [strV dg,Ac is],[])/\
 (((∃ s',(K A).call 226 [strV dg,intV 10,intV 64] []=some (badR s'))/\m=none) \/
  (∃n,(K A).call 226 [strV dg,intV 10,intV 64] []=some (okR n)/\is=true/\0<n/\(K A).call 227 [u64V n,intV 10] []=some (strV dg,[])/\m=some n))
def Zgr:List Str:=B8++[[118,51]]
def numN (s:Str):Option Nat:=if s=[118,49] then some 1 else if s=[118,50] then some 2 else if s=[118,51] then some 3 else none
end Go.Vs.Tryz
namespace Go.Vs
open Go
variable {C:Ctx}{E:Nat->Option V}{L:Nat->Option Obj}{oid:Nat}
def ifcK (t:TypeId):V->Option (V×Upd)
 |.sc (.c y)=>some (.sc (.c (.ifc t true [y])),[])
 |.sc w=>bif An w then some (.sc (.ifw t true [w]),[]) else none
 |.ag cs=>match Ab (fun w=>match w with | .c y=>some y | _=>none) cs with
  |some l=>some (.sc (.c (.ifc t false l)),[])
  |none=>some (.sc (.ifw t false cs),[])
 |.tu _=>none
@[simp] theorem ifcK_c {t:TypeId} {y:Cell}:ifcK t (.sc (.c y))=some (.sc (.c (.ifc t true [y])),[]):=rfl
@[simp] theorem ifcK_ptr {t:TypeId} {k o:Nat}:ifcK t (.sc (.ptr k o))=some (.sc (.ifw t true [.ptr k o]),[]):=rfl
@[simp] theorem x_ifc {t:TypeId} {x:Opd}:Ad C E L oid (.ifc t x)=ifcK t (x.val C E):=by
 simp only[Ad];generalize x.val C E=v;cases v with
 |sc w=>cases w<;>rfl
 |_=>rfl
def cvBK:V->Option (V×Upd)
 |.sc (.c (.str s))=>bif Nat.ble s.length A5 then some (.sc (.c (.sl (s.map fun b=>[Cell.int .u8 b.toNat]))),[]) else none
 |_=>none
@[simp] theorem cvBK_str {s:List UInt8} (h:s.length<=A5):cvBK (.sc (.c (.str s)))=some (.sc (.c (.sl (s.map fun b=>[Cell.int .u8 b.toNat]))),[]):=by
 unfold cvBK;simp only;rw[show Nat.ble s.length A5=true from qT h];rfl
@[simp] theorem x_cvB {x:Opd}:Ad C E L oid (.cvB x)=cvBK (x.val C E):=by
 simp only[Ad];generalize x.val C E=v;cases v with
 |sc w=>
  cases w with
  |c y=>cases y<;>rfl
  |_=>rfl
 |_=>rfl
@[simp] theorem b_eq215 {m n:Int}:binV .eql 278 (.sc (.c (.ifc 272 true [.int .i64 m]))) (.sc (.c (.ifc 272 true [.int .i64 n])))=some (.sc (.c (.bool (decide (m=n)))),[]):=by
 simp[binV,binW,Cr];rw[qbq];simp
@[simp] theorem b_neqif5 {t:TypeId} {o:Bool} {r:List Cell}:binV .neq 5 (.sc (.c (.ifc t o r))) (.sc (.c .nilif))=some (.sc (.c (.bool true)),[]):=rfl
@[simp] theorem b_neqnil5:binV .neq 5 (.sc (.c .nilif)) (.sc (.c .nilif))=some (.sc (.c (.bool false)),[]):=rfl
end Go.Vs
namespace Go.Vs.Tryz
open Go Go.Vs
variable {A:Af}
abbrev u8V (n:Nat):V:=.sc (.c (.int .u8 n))
def Mf (r:Option (V×List Obj)):Bool:=match r with
 |some (.sc (.c (.int .u8 j)),[])=>decide (0<=j)&&decide (j<256)
 |_=>false
theorem WE {r:Option (V×List Obj)}(h:Mf r=true):∃j:Nat,j<256/\r=some (u8V j,[]):=by
 unfold Mf at h;split at h
 .rename_i j
  simp only[qe,decide_eq_true_eq]at h;refine⟨j.toNat,by omega,?_⟩;show _=some (V.sc (W.c (Cell.int .u8 ((j.toNat:Nat):Int))),[]);rw[Int.toNat_of_nonneg h.1]
 .cases h
theorem ZbR (m:Nat)(h:m<256):∃j:Nat,j<256/\(K A).call 260 [u8V m] []=some (u8V j,[]):=by
 have h1:(List.range 256).all (fun m=>Mf (Bg T2 (X2 A) gl0 10 260 [u8V m] []))=true:=by kernel_rfl
 obtain⟨j,h2,h3⟩:=WE (Hc h1 h);exact⟨j,h2,D7 h3⟩
inductive PR where
 |ok (n:Nat)
 |syn
 |rng
def Cq:Str->Nat->PR
 |[],n=>.ok n
 |c::r,n=>if 48<=c.toNat/\c.toNat<=57 then
  if 1844674407370955162<=n then .rng else if 18446744073709551616<=n*10+(c.toNat-48) then .rng else Cq r (n*10+(c.toNat-48))
  else .syn
def DE (s:Str):PR:=if s=[] then .syn else Cq s 0
abbrev perr (e:Int):V:=.sc (.c (.ifc 272 true [.int .i64 e]))
def prV:PR->V
 |.ok n=>.tu [u64V n,.sc (.c .nilif)]
 |.syn=>.tu [u64V 0,perr 2]
 |.rng=>.tu [.sc (.c (.int .u64 18446744073709551615)),perr 1]
def Fu (s:Str):List (List Cell):=s.map fun b=>[Cell.int .u8 b.toNat]
@[simp] theorem chrRows_get (s:Str) (i:Nat):(Fu s)[i]?=(s[i]?).map fun b=>[Cell.int .u8 b.toNat]:=by simp[Fu]
@[simp] theorem chrRows_len (s:Str):(Fu s).length=s.length:=by simp[Fu]
abbrev P0 (s:Str)(i n:Nat):Env:=[(1,intV 10),(8,Ac false),(9,strV s),(10,.sc (.c (.int .u64 1844674407370955162))),(11,.sc (.c (.int .u64 18446744073709551615))),(12,Ac false),(13,u64V n),(99,.sc (.c (.sl (Fu s)))),(100,intV s.length),(101,intV i)]
abbrev P1 (s:Str)(i n:Nat):Env:=[(1,intV 10),(8,Ac false),(9,strV s),(10,.sc (.c (.int .u64 1844674407370955162))),(11,.sc (.c (.int .u64 18446744073709551615))),(12,Ac false),(99,.sc (.c (.sl (Fu s)))),(100,intV s.length),(101,intV i),(13,u64V n)]
theorem WI (s:Str)(hl:s.length<=281474976710656):(K A).call 246 [strV s,intV 10,intV 64] []=some (prV (DE s),[]):=by
 refine fnO v246 ?_;unfold v246;by_cases h0:s=[]
 .subst h0
  simp[DE,prV]
 .have hmx:s.length<=A5:=qt hl (by decide)
  have hs0:shlI .u64 1 64=0:=by decide
  have hw0:IntKind.u64.wrap (0-1)=18446744073709551615:=by decide
  have hw1:IntKind.u64.wrap (-1)=18446744073709551615:=by decide
  have hcs:(s.map fun b=>[Cell.int .u8 (b.toNat:Int)])=Fu s:=rfl;generalize hR:DE s=R;unfold DE at hR;rw[if_neg h0]at hR;simp(maxSteps:=9^7) (disch:=try exact zd) [h0,hmx,hs0,hw0,hw1,hcs,-getElem?_pos];refine Ak (fun r t=>∃n,n<18446744073709551616/\Cq (s.drop r) n=R/\(t=⟨P0 s r n,[]⟩\/t=⟨P1 s r n,[]⟩)) s.length ⟨0,by omega,by simpa using hR,.inl (by simp)⟩ ?_ ?_
  .rintro r t hr ⟨n,hn,hp,ht⟩
   obtain⟨c,hc⟩:=Ae (l:=s) (i:=r) hr;have hdrop:s.drop r=c::s.drop (r+1):=by
    obtain⟨h1,h2⟩:=qf.1 hc;rw[qaY h1,h2]
   rw[hdrop,Cq]at hp;have hc256:c.toNat<256:=c.toNat_lt;have hrI:(r:Int)<(s.length:Int):=(by omega);have hcrow:(Fu s)[r]?=some [Cell.int .u8 c.toNat]:=(by simp[hc]);generalize c.toNat=m at *
   unfold Lp;by_cases hd:48<=m/\m<=57
   .rw [if_pos hd] at hp
    obtain⟨hd1,hd2⟩:=hd;have hd1I:(48:Int)<=m:=(by omega);have hd2I:(m:Int)<=57:=(by omega);have h95:¬(m:Int)=95:=(by omega);have h95N:¬m=95:=(by omega);have hmI:(m:Int)-48=((m-48:Nat):Int):=(by omega);have hd9:m-48<=9:=(by omega);generalize m-48=d at *
    have hn10:¬(10:Int)<=d:=(by omega);by_cases hcut:1844674407370955162<=n
    .rw [if_pos hcut] at hp
     subst hp;have hcutI:(1844674407370955162:Int)<=n:=(by omega);rcases ht with rfl|rfl <;>
     simp(maxSteps:=9^7) (disch:=try exact zd) [hcrow,hrI,hr,h95,h95N,hd1I,hd2I,hd1,hd2,hmI,hn10,hcut,hcutI,prV,-getElem?_pos,-chrRows_get]
    .rw [if_neg hcut] at hp
     have hcutI:¬(1844674407370955162:Int)<=n:=(by omega);have hmul:IntKind.u64.wrap ((n:Int)*10)=((n*10:Nat):Int):=by
      rw[show(n:Int)*10=((n*10:Nat):Int) by omega];exact Db _ (by omega)
     have hn10b:n*10<=18446744073709551610:=(by omega);generalize n*10=q at *
     have hwd:IntKind.u64.wrap (d:Int)=d:=Db d (by omega);by_cases hov:18446744073709551616<=q+d
     .rw [if_pos hov] at hp
      subst hp;have hadd:IntKind.u64.wrap ((q:Int)+d)=((q+d-18446744073709551616:Nat):Int):=by
       unfold IntKind.wrap;simp[IntKind.bits,IntKind.signed];omega
      have hlt:((q+d-18446744073709551616:Nat):Int)<(q:Int):=(by omega);have hltN:q+d-18446744073709551616<q:=(by omega);generalize q+d-18446744073709551616=z at *
      rcases ht with rfl|rfl <;>
      simp(maxSteps:=9^7) (disch:=try exact zd) [hcrow,hrI,hr,h95,h95N,hd1I,hd2I,hd1,hd2,hmI,hn10,hcut,hcutI,hmul,hwd,hadd,hlt,hltN,prV,-getElem?_pos,-chrRows_get]
     .rw [if_neg hov] at hp
      have hadd:IntKind.u64.wrap ((q:Int)+d)=((q+d:Nat):Int):=by
       rw[show(q:Int)+d=((q+d:Nat):Int) by omega];exact Db _ (by omega)
      have hge:¬((q+d:Nat):Int)<(q:Int):=(by omega);have hgeN:¬q+d<q:=(by omega);have hzl:q+d<18446744073709551616:=(by omega);generalize q+d=z at *
      have hzm:¬(18446744073709551615:Int)<(z:Int):=(by omega);have hzmN:¬18446744073709551615<z:=(by omega);have fin:∃n,n<18446744073709551616/\Cq (s.drop (r+1)) n=R/\((⟨P1 s (r+1) z,[]⟩:St)=⟨P0 s (r+1) n,[]⟩\/(⟨P1 s (r+1) z,[]⟩:St)=⟨P1 s (r+1) n,[]⟩):=⟨z,hzl,hp,.inr rfl⟩;rcases ht with rfl|rfl <;>
      (simp (maxSteps:=9^7) (disch:=try exact zd) [hcrow,hrI,hr,h95,h95N,hd1I,hd2I,hd1,hd2,hmI,hn10,hcut,hcutI,hmul,hwd,hadd,hge,hgeN,hzm,hzmN,-getElem?_pos,-chrRows_get]
       simpa[-chrRows_get]using fin)
   .rw [if_neg hd] at hp
    subst hp;obtain⟨j,hj,hlow⟩:=ZbR (A:=A) m hc256;have h10:(97:Int)<=j->(10:Int)<=(j:Int)-97+10:=fun h=>by omega
    obtain⟨b,hb⟩:∃b,decide ((m:Int)=95)=b:=⟨_,rfl⟩;cases b<;>by_cases h48:(48:Int)<=m<;>by_cases h57:(m:Int)<=57<;>by_cases h97:(97:Int)<=j<;>by_cases h122:(j:Int)<=122 <;>
    first
    |(exfalso;omega)
    | (rcases ht with rfl | rfl <;>
       simp(maxSteps:=9^7) (disch:=try exact zd) [hcrow,hrI,hr,hlow,hb,h48,h57,h97,h122,h10,prV,-getElem?_pos,-chrRows_get])
  .rintro t ⟨n,hn,hp,ht⟩
   rw[qaL]at hp;subst hp;unfold Lp;rcases ht with rfl|rfl <;>
   simp(maxSteps:=9^7) (disch:=try exact zd) [Cq,prV,-getElem?_pos,-chrRows_get]
end Go.Vs.Tryz
namespace Go.Vs
open Go
@[simp] theorem refs_ifw {t:TypeId} {o:Bool} {row:List W}:W.refs 4 (.ifw t o row)=row.flatMap (W.refs 3):=rfl
@[simp] theorem ren_ifw {ρ:Nat->Option Nat} {t:TypeId} {o:Bool} {row:List W}:W.ren ρ 4 (.ifw t o row)=.ifw t o (row.map (W.ren ρ 3)):=rfl
@[simp] theorem refs3_ptr {k o:Nat}:W.refs 3 (.ptr k o)=[k]:=rfl
@[simp] theorem ren3_ptr {ρ:Nat->Option Nat} {k o:Nat}:W.ren ρ 3 (.ptr k o)=match ρ k with | some j=>.ptr j o | none=>.un:=rfl
end Go.Vs
namespace Go.Vs.Tryz
open Go Go.Vs
variable {A:Af}
theorem RF (s:Str)(h:s.length<=281474976710656):(K A).call 284 [strV s] []=some (strV s,[]):=by
 have hT:T2 284=none:=by kernel_rfl
 have hs:skip 284=false:=rfl;refine D7 (n:=1) ?_;simp only[Bg,hT];unfold X2;rw[hs];simp only[cond_false,X1];rw[show(284==284&&Nat.ble s.length 281474976710656)=true by simp;omega];rfl
theorem Wt (f s:Str)(h:s.length<=281474976710656):∃e,(K A).call 262 [strV f,strV s] []=some (.sc (.ptr 0 0),[.box [.c (.str f),.c (.str s),.c e]]):=by
 have hc:=RF (A:=A) s h;have hg:gl0 0=[errCell Gq]:=rfl;refine⟨errCell Gq,?_⟩;refine fnO v262 ?_;unfold v262;generalize errCell Gq=e at *
 simp[hc,hg,Opd.val,V.ren]
theorem Wh (f s:Str)(h:s.length<=281474976710656):∃e,(K A).call 263 [strV f,strV s] []=some (.sc (.ptr 0 0),[.box [.c (.str f),.c (.str s),.c e]]):=by
 have hc:=RF (A:=A) s h;have hg:gl0 1=[errCell HR]:=rfl;refine⟨errCell HR,?_⟩;refine fnO v263 ?_;unfold v263;generalize errCell HR=e at *
 simp[hc,hg,Opd.val,V.ren]
theorem Ug (f s:Str)(h:s.length<=281474976710656)(n:Int)(he:n=1\/n=2):∃e,(K A).call 247 [strV f,strV s,intV 10,intV 64,perr n] []=some (.sc (.ifw 275 true [.ptr 0 0]),[.box [.c (.str f),.c (.str s),.c e]]):=by
 obtain⟨l1,h1⟩:=Wt (A:=A) f s h;obtain⟨l2,h2⟩:=Wh (A:=A) f s h;rcases he with rfl|rfl
 .refine ⟨l2,?_⟩
  refine fnO v247 ?_;unfold v247;simp[h2,V.ren]
 .refine ⟨l1,?_⟩
  refine fnO v247 ?_;unfold v247;simp[h1,V.ren]
def Par (p:PR)(r:V×List Obj):Prop:=match p with
 |.ok n=>r=okR n
 |_=>∃(x:Int) (l:List W),r=(.tu [.sc (.c (.int .u64 x)),.sc (.ifw 275 true [.ptr 0 0])],[.box l])
theorem Zda (s:Str)(h:s.length<=281474976710656):∃r,Par (DE s) r/\(K A).call 226 [strV s,intV 10,intV 64] []=some r:=by
 have hc:=WI (A:=A) s h;obtain⟨l1,h1⟩:=Ug (A:=A) [80,97,114,115,101,85,105,110,116] s h 1 (.inl rfl);obtain⟨l2,h2⟩:=Ug (A:=A) [80,97,114,115,101,85,105,110,116] s h 2 (.inr rfl);generalize DE s=p at *
 cases p with
 |ok n=>
  refine⟨okR n,rfl,?_⟩;refine fnO v226 ?_;unfold v226;simp only[prV]at hc;simp[hc]
 |syn=>
  refine⟨(.tu [u64V 0,.sc (.ifw 275 true [.ptr 0 0])],[.box [.c (.str [80,97,114,115,101,85,105,110,116]),.c (.str s),.c l2]]),⟨_,_,rfl⟩,?_⟩;refine fnO v226 ?_;unfold v226;simp only[prV]at hc;simp[hc,h2,V.ren]
 |rng=>
  refine⟨(.tu [.sc (.c (.int .u64 18446744073709551615)),.sc (.ifw 275 true [.ptr 0 0])],[.box [.c (.str [80,97,114,115,101,85,105,110,116]),.c (.str s),.c l1]]),⟨_,_,rfl⟩,?_⟩;refine fnO v226 ?_;unfold v226;simp only[prV]at hc;simp[hc,h1,V.ren]
def cutV:Str->Str×Bool
 |[]=>([],false)
 |c::r=>if c=118 then (r,true) else (c::r,false)
theorem U6 (s:Str):(cutV s).1.length<=s.length:=by
 cases s with
 |nil=>simp[cutV]
 |cons c r=>
  simp only[cutV];split<;>simp
theorem NY (n:Nat):AQ (some (.sc (.c (.int .i64 1)))) (n+1) (n+1)=some 1:=by
 show(bif Nat.blt 1 (n+1+1) then some 1 else none)=_;rw[show Nat.blt 1 (n+1+1)=true from qT (by omega)];rfl
theorem YA (n:Nat):AQ (some (.sc (.c (.int .i64 1)))) 0 (n+1)=some 1:=NY n
theorem PM (n:Nat):AQ none 0 n=some 0:=by
 show(bif Nat.ble 0 n then some 0 else none)=_;rw[show Nat.ble 0 n=true from qT (qac _)];rfl
theorem Y9 (n:Nat):AQ none n n=some n:=by
 show(bif Nat.ble n n then some n else none)=_;rw[show Nat.ble n n=true from qT (qg _)];rfl
theorem Yw (s:Str)(h:s.length<=281474976710656):(K A).call 225 [strV s,strV [118]] []=some (.tu [strV (cutV s).1,Ac (cutV s).2],[]):=by
 have h181:(K A).call 259 [strV s,strV [118]] []=some (Ac (cutV s).2,[]):=by
  refine fnO v259 ?_;unfold v259;cases s with
  |nil=>simp[cutV]
  |cons c r=>
   have hl:(1:Int)<=(r.length:Int)+1:=(by omega);by_cases hc:c=118
   .subst hc
    simp[cutV,hl,NY,PM,ownV]
   .simp[cutV,hl,hc,NY,PM,ownV]
 have h134:(K A).call 245 [strV s,strV [118]] []=some (.tu [strV (cutV s).1,Ac (cutV s).2],[]):=by
  refine fnO v245 ?_;unfold v245;cases s with
  |nil=>
   simp only[cutV]at h181 |-;simp[h181]
  |cons c r=>
   by_cases hc:c=118
   .subst hc
    simp only[cutV,if_true]at h181 |-;simp[h181,YA,Y9]
   .simp only [cutV,hc,if_false] at h181 |-
    simp[h181]
 refine fnO v225 ?_;unfold v225;simp[h134]
def numT (s:Str):Option Nat:=if (cutV s).2=true then
 match DE (cutV s).1 with
 |.ok k=>if 0<k/\numS k=(cutV s).1 then some k else none
 |_=>none
 else none
def KT (c:UInt8)(n:Nat):PR:=if 48<=c.toNat/\c.toNat<=57 then
 if 1844674407370955162<=n then .rng else if 18446744073709551616<=n*10+(c.toNat-48) then .rng else .ok (n*10+(c.toNat-48))
 else .syn
theorem Sc (c:UInt8):∀(a:Str)(n m:Nat),Cq a n=.ok m->Cq (a++[c]) n=KT c m
 |[],n,m,h=>by
  simp only[Cq]at h;cases h;simp only[qah,Cq,KT]
 |x::a,n,m,h=>by
  simp only[Cq,qbh]at h |-;split at h
  .rename_i h1
   rw[if_pos h1];split at h
   .cases h
   .rename_i h2
    rw[if_neg h2];split at h
    .cases h
    .rename_i h3
     rw[if_neg h3];exact Sc c a _ m h
  .cases h
theorem M9 {d:Nat}(h:d<10):(UInt8.ofNat (48+d)).toNat=48+d:=by
 rw[UInt8.toNat_ofNat',qas (by omega)]
theorem Zck:∀(f k:Nat),k<=f->k<18446744073709551616->Cq (numS k) 0=.ok k:=by
 intro f
 induction f with
 |zero=>
  intro k hk _;obtain rfl:k=0:=by omega
  rw[EB (by omega)];have:=M9 (d:=0) (by omega);simp only[Cq,this];simp
 |succ f ih=>
  intro k hk hb;by_cases h10:k<10
  .rw [EB h10]
   have:=M9 h10;simp only[Cq,this];rw[if_pos (by omega),if_neg (by omega),if_neg (by omega)];congr 1;omega
  .rw [Ey h10,Sc _ _ _ (k / 10) (ih (k / 10) (by omega) (by omega))]
   have:=M9 (d:=k % 10) (by omega);unfold KT;rw[this,if_pos (by omega),if_neg (by omega),if_neg (by omega)];congr 1;omega
theorem N7:∀(a:Str)(n m:Nat),n<18446744073709551616->Cq a n=.ok m->m<18446744073709551616
 |[],n,m,hn,h=>by
  simp only[Cq]at h;cases h;exact hn
 |x::a,n,m,hn,h=>by
  simp only[Cq]at h;split at h
  .split at h
   .cases h
   .split at h
    .cases h
    .rename_i h3
     exact N7 a _ m (by omega) h
  .cases h
theorem OK {s:Str}{k:Nat}(hk:k<18446744073709551616):numT s=some k↔1<=k/\AJ k=s:=by
 constructor
 .intro h
  unfold numT at h;split at h
  .rename_i hc
   split at h
   .rename_i m hp
    split at h
    .rename_i hm
     cases h;refine⟨hm.1,?_⟩;cases s with
     |nil=>simp[cutV]at hc
     |cons c r=>
      simp only[cutV]at hc hm;by_cases hc1:c=118
      .rw [if_pos hc1] at hm
       rw[hc1];unfold AJ;rw[hm.2]
      .rw [if_neg hc1] at hc
       cases hc
    .cases h
   .cases h
  .cases h
 .rintro ⟨h1,rfl⟩
  have hc:cutV (AJ k)=(numS k,true):=by simp[cutV,AJ]
  have hne:numS k≠[]:=by
   intro h0;have:=Zce k;rw[h0]at this;simp at this
  unfold numT;rw[hc];simp only[if_true,DE,hne,if_false,Zck k k (qg _) hk];rw[if_pos ⟨h1,trivial⟩]
theorem Sr {s:Str}{k:Nat}(h:numT s=some k):k<18446744073709551616:=by
 unfold numT at h;split at h
 .split at h
  .rename_i m hp
   split at h
   .cases h
    unfold DE at hp;split at hp
    .cases hp
    .exact N7 _ 0 _ (by omega) hp
   .cases h
  .cases h
 .cases h
variable {A:Af}
theorem VO {taken:List Str}{l:List Nat}(hl:GG l)(hpos:∀x∈l,1<=x)(n:Nat)(hmem:∀k,k<=n+1+l.length->(k∈l↔1<=k/\AJ k∈taken)):l.foldl bump (n+1)=BR n taken:=by
 obtain⟨h1,h2⟩:=Pt hl n l.length (qg _);rw[qbm]at h1 h2;generalize l.foldl bump (n+1)=k at h1 h2;have hbl:DH l k<=l.length:=List.length_filter_le ..;have hk1:1<=k:=by omega
 have hkb:k<=n+1+l.length:=by omega
 refine(Pr hk1 (fun h=>h2 ((hmem k hkb).2 ⟨hk1,h⟩)) ?_).symm;have key:∀b,1<=b->b<=k->Cs taken 1 b+DH l b=b-1:=by
  intro b hb hbk
  induction b with
  |zero=>omega
  |succ b ih=>
   rcases Nat.eq_zero_or_pos b with h0|h0
   .subst h0
    rw[KD];unfold DH;simp only[qaF,qaU,qaQ,qN,List.filter_eq_nil_iff];intro x hx;have:=hpos x hx;simp only[decide_eq_true_eq];omega
   .have ih:Cs taken 1 b+DH l b=b-1:=ih h0 (by omega)
    have h9:b+1-1=b:=(by omega);rw[h9];rw[Fy _ _ _ (show 1<=b from h0),SN (VY hl)];by_cases hb:AJ b∈taken
    .rw [if_neg (by simpa using hb),if_pos ((hmem b (by omega)).2 ⟨h0,hb⟩)]
     omega
    .rw [if_pos hb,if_neg (fun h=>hb ((hmem b (by omega)).1 h).2)]
     omega
 have:=key k hk1 (qg _);omega
def DX (taken:List Str):List Nat:=taken.filterMap numT
theorem PJ (taken:List Str):(DX taken).length<=taken.length:=List.length_filterMap_le ..
theorem ZH {taken:List Str}{r:Nat}{s:Str}(h:taken[r]?=some s):DX (taken.take (r+1))=DX (taken.take r)++(numT s).toList:=by
 unfold DX;rw[Bh h,List.filterMap_append];cases hn:numT s<;>simp[hn]
abbrev F28 (n:Int)(taken:List Str)(r:Nat)(u:List Nat):St:=⟨[(0,intV n),(5,.sc (.arr 129 u.length)),(15,AM taken),(16,intV taken.length),(17,intV r)],[(129,some (arrU u))]⟩
theorem ZdX (n:Int)(taken:List Str)(ht:taken.length<=687194767360)(hs:∀s∈taken,s.length<=281474976710656){r:Nat}{s:Str}(hr:taken[r]?=some s)(u:List Nat)(hu:u.length<=r)(Q:Ex->St->Prop)
 (hQ:Q .normal (F28 n taken (r+1) (u++(numT s).toList))):wp (K A) Hg Q (F28 n taken r u):=by
 have hrl:r<taken.length:=(qf.1 hr).1;have hsl:=hs s (qc hr);have hc:=Yw (A:=A) s hsl;have hcl:=U6 s;obtain⟨_,hp,hcall⟩:=Zda (A:=A) (cutV s).1 (by omega);have hrI:(r:Int)<taken.length:=by omega
 unfold numT at hQ;generalize cutV s=cv at *
 obtain⟨dg,is⟩:=cv;simp only at *
 generalize hpd:DE dg=p at *
 have hlt:∀k,p=.ok k->k<18446744073709551616:=by
  intro k hk;rw[hk]at hpd;unfold DE at hpd;split at hpd
  .cases hpd
  .exact N7 _ 0 _ (by omega) hpd
 unfold Hg;cases p with
 |ok k=>
  simp only[Par]at hp;subst hp;have hk:=hlt k rfl;have hf:=Uw (A:=A) k hk;cases is with
  |false=>
   simp only[qx,if_false,Option.toList_none,qL]at hQ;simp(maxSteps:=9^7) (disch:=try exact zd) [hr,hrl,hrI,hc,hcall,hf,-getElem?_pos];exact hQ
  |true=>
   simp only[if_true]at hQ;by_cases hk0:0<k
   .have hk0I:(0:Int)<k:=by omega
    by_cases hd:numS k=dg
    .rw [if_pos ⟨hk0,hd⟩] at hQ
     have e1:(u++[k]).length=u.length+1:=(by simp);simp only[Option.toList_some,F28,e1]at hQ;simp(maxSteps:=9^7) (disch:=try exact zd) [hr,hrl,hrI,hc,hcall,hf,hk0,hk0I,hd,-getElem?_pos];exact hQ
    .rw [if_neg (fun h=>hd h.2)] at hQ
     simp only[Option.toList_none,qL]at hQ;simp(maxSteps:=9^7) (disch:=try exact zd) [hr,hrl,hrI,hc,hcall,hf,hk0,hk0I,hd,-getElem?_pos];exact hQ
   .obtain rfl:k=0:=by omega
    rw[if_neg (fun h=>hk0 h.1)]at hQ;simp only[Option.toList_none,qL]at hQ;simp(maxSteps:=9^7) (disch:=try exact zd) [hr,hrl,hrI,hc,hcall,hf,-getElem?_pos];exact hQ
 |syn=>
  simp only[Par]at hp;obtain⟨x,bl,rfl⟩:=hp;have hQ':Q .normal (F28 n taken (r+1) u):=by cases is<;>simpa using hQ
  cases is <;>
  (simp (maxSteps:=9^7) (disch:=try exact zd) [hr,hrl,hrI,hc,hcall,V.ren,-getElem?_pos]
   exact hQ')
 |rng=>
  simp only[Par]at hp;obtain⟨x,bl,rfl⟩:=hp;have hQ':Q .normal (F28 n taken (r+1) u):=by cases is<;>simpa using hQ
  cases is <;>
  (simp (maxSteps:=9^7) (disch:=try exact zd) [hr,hrl,hrI,hc,hcall,V.ren,-getElem?_pos]
   exact hQ')
def VT (n q:Nat)(v:V):Prop:=(q=n/\v=.sc (.arr 129 n))\/v=.sc (.vw 129 n 0 q)
theorem ZbZ (l d:List Nat)(q:Nat)(hq:d.take q=l)(hql:q<=d.length)(hl:d.length<=687194767360)(k0:Nat)(hk0:k0<=687194767360){v:V}(hv:VT d.length q v):
 wp (K A) (.loop IE) (fun x s'=>x=.exit 2/\s'=⟨[(12,u64V (l.foldl bump k0)),(58,v),(59,intV q),(60,intV q),(61,Ac false)],[(129,some (arrU d))]⟩)
  ⟨[(12,u64V k0),(58,v),(59,intV q),(60,intV 0)],[(129,some (arrU d))]⟩:=by
 have hll:l.length=q:=by rw[<-hq];simp;omega
 refine Ak (fun r s=>(l.take r).foldl bump k0<=k0+r/\s=⟨[(12,u64V ((l.take r).foldl bump k0)),(58,v),(59,intV q),(60,intV r)],[(129,some (arrU d))]⟩) q ⟨by simp,by simp⟩ ?_ ?_
 .rintro r s hr ⟨hb,rfl⟩
  obtain⟨x,hx⟩:=Ae (l:=l) (i:=r) (by omega);have hxd:d[r]?=some x:=by
   rw[<-hq,qW,if_pos hr]at hx;exact hx
  have hstep:(l.take (r+1)).foldl bump k0=bump ((l.take r).foldl bump k0) x:=by
   rw[Bh hx,qbe];rfl
  have hrI:(r:Int)<q:=by omega
  have hrd:r<d.length:=by omega
  rw[hstep];generalize (l.take r).foldl bump k0=k at *
  unfold bump;unfold IE;by_cases hxk:x<=k
  .have hw:IntKind.u64.wrap ((k:Int)+1)=((k+1:Nat):Int):=Db (k+1) (by omega)
   rw[if_pos hxk];rcases hv with ⟨rfl,rfl⟩|rfl <;>
   (simp (maxSteps:=9^7) (disch:=try exact zd) [hr,hrI,hql,hxd,hrd,hxk,-getElem?_pos]
    try omega)
  .rw [if_neg hxk]
   rcases hv with ⟨rfl,rfl⟩|rfl <;>
   (simp (maxSteps:=9^7) (disch:=try exact zd) [hr,hrI,hql,hxd,hrd,hxk,-getElem?_pos]
    try omega)
 .rintro s ⟨hb,rfl⟩
  rw[show l.take q=l by rw[qj (by omega)]];unfold IE;simp(maxSteps:=9^7) (disch:=try exact zd) [-getElem?_pos]
theorem Su (z:Int)(n:Nat)(hz:(n:Int)=max z 0)(hz1:-618475290624<=z)(taken:List Str)(hn:n<=618475290624)(ht:taken.length<=618475290624)(hs:∀s∈taken,s.length<=281474976710656):
 (K A).call 207 [intV z,AM taken] []=some (strV (AI n taken),[]):=by
 refine fnO v207 ?_;have hul:=PJ taken;obtain⟨_,⟨d,hsort,rfl⟩,hc76⟩:=U8 (A:=A) (DX taken) (by omega);have hdl:d.length=(DX taken).length:=hsort.len;obtain⟨_,⟨q,d',hd',hq,htk,hres⟩,hc77⟩:=Wn (A:=A) d (by omega);have hsd:M6 0 d.length d:=by rw[hdl];exact hsort.2.2
 have hasc:=P9 hsd d.length;have hmemD:∀k,k∈Be d d.length↔k∈DX taken:=by
  intro k;rw[Mm,<-hsort.1.mem_iff];constructor
  .rintro ⟨j,_,hj⟩
   exact qc hj
  .intro h
   obtain⟨j,hj⟩:=qn.1 h;exact⟨j,(qf.1 hj).1,hj⟩
 have hlen:=Qi d d.length;have hfold:(Be d d.length).foldl bump (n+1)=BR n taken:=by
  refine VO hasc (fun x hx=>?_) n (fun k hk=>?_)
  .obtain ⟨s,_,h2⟩:=List.mem_filterMap.1 ((hmemD x).1 hx)
   exact((OK (Sr h2)).1 h2).1
  .rw [hmemD]
   constructor
   .intro h
    obtain⟨s,h1,h2⟩:=List.mem_filterMap.1 h;obtain⟨h3,h4⟩:=(OK (Sr h2)).1 h2;exact⟨h3,by rw[h4];exact h1⟩
   .rintro ⟨h1,h2⟩
    exact List.mem_filterMap.2 ⟨AJ k,h2,(OK (by omega)).2 ⟨h1,rfl⟩⟩
 have hkle:=N5 n taken;generalize hu:DX taken=used at *
 generalize hl:Be d d.length=l at *
 have hmx:(if (0:Int)>z then (0:Int) else z)=n:=by split<;>omega
 have hmx2:(if z<(0:Int) then (0:Int) else z)=n:=by split<;>omega
 have hfmt:=Uw (A:=A) (BR n taken) (by omega);have hnl:=LV (BR n taken) 20 (by omega) (by omega);unfold v207;simp(maxSteps:=9^7) (disch:=try exact zd) [-getElem?_pos];refine Ak (fun r s=>s=F28 z taken r (DX (taken.take r))) taken.length (by simp[F28,DX];rfl) ?_ ?_
 .rintro r s hr rfl
  obtain⟨s,hsr⟩:=Ae (l:=taken) (i:=r) hr;have hul:=PJ (taken.take r);refine ZdX (A:=A) z taken (by omega) hs hsr _ (by simp at hul;omega) _ ?_;exact .inl ⟨rfl,by rw[ZH hsr]⟩
 .rintro s rfl
  rw[qbm,hu];have hul1:(used:List Nat).length<=618475290624:=by omega
  rw[<-hdl]at hc76;have hn1:IntKind.u64.wrap (n:Int)=(n:Int):=Db n (by omega);have hn2:IntKind.u64.wrap ((n:Int)+1)=((n+1:Nat):Int):=Db (n+1) (by omega);have hf:=fun v hv=>ZbZ (A:=A) l d' q htk (by omega) (by omega) (n+1) (by omega) (v:=v) hv;rw[hfold,hd']at hf;have hd'l:d'.length=d.length:=hd';have hqI:q<=d.length:=hq
  have hF:F28 z taken taken.length used=⟨[(0,intV z),(5,.sc (.arr 129 d.length)),(15,AM taken),(16,intV taken.length),(17,intV taken.length)],[(129,some (arrU used))]⟩:=by rw[hdl]
  rw[hF];have hv:∀r:Str,AI n taken=118::numS (BR n taken):=fun _=>rfl;have hvs:AI n taken=118::numS (BR n taken):=rfl;rw[hvs];generalize BR n taken=k at *
  generalize numS k=S at *
  generalize hdN:d.length=N at *
  unfold Hg;rcases hres with ⟨rfl,rfl⟩|rfl
  .have hf1:=hf _ (.inl ⟨rfl,rfl⟩)
   simp(maxSteps:=9^7) (disch:=try exact zd) [hc76,hc77,hmx,hmx2,hn1,hn2,hdl.symm,hdN,hd'l,retV,V.ren,-getElem?_pos];refine wp_mono hf1 ?_;rintro _ _ ⟨rfl,rfl⟩;simp(maxSteps:=9^7) (disch:=try exact zd) [hfmt,-getElem?_pos]
  .have hf1:=hf _ (.inr rfl)
   obtain⟨cs,hcut⟩:=NF (l:=wr (B0 d')) (o:=0) (n:=q) (by simp;omega);simp(maxSteps:=9^7) (disch:=try exact zd) [hc76,hc77,hmx,hmx2,hn1,hn2,hdl.symm,hdN,hd'l,hqI,hcut,retV,V.ren,-getElem?_pos];refine wp_mono hf1 ?_;rintro _ _ ⟨rfl,rfl⟩;simp(maxSteps:=9^7) (disch:=try exact zd) [hfmt,-getElem?_pos]
end Go.Vs.Tryz
namespace Go.Vs
end Go.Vs
namespace Go.Vs.Tryz
open Go Go.Vs
variable {A:Af}
def nmAt (taken:List Str)(e:Exp)(n:Nat):Nat->Str
 |0=>e.name
 |i+1=>if e.kind≠8/\e.bound i≠[] then AI n taken else nmAt taken e n i
def Zga (taken:List Str)(e:Exp)(n i:Nat):List (ArmH×Exp):=(LT taken n e.arms).take (i-e.kids.length)++e.arms.drop (i-e.kids.length)
abbrev D93 (l:List (Str×Str))(taken:List Str)(N i:Nat):Env:=[(1,Xz l),(2,AM taken),(3,.sc (.ptr 64 0)),(6,.sc (.ptr 128 0)),(9,.sc (.arr 1440 N)),(10,.sc (.ptr 1728 0)),(39,.sc (.arr 1440 N)),(40,intV N),(41,intV i)]
variable {A:Af}
theorem Ze9 {l:List Str}(h:l≠[]):∃c rows,Aq l=c::rows:=by
 cases l with
 |nil=>exact absurd rfl h
 |cons e r=>exact⟨E5 e,Aq r,rfl⟩
theorem ZdQ (l:List Str)(hl:l.length<=1649267441664):(K A).call 244 [AM l] []=some (.sc (.arr 0 l.length),[.arr 1 (wr (Aq l)) 0]):=by
 by_cases h:l=[]
 .subst h
  exact SK (by kernel_rfl) (by kernel_rfl) (by kernel_rfl) (by kernel_rfl)
 .obtain ⟨c,rows,hr⟩:=Ze9 h
  have hlen:rows.length+1=l.length:=by
   have:=strRows_len l;rw[hr]at this;simpa using this
  have hok:AW 1 (wr (c::rows))=true:=hr▸okRows_str l;have hp:AM l=V.sc (.c (.sl (c::rows))):=by rw[<-hr]
  rw[hr,hp,Oi (by kernel_rfl) (by kernel_rfl)];refine Oc (vf:=v244) (by kernel_rfl) rfl (by decide) ?_;unfold v244;rw[wr_cons]at hok;simp(disch:=try exact zd) [hok];omega
theorem XM {e:Exp}(h:e.kind≠8)(i:Nat):e.bound i=[]\/e.bound i=[e.name]:=by
 unfold Exp.bound;split
 .exact .inr rfl
 .rw [if_neg (fun c=>h c.1)]
  exact .inl rfl
def AN (e:Exp)(cs:List Exp):Exp:=.mk e.kind e.pos e.name e.num (cs.take e.kids.length) (AE e.arms (cs.drop e.kids.length)) e.ty
theorem BX {e:Exp}{cs:List Exp}(h:cs.length=e.kids.length+e.arms.length):
 (AN e cs).kids.length=e.kids.length/\(AN e cs).arms.length=e.arms.length/\(AN e cs).children=cs/\(∀i:Nat,((AN e cs).arms[i]?).map (·.1)=(e.arms[i]?).map (·.1)):=by
 have hal:(AE e.arms (cs.drop e.kids.length)).length=e.arms.length:=by simp_all
 refine⟨?_,hal,?_,fun i=>?_⟩
 .show (cs.take e.kids.length).length=_
  grind
 .show cs.take e.kids.length++(AE e.arms (cs.drop e.kids.length)).map (·.2)=cs
  have:(AE e.arms (cs.drop e.kids.length)).map (·.2)=cs.drop e.kids.length:=by
   grind[AE,Rc]
  simp_all
 .show ((AE e.arms (cs.drop e.kids.length))[i]?).map (·.1)=_
  grind[AE]
theorem HT {e:Exp}{cs:List Exp}(h:cs.length=e.kids.length+e.arms.length)(i:Nat):(AN e cs).bound i=e.bound i:=by
 have h4:=(BX h).2.2.2 (i-1);rw[Bt,Bt];have k:(AN e cs).kind=e.kind:=rfl;have n:(AN e cs).name=e.name:=rfl;grind
theorem Mv {e:Exp}{cs:List Exp}(h:cs.length=e.kids.length+e.arms.length):headEq e (AN e cs)/\Fz e (AN e cs):=by
 obtain⟨h1,h2,h3,h4⟩:=BX h;refine⟨⟨rfl,rfl,rfl,h1.symm,h2.symm⟩,fun i p q hp hq=>?_⟩;grind
theorem Nf {e:Exp}{cs:List Exp}(h:cs.length=e.kids.length+e.arms.length)(hk:e.kind≠1)(hs:shp1 e)(hc:∀c∈cs,shp c):shp (AN e cs):=by
 rw[DD];exact⟨(Mv h).1.shp1 hk hs,by grind[BX]⟩
theorem PI {e:Exp}{cs:List Exp}(h:cs.length=e.kids.length+e.arms.length):(AN e cs).weight=1+(e.arms.map fun a=>a.1.vars.length).sum+(cs.map Exp.weight).sum:=by
 obtain⟨h1,h2,h3,h4⟩:=BX h;rw[Exp.weight_eq,h3];congr 2;congr 1;refine qJ fun i=>?_;grind
def allF (e:Exp)(l:List (List Str)):List Str:=e.name::(l.zipIdx.map fun p=>e.bound p.2++p.1).flatten
def allP (e:Exp):List Str:=e.fold allF
theorem OQ (e:Exp):allP e=e.name::((e.children.map allP).zipIdx.map fun p=>e.bound p.2++p.1).flatten:=Exp.fold_eq _ e
theorem A3 {e:Exp}{s:Str}:s∈allP e↔s=e.name\/∃(i:Nat)(x:Exp),e.children[i]?=some x/\(s∈e.bound i\/s∈allP x):=by
 rw[OQ,qD];refine or_congr_right ?_;rw[List.mem_flatten];constructor;grind
 .rintro ⟨i,x,hx,hs⟩
  refine⟨e.bound i++allP x,qH.2 ⟨(allP x,i),qar.2 ?_,rfl⟩,qp.2 hs⟩;grind
theorem MY (e:Exp):∀s∈Ag e,s∈allP e:=by
 induction e using Exp.ind<;>grind[Cu,A3,B3]
def CT (frm to:Str)(e:Exp)(l:List Exp):Exp:=
 if e.kind=1 then (if e.name=frm then .mk e.kind e.pos to e.num e.kids e.arms e.ty else e)
 else AN e ((e.children.zip l).zipIdx.map fun p=>if frm∈e.bound p.2 then p.1.1 else p.1.2)
def repl (frm to:Str)(e:Exp):Exp:=e.fold (CT frm to)
def CE (frm to:Str)(e:Exp):List Exp:=e.children.zipIdx.map fun p=>if frm∈e.bound p.2 then p.1 else repl frm to p.1
@[simp] theorem replC_len (frm to:Str) (e:Exp):(CE frm to e).length=e.kids.length+e.arms.length:=by simp[CE]
theorem DO {frm to:Str}{e x:Exp}{i:Nat}(h:e.children[i]?=some x):(CE frm to e)[i]?=some (if frm∈e.bound i then x else repl frm to x):=by
 simp[CE,h]
theorem EF {frm to:Str}{e:Exp}(h:e.kind=1):repl frm to e=if e.name=frm then .mk e.kind e.pos to e.num e.kids e.arms e.ty else e:=by
 grind[repl,Exp.fold_eq,CT]
theorem Eg {frm to:Str}{e:Exp}(h:e.kind≠1):repl frm to e=AN e (CE frm to e):=by
 unfold repl;rw[Exp.fold_eq,CT,if_neg h];congr 1;refine qJ fun i=>?_;rw[qq,qaB];by_cases hi:i<e.children.length
 .obtain ⟨x,hx⟩:=Ae hi
  have hz:(e.children.zip (e.children.map (Exp.fold (CT frm to))))[i]?=some (x,repl frm to x):=by
   rw[List.getElem?_zip_eq_some];exact⟨hx,by rw[qq,hx];rfl⟩
  grind[DO]
 simp_all
theorem QD (frm to:Str)(e:Exp):(repl frm to e).weight=e.weight:=by
 induction e using Exp.ind with
 |h e ih=>
  by_cases hk:e.kind=1
  .rw [EF hk]
   split
   .rw [Exp.weight_eq,e.weight_eq]
    rfl
   .rfl
  .rw [Eg hk,PI (replC_len _ _ _),e.weight_eq]
   congr 1;congr 1;refine qJ fun i=>?_;rw[qq,qq];by_cases hi:i<e.children.length;grind[DO];simp_all
theorem Rg (frm to:Str)(e:Exp):shp e->shp (repl frm to e):=by
 induction e using Exp.ind with
 |h e ih=>
  intro hs;by_cases hk:e.kind=1
  .rw [EF hk]
   split
   .rw [DD]
    exact⟨hs.one,fun x hx=>hs.child hx⟩
   omega
  .rw [Eg hk]
   refine Nf (replC_len _ _ _) hk hs.one fun c hc=>?_;obtain⟨i,hi⟩:=qn.1 hc;obtain⟨x,hx⟩:=Ae (l:=e.children) (i:=i) (by have:=(qf.1 hi).1;simp_all);rw[DO hx]at hi;cases hi;have hm:=qc hx;split
   .exact hs.child hm
   .exact ih x hm (hs.child hm)
def renV (frm to:Str):Rep:=ofR fun s t=>t=if s=frm then to else s
theorem Lg (frm to:Str)(e:Exp):shp e->to∉allP e->instR e (repl frm to e) (renV frm to):=by
 induction e using Exp.ind with
 |h e ih=>
  intro hs hn;by_cases hk:e.kind=1
  .obtain ⟨a1,a2,a3⟩:=Ii hs.one.1 hk
   obtain⟨n,t⟩:=hs.one.2.1 hk;rw[EF hk];refine .mkVar hk ?_;by_cases hf:e.name=frm
   .rw [if_pos hf]
    exact⟨to,(if_pos hf).symm,hk,rfl,n,t,a1,a2⟩
   .rw [if_neg hf]
    exact⟨e.name,(if_neg hf).symm,hk,rfl,n,t,a1,a2⟩
  .rw [Eg hk]
   obtain⟨h1,h2⟩:=Mv (replC_len frm to e);refine .mk hk ⟨h1,fun _=>rfl,h2,fun i x y hx hy=>?_⟩;rw[(BX (replC_len frm to e)).2.2.1,DO hx]at hy;cases hy;rw[HT (replC_len frm to e)];have hm:=qc hx;have hnb:to∉e.bound i:=fun h=>hn (A3.2 (.inr ⟨i,x,hx,.inl h⟩));have hnx:to∉allP x:=fun h=>hn (A3.2 (.inr ⟨i,x,hx,.inr h⟩));by_cases hf:frm∈e.bound i
   .rw [if_pos hf]
    refine .refl x _ (hs.child hm) fun s hsx c hc=>?_;by_cases hb:s∈e.bound i
    .exact .inl ⟨hb,s,hb,rfl,hc⟩
    .refine .inr ⟨hb,⟨s,?_,hc⟩,fun u hu => ?_⟩
     grind
     .rw [hc.free,qk] at hu
      grind
   .rw [if_neg hf]
    refine(ih x hm (hs.child hm) hnx).mono _ _ _ _ fun s hsx d hd=>?_;obtain⟨t,ht,hv⟩:=hd;by_cases hb:s∈e.bound i
    .rw [if_neg (fun h:s=frm=>hf (h▸hb))] at ht
     exact .inl ⟨hb,s,hb,rfl,ht▸hv⟩
    .refine .inr ⟨hb,⟨t,ht,hv⟩,fun u hu => ?_⟩
     rw[hv.free,qk]at hu;grind
theorem ZfK {frm to:Str}{e:Exp}(hs:shp e)(hn:to∉allP e)(u:Str):u∈Ag (repl frm to e)↔∃s∈Ag e,u=if s=frm then to else s:=by
 have h:=Lg frm to e hs hn;constructor
 .intro hu
  obtain⟨s,h1,d,⟨t,ht,hv⟩,h3⟩:=instR.free_from e _ _ hs.one (fun x hx=>hs.child hx) h u hu;rw[hv.free,qk]at h3;grind
 .rintro ⟨s,h1,rfl⟩
  obtain⟨d,⟨t,ht,hv⟩,h3⟩:=instR.free_to e _ _ h s h1;exact h3 _ (by rw[hv.free,ht];simp)
end Go.Vs.Tryz
