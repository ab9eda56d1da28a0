/- The library's sort, walked (9): pdqsort (the segments of its round by wip/gen/mkS9.py). -/
import Derived.Test.YtccmnfpbcmccpaaGreatDoorR8w
set_option linter.all false
set_option maxHeartbeats 16000000
set_option maxRecDepth 10000
namespace Go.Vs.Tryz
open Go Go.Vs
variable {A:Ag}
theorem ZgU {d:Array Nat}{a b:Nat}(h:a<=b)(hb:b<=d.size):(Sort.insertionSort ltN d a b).size=d.size:=(Sort.insertionSort_holds swoN d a b h hb).1.1
theorem YI {d:Array Nat}{a b:Nat}(h:a<=b)(hb:b<=d.size):(Sort.heapSort ltN d a b).size=d.size:=(Sort.heapSort_holds swoN d a b h hb).1.1
theorem Rv {d:Array Nat}{a b:Nat}(h:a<=b)(hb:b<=d.size):(Sort.reverseRange d a b).size=d.size:=(Sort.reverseRange_holds d a b h hb).1
theorem TF (d:Array Nat)(a b:Nat):(Sort.breakPatterns d a b).size=d.size:=by
 grind[Sort.breakPatterns,Zf2]
theorem Pp:∀(j:Nat)(d:Array Nat),(Sort.shiftDown ltN j d).size=d.size
 |0,d=>by rfl
 |j+1,d=>by
  rw[QG oz];split
  .rw[qbg,Pp j,swp_size]
  .rfl
theorem Vf (b:Nat):∀(k j:Nat)(d:Array Nat),b-j<=k->(Sort.shiftUp ltN b j d).size=d.size
 |0,j,d,h=>by rw[Pu oz]
 |k+1,j,d,h=>by
  by_cases hj:j<b
  .rw [Uu hj]
   split
   .rw[Vf b k _ _ oz,swp_size]
   .rfl
  .rw[Pu hj]
theorem Vz (a b:Nat):∀(s i:Nat)(d:Array Nat),(Sort.partialIns ltN a b s i d).1.size=d.size
 |0,i,d=>by rfl
 |s+1,i,d=>by
  dsimp only[Sort.partialIns];split
  .rfl
  .split
   .rfl
   .rw [Vz a b s]
    split
    .rw [Vf b _ _ _ (qg _)]
     grind[Pp,swp_size]
    grind[Pp,swp_size]
theorem RI (d:Array Nat)(a b:Nat):(Sort.partialInsertionSort ltN d a b).1.size=d.size:=Vz a b 5 (a+1) d
theorem Zie (a:Nat):∀(k i j:Nat)(d:Array Nat),j+1-i<=k->1<=i->i<=(Sort.partEqLoop ltN a i j d).1/\(Sort.partEqLoop ltN a i j d).1<=max i (j+1)/\(Sort.partEqLoop ltN a i j d).2.size=d.size:=by
 intro k
 induction k with
 |zero=>
  grind[C8,OU]
 |succ k ih=>
  intro i j d h h1;rw[OU];have g1:=I6 (fun x=>!ltN d[a]! x) d j _ i (qg _);grind[HN,C8,I3,swp_size]
theorem Sj {d:Array Nat}{a b p:Nat}(h:a<b):a<(Sort.partitionEqual ltN d a b p).1/\(Sort.partitionEqual ltN d a b p).1<=b/\(Sort.partitionEqual ltN d a b p).2.size=d.size:=by
 unfold Sort.partitionEqual;obtain⟨k1,k2,k3⟩:=Zie a _ (a+1) (b-1) (Sort.swp d a p) (qg _) oz;grind[swp_size]
theorem Qv {d:Array Nat}{a b p:Nat}(ha:a<=p)(hp:p<b)(hb:b<=d.size):a<=(Sort.partition ltN d a b p).1/\(Sort.partition ltN d a b p).1<b/\(Sort.partition ltN d a b p).2.2.size=d.size:=by
 obtain⟨h1,h2,h3,_⟩:=Sort.partition_holds ltN swoN d a b p ha hp hb;exact⟨h1,h2,h3.1⟩
def t9 (d:Array Nat)(a b lim piv:Nat):Array Nat:=
 if (Sort.partition ltN d a b piv).1-a<b-(Sort.partition ltN d a b piv).1 then
  Sort.pdq ltN (Sort.pdq ltN (Sort.partition ltN d a b piv).2.2 a (Sort.partition ltN d a b piv).1 lim true true) ((Sort.partition ltN d a b piv).1+1) b lim
   (decide ((Sort.partition ltN d a b piv).1-a>=(b-a) / 8)) (Sort.partition ltN d a b piv).2.1
 else
  Sort.pdq ltN (Sort.pdq ltN (Sort.partition ltN d a b piv).2.2 ((Sort.partition ltN d a b piv).1+1) b lim true true) a (Sort.partition ltN d a b piv).1 lim
   (decide (b-(Sort.partition ltN d a b piv).1>=(b-a) / 8)) (Sort.partition ltN d a b piv).2.1
def t8 (d:Array Nat)(a b lim:Nat)(wb wq:Bool)(piv:Nat):Array Nat:=
 if (decide (a>0) && !ltN d[a-1]! d[piv]!)=true then Sort.pdq ltN (Sort.partitionEqual ltN d a b piv).2 (Sort.partitionEqual ltN d a b piv).1 b lim wb wq
 else t9 d a b lim piv
def t7 (d:Array Nat)(a b lim:Nat)(wb wq:Bool)(piv:Nat)(hint:Sort.Hint):Array Nat:=
 if (if (wb&&wq&&decide (hint=.increasing))=true then Sort.partialInsertionSort ltN d a b else (d,false)).2=true then
  (if (wb&&wq&&decide (hint=.increasing))=true then Sort.partialInsertionSort ltN d a b else (d,false)).1
 else t8 (if (wb&&wq&&decide (hint=.increasing))=true then Sort.partialInsertionSort ltN d a b else (d,false)).1 a b lim wb wq piv
def t5 (d:Array Nat)(a b lim:Nat)(wb wq:Bool):Array Nat:=
 t7 (if (Sort.choosePivot ltN d a b).2=.decreasing then Sort.reverseRange d a b else d) a b lim wb wq
  (if (Sort.choosePivot ltN d a b).2=.decreasing then (b-1)-((Sort.choosePivot ltN d a b).1-a) else (Sort.choosePivot ltN d a b).1)
  (if (Sort.choosePivot ltN d a b).2=.decreasing then .increasing else (Sort.choosePivot ltN d a b).2)
theorem Za {d:Array Nat}{a b lim:Nat}{wb wq:Bool}(h12:¬b-a<=12)(hl:¬lim=0)(hb:b<=d.size):
 Sort.pdq ltN d a b lim wb wq=t5 (if (!wb)=true then Sort.breakPatterns d a b else d) a b (if (!wb)=true then lim-1 else lim) wb wq:=by
 rw[Sort.pdq,if_neg h12,if_neg hl];unfold t5 t7 t8 t9;dsimp only;have s1:(if (!wb)=true then Sort.breakPatterns d a b else d).size=d.size:=by
  grind[TF]
 generalize (if (!wb)=true then Sort.breakPatterns d a b else d)=d1 at *
 generalize (if (!wb)=true then lim-1 else lim)=lim1 at *
 obtain⟨c1,c2⟩:=Sort.choosePivot_holds ltN d1 a b oz;generalize Sort.choosePivot ltN d1 a b=c at *
 have hpv:a<=(if c.2=.decreasing then (b-1)-(c.1-a) else c.1)/\(if c.2=.decreasing then (b-1)-(c.1-a) else c.1)<b:=by
  grind
 generalize (if c.2=.decreasing then (b-1)-(c.1-a) else c.1)=piv at *
 have s2:(if c.2=.decreasing then Sort.reverseRange d1 a b else d1).size=d.size:=by
  grind[Rv]
 generalize (if c.2=.decreasing then Sort.reverseRange d1 a b else d1)=d2 at *
 generalize (if c.2=Sort.Hint.decreasing then Sort.Hint.increasing else c.2)=hint at *
 have s3:(if (wb&&wq&&decide (hint=.increasing))=true then Sort.partialInsertionSort ltN d2 a b else (d2,false)).1.size=d.size:=by
  grind[RI]
 grind[Sj,Qv]
def p9:VCode:=G (fdC 95 EU)
def p8:VCode:=(fun a=>G (rpC 95 a (fdC 73 EU))) p9
def p7:VCode:=(fun a=>G (rpC 73 a (fdC 61 EU))) p8
def p5:VCode:=(fun a=>G (rpC 61 a (fdC 43 EU))) p7
def p4:VCode:=(fun a=>G (rpC 43 a (fdC 34 EU))) p5
def r249:VCode:=(fun a=>G (rpC 34 a EU)) p4
theorem Ye:EU=r249:=by rfl
theorem ZeI {e:Array Nat}{l:List Nat}(h:Is e l){n:Nat}(hn:e.size=n)(a b:Nat)(hab:a<=b)(hb:b<=n)(hl:n<=687194767360):
 (K A).call 270 [.sc (.arr 0 n),intV a,intV b] [arrU l]=some (retV,[arrU (Sort.insertionSort ltN e a b).toList]):=by
 cases h;grind[WE]
theorem Zcm {e:Array Nat}{l:List Nat}(h:Is e l){n:Nat}(hn:e.size=n)(a b:Nat)(hab:a<b)(hb:b<=n)(hl:n<=687194767360):
 (K A).call 271 [.sc (.arr 0 n),intV a,intV b] [arrU l]=some (retV,[arrU (Sort.heapSort ltN e a b).toList]):=by
 cases h;grind[ZhN]
theorem ZgF {e:Array Nat}{l:List Nat}(h:Is e l){n:Nat}(hn:e.size=n)(a b:Nat)(hab:a<b)(hb:b<=n)(hl:n<=687194767360):
 (K A).call 274 [.sc (.arr 0 n),intV a,intV b] [arrU l]=some (retV,[arrU (Sort.reverseRange e a b).toList]):=by
 cases h;grind[ZeH]
abbrev S6 (n a b lim:Nat)(wb wq:Bool)(xs:Env):Env:=(0,.sc (.arr 0 n))::(1,intV a)::(2,intV b)::(3,intV lim)::(8,Ac wb)::(9,Ac wq)::xs
structure Owes (Q:Ex->St->Prop)(n L:Nat)(R:Array Nat):Prop where
 ret:∀(env:Env) (l:List Nat),Is R l->R.size=n->Q .ret ⟨env,[(0,some (arrU l))]⟩
 next:∀(x:Ex) (a b lim:Nat) (wb wq:Bool) (e:Array Nat) (l:List Nat),(x=.normal\/x=.exit 1)->Is e l->e.size=n->Sort.pdq ltN e a b lim wb wq=R->a<=b->b<=n->lim<=1000->b-a<L->
  Q x ⟨S6 n a b lim wb wq [],[(0,some (arrU l))]⟩
def Gy (A:Ag)(n L:Nat):Prop:=∀(e:Array Nat)(l:List Nat)(a b lim:Nat),Is e l->e.size=n->a<=b->b<=n->lim<=1000->b-a<L->
 (K A).call 249 [.sc (.arr 0 n),intV a,intV b,intV lim] [arrU l]=some (retV,[arrU (Sort.pdq ltN e a b lim true true).toList])/\(Sort.pdq ltN e a b lim true true).size=n
theorem Vj {e:Array Nat}{l:List Nat}(h:Is e l){n:Nat}(hn:e.size=n){a b lim:Nat}{wb wq:Bool}{piv:Nat}(h12:¬b-a<=12)(hp1:a<=piv)(hp2:piv<b)(hb:b<=n)(hl:n<=687194767360)(hlim:lim<=1000)
 {R:Array Nat}(hR:t9 e a b lim piv=R) (sh:Gy A n (b-a)) {Q:Ex->St->Prop}(q:Owes Q n (b-a) R):
 wp (K A) p9 Q ⟨S6 n a b lim wb wq [(10,intV ((b-a:Nat):Int)),(11,intV piv),(87,Ac false)],[(0,some (arrU l))]⟩:=by
 unfold t9 at hR;obtain⟨k1,k2,k3⟩:=Qv (d:=e) (p:=piv) hp1 hp2 oz;have hc:=Yy (A:=A) h hn a b piv hp1 hp2 hb hl;generalize Sort.partition ltN e a b piv=r at *
 obtain⟨mid,ap,d4⟩:=r;simp only at *
 have hll:=AN h;have hq:Int.tdiv ((b-a:Nat):Int) 8=(((b-a) / 8:Nat):Int):=by
  rfl
 have hmI:(mid:Int)-a=((mid-a:Nat):Int):=oz
 have hbI:(b:Int)-mid=((b-mid:Nat):Int):=oz
 have hm1:(mid:Int)+1=((mid+1:Nat):Int):=oz
 have hd4:Is d4 d4.toList:=rfl;have hd4l:d4.toList.length=n:=by grind
 unfold p9 G;by_cases hlt:mid-a<b-mid
 .rw [if_pos hlt] at hR
  obtain⟨c1,c2⟩:=sh d4 d4.toList a mid lim hd4 oz k1 oz hlim oz;generalize hg:Sort.pdq ltN d4 a mid lim true true=g at *
  have hgl:g.toList.length=n:=oz
  have fin:=q.next .normal (mid+1) b lim (decide ((b-a) / 8<=mid-a)) ap g g.toList (.inl rfl) rfl c2 hR oz hb hlim oz;have ht8:(b-a) / 8<=687194767360:=oz
  generalize (b-a) / 8=t at *
  generalize mid-a=m1 at *
  generalize b-mid=m2 at *
  generalize mid+1=m3 at *
  generalize b-a=L at *
  generalize hgt:g.toList=gl at *
  generalize hdt:d4.toList=dl at *
  simp(disch:=try exact zd) [hc,c1,hq,hmI,hbI,hm1,hlt,hll,hn,hd4l,hgl,retV,V.ren];omega
 .rw [if_neg hlt] at hR
  obtain⟨c1,c2⟩:=sh d4 d4.toList (mid+1) b lim hd4 oz oz hb hlim oz;generalize hg:Sort.pdq ltN d4 (mid+1) b lim true true=g at *
  have hgl:g.toList.length=n:=oz
  have fin:=q.next .normal a mid lim (decide ((b-a) / 8<=b-mid)) ap g g.toList (.inl rfl) rfl c2 hR k1 oz hlim oz;have ht8:(b-a) / 8<=687194767360:=oz
  generalize (b-a) / 8=t at *
  generalize mid-a=m1 at *
  generalize b-mid=m2 at *
  generalize mid+1=m3 at *
  generalize b-a=L at *
  generalize hgt:g.toList=gl at *
  generalize hdt:d4.toList=dl at *
  simp(disch:=try exact zd) [hc,c1,hq,hmI,hbI,hm1,hlt,hll,hn,hd4l,hgl,retV,V.ren];omega
theorem Wk {e:Array Nat}{l:List Nat}(h:Is e l){n:Nat}(hn:e.size=n){a b lim:Nat}{wb wq:Bool}{piv:Nat}(h12:¬b-a<=12)(hp1:a<=piv)(hp2:piv<b)(hb:b<=n)(hl:n<=687194767360)(hlim:lim<=1000)
 {R:Array Nat}(hR:t8 e a b lim wb wq piv=R) (sh:Gy A n (b-a)) {Q:Ex->St->Prop}(q:Owes Q n (b-a) R) {t:Nat}(ht:t=68\/t=72):
 wp (K A) p8 Q ⟨S6 n a b lim wb wq [(10,intV ((b-a:Nat):Int)),(11,intV piv),(t,Ac false)],[(0,some (arrU l))]⟩:=by
 unfold t8 at hR;have hll:=AN h;by_cases ha:0<a
 .have haI:(0:Int)<a:=oz
  have hx:=AL h (i:=a-1) oz;have hy:=AL h (i:=piv) oz;have ha1:(a:Int)-1=((a-1:Nat):Int):=oz
  have hal:a-1<l.length:=oz
  have hpl:piv<l.length:=oz
  have hless:=CH (A:=A) e[a-1]! e[piv]!;rw[FH]at hR;generalize e[a-1]! = u at *
  generalize e[piv]! = v at *
  by_cases huv:u<v
  .rw [if_neg (by grind)] at hR
   have fin:=Vj (A:=A) h hn (wb:=wb) (wq:=wq) h12 hp1 hp2 hb hl hlim hR sh q;unfold p8 G;rcases ht with rfl|rfl <;>
   (simp (maxSteps:=9^7) (disch:=try exact zd) [haI,ha,hx,hy,ha1,hless,huv,hll,hn,-getElem?_pos]
    exact fin)
  .rw [if_pos (by grind)] at hR
   obtain⟨k1,k2,k3⟩:=Sj (d:=e) (p:=piv) (show a<b by omega);have hc:=ZhP (A:=A) h hn a b piv hp1 hp2 hb hl;generalize Sort.partitionEqual ltN e a b piv=r at *
   obtain⟨mid,d4⟩:=r;simp only at *
   have hd4l:d4.toList.length=n:=(by grind);have fin:=q.next (.exit 1) mid b lim wb wq d4 d4.toList (.inr rfl) rfl oz hR k2 hb hlim oz;generalize hdt:d4.toList=dl at *
   unfold p8 G;rcases ht with rfl|rfl <;>
   (simp (maxSteps:=9^7) (disch:=try exact zd) [haI,ha,hx,hy,ha1,hless,huv,hc,hll,hn,hd4l,V.ren,-getElem?_pos]
    exact fin)
 .obtain rfl:a=0:=oz
  rw[if_neg sy]at hR;have fin:=Vj (A:=A) h hn (wb:=wb) (wq:=wq) h12 hp1 hp2 hb hl hlim hR sh q;unfold p8 G;rcases ht with rfl|rfl <;>
  (simp (maxSteps:=9^7) (disch:=try exact zd) [hll,hn]
   exact fin)
theorem NA {e:Array Nat}{l:List Nat}(h:Is e l){n:Nat}(hn:e.size=n){a b lim:Nat}{wb wq:Bool}{piv:Nat}{hint:Sort.Hint}(h12:¬b-a<=12)(hp1:a<=piv)(hp2:piv<b)(hb:b<=n)(hl:n<=687194767360)(hlim:lim<=1000)
 {R:Array Nat}(hR:t7 e a b lim wb wq piv hint=R) (sh:Gy A n (b-a)) {Q:Ex->St->Prop}(q:Owes Q n (b-a) R) {xs:Env}(hx:xs=[]\/xs=[(50,Ac false)]):
 wp (K A) p7 Q ⟨S6 n a b lim wb wq ((10,intV ((b-a:Nat):Int))::(11,intV piv)::(12,intV (Dt hint))::xs),[(0,some (arrU l))]⟩:=by
 unfold t7 at hR;have hll:=AN h;by_cases hc:(wb&&wq&&decide (hint=.increasing))=true
 .rw [if_pos hc] at hR
  simp only[qe,decide_eq_true_eq]at hc;obtain⟨⟨rfl,rfl⟩,rfl⟩:=hc;have hcall:=Zfh (A:=A) h hn a b oz hb hl;have hsz:=RI e a b;generalize Sort.partialInsertionSort ltN e a b=r at *
  obtain⟨d2,ok⟩:=r;simp only at *
  have hdl:d2.toList.length=n:=by grind
  cases ok with
  |true=>
   rw[if_pos rfl]at hR;subst hR;have fin:=fun env=>q.ret env d2.toList rfl oz;generalize hdt:d2.toList=dl at *
   unfold p7 G;rcases hx with rfl|rfl <;>
   (simp (disch:=try exact zd) [hcall,Dt,hll,hn,hdl,V.ren]
    exact fin _)
  |false=>
   rw[if_neg sy]at hR;have fin:=Wk (A:=A) (show Is d2 d2.toList from rfl) (hsz.trans hn) h12 hp1 hp2 hb hl hlim hR sh q (t:=72) (.inr rfl);generalize hdt:d2.toList=dl at *
   unfold p7 G;rcases hx with rfl|rfl <;>
   (simp (disch:=try exact zd) [hcall,Dt,hll,hn,hdl,V.ren]
    exact fin)
 .rw [if_neg hc,if_neg sy] at hR
  have fin:=Wk (A:=A) h hn (wb:=wb) (wq:=wq) h12 hp1 hp2 hb hl hlim hR sh q (t:=68) (.inl rfl);unfold p7 G;cases wb with
  |false=>
   rcases hx with rfl|rfl <;>
   (simp (disch:=try exact zd) [hll,hn]
    exact fin)
  |true=>
   cases wq with
   |false=>
    rcases hx with rfl|rfl <;>
    (simp (disch:=try exact zd) [hll,hn]
     exact fin)
   |true=>
    cases hint with
    |increasing=>grind
    |unknown=>
     rcases hx with rfl|rfl <;>
     (simp (disch:=try exact zd) [Dt,hll,hn]
      exact fin)
    |decreasing=>
     rcases hx with rfl|rfl <;>
     (simp (disch:=try exact zd) [Dt,hll,hn]
      exact fin)
theorem SX {e:Array Nat}{l:List Nat}(h:Is e l){n:Nat}(hn:e.size=n){a b lim:Nat}{wb wq:Bool}(h12:¬b-a<=12)(hb:b<=n)(hl:n<=687194767360)(hlim:lim<=1000)
 {R:Array Nat}(hR:t5 e a b lim wb wq=R) (sh:Gy A n (b-a)) {Q:Ex->St->Prop}(q:Owes Q n (b-a) R) {xs:Env}(hx:xs=[]\/xs=[(35,Ac false)]):
 wp (K A) p5 Q ⟨S6 n a b lim wb wq ((10,intV ((b-a:Nat):Int))::xs),[(0,some (arrU l))]⟩:=by
 unfold t5 at hR;have hll:=AN h;have hc:=Zec (A:=A) h hn a b oz hb hl;obtain⟨c1,c2⟩:=Sort.choosePivot_holds ltN e a b oz;generalize Sort.choosePivot ltN e a b=c at *
 obtain⟨piv,hint⟩:=c;simp only at *
 cases hint with
 |decreasing=>
  simp only[if_true]at hR;have hrev:=ZgF (A:=A) h hn a b oz hb hl;have hsz:=Rv (d:=e) (a:=a) (b:=b) oz oz;generalize Sort.reverseRange e a b=e2 at *
  have hdl:e2.toList.length=n:=by grind
  have fin:=NA (A:=A) (show Is e2 e2.toList from rfl) (hsz.trans hn) h12 (show a<=b-1-(piv-a) by omega) oz hb hl hlim hR sh q (.inl rfl);have hpI:(b:Int)-1-(piv-a)=((b-1-(piv-a):Nat):Int):=oz
  generalize hdt:e2.toList=dl at *
  generalize b-1-(piv-a)=pv at *
  unfold p5 G;rcases hx with rfl|rfl <;>
  (simp (disch:=try exact zd) [hc,hrev,hpI,Dt,hll,hn,hdl,retV,V.ren]
   simpa[Dt]using fin)
 |increasing=>
  simp only[reduceCtorEq,if_false]at hR;have fin:=NA (A:=A) h hn h12 c1 c2 hb hl hlim hR sh q (xs:=[(50,Ac false)]) (.inr rfl);unfold p5 G;rcases hx with rfl|rfl <;>
  (simp (disch:=try exact zd) [hc,Dt,hll,hn,V.ren]
   simpa[Dt]using fin)
 |unknown=>
  simp only[reduceCtorEq,if_false]at hR;have fin:=NA (A:=A) h hn h12 c1 c2 hb hl hlim hR sh q (xs:=[(50,Ac false)]) (.inr rfl);unfold p5 G;rcases hx with rfl|rfl <;>
  (simp (disch:=try exact zd) [hc,Dt,hll,hn,V.ren]
   simpa[Dt]using fin)
theorem Zhz {e:Array Nat}{l:List Nat}(h:Is e l){n:Nat}(hn:e.size=n){a b lim:Nat}{wb wq:Bool}(h12:¬b-a<=12)(hb:b<=n)(hl:n<=687194767360)(hlim:lim<=1000)(hlim0:¬lim=0)
 {R:Array Nat}(hR:Sort.pdq ltN e a b lim wb wq=R) (sh:Gy A n (b-a)) {Q:Ex->St->Prop}(q:Owes Q n (b-a) R):
 wp (K A) p4 Q ⟨S6 n a b lim wb wq [(10,intV ((b-a:Nat):Int)),(29,Ac false)],[(0,some (arrU l))]⟩:=by
 rw[Za h12 hlim0 oz]at hR;have hll:=AN h;cases wb with
 |true=>
  simp only[Bool.not_true,qx,if_false]at hR;have fin:=SX (A:=A) h hn h12 hb hl hlim hR sh q (xs:=[(35,Ac false)]) (.inr rfl);unfold p4 G;simp_all
 |false=>
  simp only[Bool.not_false,if_true]at hR;have hbr:=Zfp (A:=A) h hn a b oz hb hl;have hsz:=TF e a b;generalize Sort.breakPatterns e a b=e2 at *
  have hdl:e2.toList.length=n:=by grind
  have fin:=SX (A:=A) (show Is e2 e2.toList from rfl) (hsz.trans hn) h12 hb hl oz hR sh q (xs:=[]) (.inl rfl);have hlI:(lim:Int)-1=((lim-1:Nat):Int):=oz
  generalize hdt:e2.toList=dl at *
  generalize lim-1=lim1 at *
  unfold p4 G;simp(disch:=try exact zd) [hbr,hlI,hll,hn,hdl,retV,V.ren];omega
theorem Zaq {e:Array Nat}{l:List Nat}(h:Is e l){n:Nat}(hn:e.size=n){a b lim:Nat}{wb wq:Bool}(hab:a<=b)(hb:b<=n)(hl:n<=687194767360)(hlim:lim<=1000)
 {R:Array Nat}(hR:Sort.pdq ltN e a b lim wb wq=R) (sh:Gy A n (b-a)) {Q:Ex->St->Prop}(q:Owes (BH 1 Q) n (b-a) R):
 wp (K A) EU Q ⟨S6 n a b lim wb wq [],[(0,some (arrU l))]⟩:=by
 have hll:=AN h;have hLI:(b:Int)-a=((b-a:Nat):Int):=oz
 rw[Ye];unfold r249 G;by_cases h12:b-a<=12
 .rw [Sort.pdq,if_pos h12] at hR
  have hc:=ZeI (A:=A) h hn a b hab hb hl;have hsz:=ZgU (d:=e) hab oz;rw[hR]at hc hsz;have fin:=fun env=>q.ret env R.toList rfl (hsz.trans hn);have hdl:R.toList.length=n:=by grind
  generalize hdt:R.toList=dl at *
  have h12I:((b-a:Nat):Int)<=12:=oz
  generalize b-a=L at *
  simp(disch:=try exact zd) [hc,hLI,h12,h12I,hll,hn,hdl,retV,V.ren];exact fin _
 .by_cases hl0:lim=0
  .rw [Sort.pdq,if_neg h12,if_pos hl0] at hR
   subst hl0;have hc:=Zcm (A:=A) h hn a b oz hb hl;have hsz:=YI (d:=e) hab oz;rw[hR]at hc hsz;have fin:=fun env=>q.ret env R.toList rfl (hsz.trans hn);have hdl:R.toList.length=n:=(by grind);generalize hdt:R.toList=dl at *
   have h12I:¬((b-a:Nat):Int)<=12:=oz;generalize b-a=L at *
   simp(disch:=try exact zd) [hc,hLI,h12,h12I,hll,hn,hdl,retV,V.ren];exact fin _
  .have fin:=Zhz (A:=A) h hn h12 hb hl hlim hl0 hR sh q
   have h12I:¬((b-a:Nat):Int)<=12:=oz;generalize b-a=L at *
   simp(disch:=try exact zd) [hLI,h12,h12I,hl0,hll,hn];omega
theorem pdqA (n:Nat)(hl:n<=687194767360):∀L,Gy A n L:=by
 intro L
 induction L with
 |zero=>intro e l a b lim _ _ _ _ _ h;omega
 |succ L ih=>
  intro e l a b lim h hn hab hb hlim hlt;have sz:(Sort.pdq ltN e a b lim true true).size=n/\(K A).call 249 [.sc (.arr 0 n),intV a,intV b,intV lim] [arrU l]=some (retV,[arrU (Sort.pdq ltN e a b lim true true).toList]):=by
   generalize hR:Sort.pdq ltN e a b lim true true=R
   suffices hw:∃r,(R.size=n/\r=(retV,[arrU R.toList]))/\(K A).call 249 [.sc (.arr 0 n),intV a,intV b,intV lim] [arrU l]=some r by
    grind
   have hll:=AN h;refine fnE v249 ?_;unfold v249;simp(disch:=try exact zd);generalize hQ:(BH 0 (B3 false 1 [] fun r=>R.size=n/\r=(retV,[arrU R.toList])))=Q;have hret:∀(env:Env) (l:List Nat),Is R l->R.size=n->Q .ret ⟨env,[(0,some (arrU l))]⟩:=by
    intro env l h1 h2;rw[<-hQ];have hl2:=AN h1;simp[isEq h1,retV,h2]
   clear hQ;refine Al (fun r s=>∃(a' b' lim':Nat) (wb wq:Bool) (e':Array Nat) (l':List Nat),Is e' l'/\e'.size=n/\Sort.pdq ltN e' a' b' lim' wb wq=R/\a'<=b'/\b'<=n/\lim'<=1000/\b'-a'+r<=b-a/\
    s=⟨S6 n a' b' lim' wb wq [],[(0,some (arrU l'))]⟩) (b-a+1) ⟨a,b,lim,true,true,e,l,h,hn,hR,hab,hb,hlim,qg _,rfl⟩ ?_ ?_
   .clear h hn hR hll
    rintro r s hr ⟨a',b',lim',wb,wq,e',l',h,hn,hR,hab',hb',hlim',hlen,rfl⟩;refine Zaq (A:=A) h hn hab' hb' hl hlim' hR (fun e l a b lim q1 q2 q3 q4 q5 q6=>ih e l a b lim q1 q2 q3 q4 q5 oz) ⟨?_,?_⟩<;>grind[blockQ_ret,blockQ_normal,blockQ_exit]
   omega
  grind
theorem Zgd {d:Array Nat}{R:Array Nat}(h1:Sort.PermIn 0 d.size d R)(h2:Sort.SortedIn ltN 0 d.size R):SortR 0 d.size d.toList R.toList:=by
 obtain⟨s1,s2,s3⟩:=h1;refine⟨?_,fun k hk=>?_,fun p q x y hp hpq hq hx hy=>?_⟩
 .have e1:R.extract 0 d.size=R:=by grind
  simp_all
 grind
 .have h3:=h2 p q (qaa _) hpq hq
  grind[ltN]
theorem XU (d:List Nat)(hl:d.length<=687194767360):∃r,(∃e,SortR 0 d.length d e/\r=(retV,[arrU e]))/\(K A).call 228 [.sc (.arr 0 d.length)] [arrU d]=some r:=by
 refine fnE v228 ?_;have hlen:=Uk (A:=A) d.length oz;have hbl:=Hv (n:=d.length) (k:=40) oz;have hw:IntKind.u64.wrap (d.length:Int)=d.length:=Dx _ oz;obtain⟨hc,hsz⟩:=pdqA (A:=A) d.length hl (d.length+1) d.toArray d 0 d.length (Sort.bitsLen d.length) rfl sy oz oz oz oz
 obtain⟨k1,k2⟩:=Sort.pdq_sorts ltN swoN d.toArray 0 d.length (Sort.bitsLen d.length) true true oz sy (.inl rfl);generalize Sort.pdq ltN d.toArray 0 d.length (Sort.bitsLen d.length) true true=R at *
 have hs:SortR 0 d.length d R.toList:=by
  have:=Zgd (d:=d.toArray) (R:=R) oz oz;omega
 have h0:((0:Nat):Int)=0:=rfl;rw[h0]at hc;have hRl:R.toList.length=d.length:=oz
 generalize Sort.bitsLen d.length=bl at *
 generalize hRt:R.toList=rl at *
 unfold v228;simp(disch:=try exact zd) [hlen,hw,hc,hRl,retV,V.ren];grind
end Go.Vs.Tryz
namespace Go.Vs
open Go
variable {C:Ctx}{E:LV1}{L:LO1}{oid:Nat}
def clrK (L:LO1)(s:Nat)(zero:List W):V->Option (V×Upd)
 |.sc (.vw k N lo n)=>arrK (L k) fun s' rows p=>bif rows.length==N&&s'==s&&zero.length==s&&zero.all Ap&&Nat.ble (lo+n) N&&Nat.ble p lo&&Nat.blt 0 n then
  some (.sc .un,[(k,some (.arr s (rows.take lo++List.replicate n zero++rows.drop (lo+n)) p))]) else none
 |_=>none
@[simp] theorem x_clr {s:Nat} {zero:List W} {x:Opd}:Af C E L oid (.clr s zero x)=clrK L s zero (x.val C E):=by
 simp only[Af];generalize x.val C E=v;cases v with
 |sc w=>
  cases w with
  |vw k N lo n=>
   simp only[clrK,arrK];cases L k with
   |none=>rfl
   |some o=>cases o<;>rfl
  |c y=>cases y<;>rfl
  |_=>rfl
 |_=>rfl
@[simp] theorem clrK_vw {s:Nat} {zero:List W} {k N lo n:Nat}:clrK L s zero (.sc (.vw k N lo n))=arrK (L k) fun s' rows p=>bif rows.length==N&&s'==s&&zero.length==s&&zero.all Ap&&Nat.ble (lo+n) N&&Nat.ble p lo&&Nat.blt 0 n then
 some (.sc .un,[(k,some (.arr s (rows.take lo++List.replicate n zero++rows.drop (lo+n)) p))]) else none:=rfl
@[simp] theorem slice_arr_from {s k n i:Nat} {kk:IntKind} (h:i<=n):Bm L s (.sc (.arr k n)) (some (.sc (.c (.int kk (i:Int))))) none none=
 arrK (L k) fun s' rows _=>bif rows.length==n&&s'==s then some (.sc (.vw k n i (n-i)),[]) else none:=by
 cases hL:L k with
 |none=>simp[Bm,hL,arrK]
 |some o=>
  cases o with
  |box c=>simp[Bm,hL,arrK]
  |arr s' rows p=>simp[Bm,hL,arrK,AR,Ha,Bz,qbl h]
@[simp] theorem slice_arr_to {s k n i:Nat} {kk:IntKind} (h:i<=n):Bm L s (.sc (.arr k n)) none (some (.sc (.c (.int kk (i:Int))))) none=
 arrK (L k) fun s' rows _=>bif rows.length==n&&s'==s then some (.sc (.vw k n 0 i),[]) else none:=by
 cases hL:L k with
 |none=>simp[Bm,hL,arrK]
 |some o=>
  cases o with
  |box c=>simp[Bm,hL,arrK]
  |arr s' rows p=>simp[Bm,hL,arrK,AR,Ha,Bz,qbl h]
end Go.Vs
namespace Go.Vs.Tryz
open Go Go.Vs
variable {A:Ag}
theorem LA {d:List Nat}:∀m,m<=d.length->(∀k x,0<k->k<m->d[k]?=some x->d[k-1]?≠some x)->Bj d m=d.take m
 |0,_,_=>rfl
 |m+1,h,hn=>by
  obtain⟨x,hx⟩:=Ab (l:=d) (i:=m) oz;rw[Km hx (fun hc=>hn m x hc.1 oz hx hc.2),LA m oz (fun k x h1 h2=>hn k x h1 oz),AP hx]
theorem NQ {α:Type}{l:List α}{o n:Nat}(h:o+n<=l.length):∃r,cut l o n=some r:=by
 unfold cut;simp[h]
def Ju (d:List Nat)(r:V×List Obj):Prop:=∃(m:Nat)(d':List Nat),d'.length=d.length/\m<=d.length/\d'.take m=Bj d d.length/\
 ((m=d.length/\r=(.sc (.arr 0 d.length),[arrU d']))\/r=(.sc (.vw 0 d.length 0 m),[arrU d']))
theorem Zh3 (d:List Nat)(k m:Nat):(wr (Cf d)).take k++List.replicate m [W.c (.int .u64 0)]++(wr (Cf d)).drop (k+m)=wr (Cf (d.take k++List.replicate m 0++d.drop (k+m))):=by
 simp[wr,Cf,Gb,qaC,List.map_drop]
theorem Zat (d:List Nat)(hl:d.length<=687194767360):∃r,Ju d r/\(K A).call 229 [.sc (.arr 0 d.length)] [arrU d]=some r:=by
 refine fnE v229 ?_;generalize hn:d.length=n at *
 generalize hQ:B3 v229.keep [arrU d].length v229.results (Ju d)=Q;have hret:∀r,Ju d r->∀(s:St),((Cs v229.keep 1 v229.results s).map (B9 v229.keep))=some r->Q .ret s:=by
  intro r h1 s h2;rw[<-hQ];show B3 v229.keep 1 v229.results (Ju d) .ret s;rw[endsQ_ret,h2,isR_some];exact h1
 clear hQ;unfold v229;by_cases h2:n<2
 .have h2I:(n:Int)<2:=oz
  simp(maxSteps:=9^7) (disch:=try exact zd) [hn,h2I,h2,-getElem?_pos];refine hret (.sc (.arr 0 n),[arrU d]) ⟨n,d,oz,oz,?_,.inl ⟨hn.symm,by rw[hn]⟩⟩ _ ?_
  .rw[hn,LA n oz (fun k x h1 h2=>by omega)]
  .simp[v229,hn]
 .have h2I:¬(n:Int)<2:=oz
  simp(maxSteps:=9^7) (disch:=try exact zd) [hn,h2I,h2,-getElem?_pos];refine Al (fun r s=>(∀k x,0<k->k<1+r->d[k]?=some x->d[k-1]?≠some x)/\s=⟨[(0,.sc (.arr 0 n)),(3,intV ((1+r:Nat):Int))],[(0,some (arrU d))]⟩) (n-1)
   ⟨fun k x h1 h2=>by omega,by simp⟩ ?_ ?_
  .rintro r s hr ⟨hdis,rfl⟩
   generalize hk:1+r=k at *
   obtain⟨x,hx⟩:=Ab (l:=d) (i:=k) oz;obtain⟨y,hy⟩:=Ab (l:=d) (i:=k-1) oz;have hkl:k<d.length:=oz;have hkl1:k-1<d.length:=oz;have hkI:(k:Int)-1=((k-1:Nat):Int):=oz;have hkn:(k:Int)<n:=oz;unfold MH;by_cases hxy:x=y
   .subst hxy
    have hc0:Bj d (k+1)=d.take k:=by
     rw[Jf hx oz hy,LA k oz hdis]
    simp(maxSteps:=9^7) (disch:=try exact zd) [hn,hkn,hkI,hx,hy,-getElem?_pos];refine Al (fun t s=>∃(q:Nat) (e:List Nat),e.length=n/\e.take q=Bj d (k+1+t)/\q<=k+t/\k<=q/\(∀p,k+t<=p->e[p]?=d[p]?)/\
     s=⟨[(0,.sc (.arr 0 n)),(3,intV q),(4,.sc (.vw 0 n k (n-k))),(5,intV ((1+t:Nat):Int))],[(0,some (arrU e))]⟩) (n-k-1)
     ⟨k,d,hn,hc0.symm,qg _,qg _,fun _ _=>rfl,by simp⟩ ?_ ?_
    .rintro t s ht ⟨q,e,he,htk,hq,hkq,hsame,rfl⟩
     obtain⟨u,hu⟩:=Ab (l:=d) (i:=k+(1+t)) oz;obtain⟨v,hv⟩:=Ab (l:=d) (i:=k+t) oz;have hue:e[k+(1+t)]?=some u:=(by rw[hsame _ oz];exact hu);have hve:e[k+t]?=some v:=(by rw[hsame _ (qg _)];exact hv);have ht1:((1+t:Nat):Int)-1=((t:Nat):Int):=oz;have htn:((1+t:Nat):Int)<((n-k:Nat):Int):=oz;have htn2:(1:Int)+t<((n-k:Nat):Int):=oz
     have ht12:(1:Int)+t-1=(t:Int):=oz;have ht13:(1:Int)+t=((1+t:Nat):Int):=oz;have ht2:1+t<n-k:=oz;have hql:q<e.length:=oz;generalize hpp:1+t=t1 at *
     generalize hp1:k+t1=p1 at *
     generalize hp0:k+t=p0 at *
     have hpl1:p1<e.length:=oz;have hpl0:p0<e.length:=oz;obtain⟨cs,hcut⟩:=NQ (l:=wr (Cf e)) (o:=k) (n:=n-k) (by simp;omega);obtain⟨vq,hvq⟩:=Ab (l:=e) (i:=q) hql;unfold Ls;by_cases huv:u=v
     .subst huv
      have hc1:Bj d (k+1+(t+1))=Bj d (k+1+t):=by
       rw[show k+1+(t+1)=p1+1 by omega,Jf hu oz (by rw[show p1-1=p0 by omega];exact hv),show k+1+t=p1 by omega]
      have fin:∃(q':Nat) (e':List Nat),e'.length=n/\e'.take q'=Bj d (k+1+(t+1))/\q'<=k+(t+1)/\k<=q'/\(∀p,k+(t+1)<=p->e'[p]?=d[p]?)/\
       (⟨[(0,.sc (.arr 0 n)),(3,intV q),(4,.sc (.vw 0 n k (n-k))),(5,intV ((t1:Int)+1))],[(0,some (arrU e))]⟩:St)=⟨[(0,.sc (.arr 0 n)),(3,intV q'),(4,.sc (.vw 0 n k (n-k))),(5,intV ((1+(t+1):Nat):Int))],[(0,some (arrU e'))]⟩:=
       ⟨q,e,he,by rw[hc1];exact htk,oz,hkq,fun p hp=>hsame p oz,by rw[show((1+(t+1):Nat):Int)=(t1:Int)+1 by omega]⟩
      simp(maxSteps:=9^7) (disch:=try exact zd) [he,hcut,hvq,htn,htn2,ht1,ht12,ht13,ht2,hue,hve,hp1,hp0,-getElem?_pos];simpa using fin
     .have hc1:Bj d (k+1+(t+1))=Bj d (k+1+t)++[u]:=by
       rw[show k+1+(t+1)=p1+1 by omega,Km hu (fun hc=>huv (qaW (hc.2.symm.trans (by rw[show p1-1=p0 by omega];exact hv)))),show k+1+t=p1 by omega]
      have huvI:¬(u:Int)=v:=oz;have hset:(e.set q u).take (q+1)=e.take q++[u]:=by
       have:(e.set q u)[q]?=some u:=(by simp[hql]);rw[AP this,List.take_set_of_le (qg _)]
      have fin:∃(q':Nat) (e':List Nat),e'.length=n/\e'.take q'=Bj d (k+1+(t+1))/\q'<=k+(t+1)/\k<=q'/\(∀p,k+(t+1)<=p->e'[p]?=d[p]?)/\
       (⟨[(0,.sc (.arr 0 n)),(3,intV ((q:Int)+1)),(4,.sc (.vw 0 n k (n-k))),(5,intV ((t1:Int)+1))],[(0,some (arrU (e.set q u)))]⟩:St)=⟨[(0,.sc (.arr 0 n)),(3,intV q'),(4,.sc (.vw 0 n k (n-k))),(5,intV ((1+(t+1):Nat):Int))],[(0,some (arrU e'))]⟩:=
       ⟨q+1,e.set q u,by simp[he],by rw[hset,hc1,htk],oz,oz,fun p hp=>by rw[qaN oz];exact hsame p oz,by rw[show((1+(t+1):Nat):Int)=(t1:Int)+1 by omega];simp⟩
      simp(maxSteps:=9^7) (disch:=try exact zd) [he,hcut,hvq,htn,htn2,ht1,ht12,ht13,ht2,hue,hve,hp1,hp0,huv,huvI,-getElem?_pos];simpa using fin
    .rintro s ⟨q,e,he,htk,hq,hkq,hsame,rfl⟩
     have ht1:¬((1+(n-k-1):Nat):Int)<((n-k:Nat):Int):=oz;rw[show 1+(n-k-1)=n-k by omega];have hqn:q<n:=oz;have hqI:(n:Int)-q=((n-q:Nat):Int):=oz;have hwc:=Zh3 e q (n-q);rw[show q+(n-q)=n by omega,qaj]at hwc;have hlen2:(e.take q++List.replicate (n-q) 0++e.drop n).length=n:=(by simp;omega);have htk2:(e.take q++List.replicate (n-q) 0++e.drop n).take q=Bj d d.length:=by
      rw[qaj,qbi (by simp;omega),htk,show k+1+(n-k-1)=n by omega,hn]
     generalize e.take q++List.replicate (n-q) 0++e.drop n=e2 at *
     have fin:=hret (.sc (.vw 0 n 0 q),[arrU e2]) ⟨q,e2,oz,oz,htk2,.inr (by rw[hn])⟩;have hq0:q+(n-q)=n:=oz;have h0q:0<n-q:=oz;obtain⟨cs,hcut⟩:=NQ (l:=wr (Cf e)) (o:=k) (n:=n-k) (by simp;omega);unfold Ls;simp(maxSteps:=9^7) (disch:=try exact zd) [he,hcut,hqn,hq0,h0q,hwc,hlen2,-getElem?_pos];refine fin _ ?_;simp[v229,hlen2]
   .have hxyI:¬(x:Int)=y:=oz
    simp(maxSteps:=9^7) (disch:=try exact zd) [hn,hkn,hkI,hx,hy,hxy,hxyI,-getElem?_pos];refine⟨?_,oz⟩;intro k' x' h1 h2 h3;rcases qbo k' k with h4|h4
    .exact hdis k' x' h1 h4 h3
    .obtain rfl:k'=k:=oz
     rw[hx]at h3;cases h3;rw[hy];intro h5;cases h5;exact hxy rfl
  .rintro s ⟨hdis,rfl⟩
   rw[show 1+(n-1)=n by omega]at hdis |-;unfold MH;simp(maxSteps:=9^7) (disch:=try exact zd) [hn,-getElem?_pos];refine hret (.sc (.arr 0 n),[arrU d]) ⟨n,d,oz,oz,?_,.inl ⟨hn.symm,by rw[hn]⟩⟩ _ ?_
   .rw[hn,LA n oz hdis]
   .simp[v229,hn]
end Go.Vs.Tryz
namespace Go.Vs
open Go
variable {C:Ctx}{E:LV1}{L:LO1}{oid:Nat}
@[simp] theorem x_idxAA {s len:Nat} {x i:Opd}:Af C E L oid (.idxAA s len x i)=AW (AH (i.val C E) len) fun j=>onBy L (j*s) (x.val C E):=by
 simp only[Af];cases AH (i.val C E) len<;>rfl
@[simp] theorem x_newA {n:Nat} {zero:List W}:Af C E L oid (.newA n zero)=newK (L oid) (bif Nat.ble n Bc then some (.sc (.el oid n 0 0),[(oid,some (.arr zero.length (List.replicate n zero) 0))]) else none):=by
 simp only[Af];cases L oid<;>rfl
def slAK (L:LO1)(s n:Nat)(v:V)(lo hi:Option V):Option (V×Upd):=match v with
 |.sc (.el k N i off)=>arrK (L k) fun s' rows _=>AW (AR hi n n) fun h=>AW (AR lo 0 h) fun l=>
  bif N==n&&i==0&&off==0&&rows.length==N&&s'==s&&Nat.blt 0 N then some (.sc (.vw k N l (h-l)),[]) else none
 |_=>none
@[simp] theorem x_slA {s n:Nat} {x:Opd} {lo hi:Option Opd}:Af C E L oid (.slA s n x lo hi)=slAK L s n (x.val C E) (lo.map (·.val C E)) (hi.map (·.val C E)):=by
 simp only[Af];generalize x.val C E=v;cases v with
 |sc w=>
  cases w with
  |el k N i off=>
   simp only[slAK,arrK];cases L k with
   |none=>rfl
   |some o=>
    cases o with
    |box c=>rfl
    |arr s' rows p=>
     simp only;cases AR (hi.map (·.val C E)) n n with
     |none=>rfl
     |some h=>
      simp only[AW];cases AR (lo.map (·.val C E)) 0 h<;>rfl
  |c y=>cases y<;>rfl
  |_=>rfl
 |_=>rfl
@[simp] theorem slAK_to {s n k N h:Nat} {kk:IntKind} (hh:h<=n):slAK L s n (.sc (.el k N 0 0)) none (some (.sc (.c (.int kk (h:Int)))))=
 arrK (L k) fun s' rows _=>bif N==n&&rows.length==N&&s'==s&&Nat.blt 0 N then some (.sc (.vw k N 0 h),[]) else none:=by
 simp[slAK,AR,Ha,Bz,qbl hh,AW]
def cvSK:Option (WW1)->Option (V×Upd)
 |none=>none
 |some rows=>bif rows.isEmpty then none else (Ae Ej rows).map fun l=>(.sc (.c (.str l)),[])
@[simp] theorem x_cvS {x:Opd}:Af C E L oid (.cvS x)=cvSK (Bh L (x.val C E)):=by
 simp only[Af,cvSK];cases Bh L (x.val C E)<;>rfl
def bRow (b:UInt8):List Cell:=[.int .u8 b.toNat]
def Ce (w:List UInt8):CC1:=w.map bRow
@[simp] theorem bRow_len (b:UInt8):(bRow b).length=1:=rfl
@[simp] theorem bRows_len (w:List UInt8):(Ce w).length=w.length:=by simp[Ce]
@[simp] theorem bRows_get (w:List UInt8) (i:Nat):(Ce w)[i]?=(w[i]?).map bRow:=by simp[Ce]
@[simp] theorem wc_b (b:UInt8):wc (bRow b)=[.c (.int .u8 b.toNat)]:=rfl
@[simp] theorem b_set (w:List UInt8) (i:Nat) (b:UInt8):setRow (wr (Ce w)) i [W.c (.int .u8 (b.toNat:Int))]=wr (Ce (w.set i b)):=by
 rw[Tryz.setRow_set];simp[Ce,wr,qa8,bRow]
theorem Vl:∀w:List UInt8,Ae Ej (wr (Ce w))=some w
 |[]=>rfl
 |b::w=>by
  have h:=Vl w;have hb:b.toNat<256:=b.toNat_lt;have e:Ej (wc (bRow b))=some b:=by
   simp only[wc_b,Ej];rw[show(decide ((0:Int)<=(b.toNat:Int))&&decide ((b.toNat:Int)<256))=true by simp;omega];simp
  show Ae Ej (wc (bRow b)::wr (Ce w))=_;simp only[Ae,e,h]
@[simp] theorem cvSK_b {w:List UInt8} (h:w≠[]):cvSK (some (wr (Ce w)))=some (.sc (.c (.str w)),[]):=by
 simp only[cvSK];rw[show(wr (Ce w)).isEmpty=false by cases w<;>simp_all[wr,Ce],Vl];rfl
theorem Vp {w:List UInt8}{n:Nat}(h:n<=w.length):cut (wr (Ce w)) 0 n=some (wr (Ce (w.take n))):=by
 unfold cut;simp[wr,Ce,h,qaC]
theorem WG (n:Nat):List.replicate n [W.c (.int .u8 0)]=wr (Ce (List.replicate n 0)):=by simp[wr,Ce,bRow]
end Go.Vs
namespace Go.Vs.Tryz
open Go Go.Vs
variable {A:Ag}
def dg (x:Nat):UInt8:=UInt8.ofNat (48+x % 10)
def pd:Nat->Nat->Str
 |0,_=>[]
 |m+1,k=>dg (k / 10 ^ m)::pd m k
theorem Tk:∀(m k:Nat),(pd m k).length=m
 |0,_=>rfl
 |m+1,k=>by simp[pd,Tk m]
theorem SE:∀(m k:Nat),pd (m+1) k=pd m (k / 10)++[dg k]
 |0,k=>by simp[pd]
 |m+1,k=>by
  rw[pd,SE m k,pd];simp only[qbb];rw[Nat.div_div_eq_div_mul,qbq,Nat.mul_comm]
theorem TU:∀(m k:Nat),10 ^ m<=k->k<10 ^ (m+1)->pd (m+1) k=numS k
 |0,k,h1,h2=>by
  have:k<10:=by simpa using h2
  rw[En this];simp[pd,dg,qau this]
 |m+1,k,h1,h2=>by
  have hp:1<=10 ^ m:=Nat.one_le_pow _ _ oz;have h10:10 ^ (m+1)=10 ^ m*10:=qbq ..;have h20:10 ^ (m+2)=10 ^ m*10*10:=by rw[qbq,qbq]
  rw[Ee oz,SE,TU m (k / 10) oz oz];rfl
def gs (L:Nat):Nat:=L*78913 / 262144
def ndig (k:Nat):Nat:=gs (Sort.bitsLen k)+if 10 ^ gs (Sort.bitsLen k)<=k then 1 else 0
theorem VX {L:Nat}(h:L<65):gs L<20/\2 ^ L<=10 ^ (gs L+1)/\(L=0\/10 ^ (gs L-1)<=2 ^ (L-1)):=by
 have h1:(List.range 65).all (fun L=>decide (gs L<20)&&decide (2 ^ L<=10 ^ (gs L+1))&&(decide (L=0)||decide (10 ^ (gs L-1)<=2 ^ (L-1))))=true:=by kernel_rfl
 have h2:=HK h1 h;simp only[qe,qaw,decide_eq_true_eq]at h2;exact⟨h2.1.1,h2.1.2,h2.2⟩
theorem Zfu (n:Nat):n<2 ^ Sort.bitsLen n:=by
 unfold Sort.bitsLen;split
 .omega
 .exact Nat.lt_log2_self
theorem ZcK {n:Nat}(h:n≠0):2 ^ (Sort.bitsLen n-1)<=n:=by
 unfold Sort.bitsLen;rw[if_neg h];exact Nat.log2_self_le h
theorem ZeV {k:Nat}(h1:1<=k)(h:k<18446744073709551616):1<=ndig k/\ndig k<=20/\10 ^ (ndig k-1)<=k/\k<10 ^ ndig k:=by
 have hL:Sort.bitsLen k<=64:=Hv (k:=64) h;obtain⟨g1,g2,g3⟩:=VX (L:=Sort.bitsLen k) oz;have b1:=Zfu k;have b2:=ZcK (n:=k) oz;unfold ndig;by_cases hc:10 ^ gs (Sort.bitsLen k)<=k
 .rw [if_pos hc]
  exact⟨oz,oz,by rw[qbg];exact hc,qak b1 g2⟩
 .rw [if_neg hc,qbd]
  have hg:1<=gs (Sort.bitsLen k):=by
   rcases Nat.eq_zero_or_pos (gs (Sort.bitsLen k))with h0|h0
   .rw [h0] at hc
    simp at hc;omega
   .exact h0
  refine⟨hg,oz,?_,oz⟩;rcases g3 with g3|g3
  .have:k=0:=by
    rw[g3]at b1;simpa using b1
   omega
  .exact qr g3 b2
theorem Zhl {j:Nat}(h:j<20):cut (tabOf .u64 pow10Tab) j 1=some [.int .u64 ((10 ^ j:Nat):Int)]:=by
 have h1:(List.range 20).all (fun j=>decide (pow10Tab[j]?=some ((10 ^ j:Nat):Int)))=true:=by kernel_rfl
 have h2:=of_decide_eq_true (HK h1 h);unfold cut tabOf;have hl:pow10Tab.length=20:=rfl;have h3:(pow10Tab.drop j).take 1=[((10 ^ j:Nat):Int)]:=by
  rw[qa7 oz];rw[qj oz]at h2;rw[qaW h2];rfl
 simp only[qat,hl];rw[show Nat.ble (j+1) 20=true from qY oz,cond_true,<-List.map_drop,<-qaC,h3];rfl
theorem Zg3 (n k:Nat)(hk:k<64):shrI .i64 (n:Int) (k:Int)=((n / 2 ^ k:Nat):Int):=by
 unfold shrI;rw[qam,show min k IntKind.i64.bits=k from qbj (qbp hk),Int.fdiv_eq_ediv_of_nonneg _ (Int.le_of_lt (Int.pow_pos (by decide)))];simp
theorem Zb0 (x:Nat)(h:x<65):(K A).call 287 [intV x] []=some (intV (gs x),[]):=by
 refine fnO v287 ?_;have h1:(x:Int)*78913=((x*78913:Nat):Int):=oz
 have h2:shrI .i64 ((x*78913:Nat):Int) 18=((gs x:Nat):Int):=Zg3 (x*78913) 18 oz;generalize hy:x*78913=y at *
 have hyb:y<6000000:=oz
 unfold v287;simp(disch:=try exact zd) [h1,h2]
theorem ZcN (b:Bool):(K A).call 288 [Ac b] []=some (intV (if b=true then 1 else 0),[]):=by
 refine fnO v288 ?_;unfold v288;cases b<;>simp
theorem gl2:gl0 2=tabOf .u64 pow10Tab:=rfl
theorem ZeC (k:Nat)(h:k<18446744073709551616):(K A).call 267 [u64V k] []=some (intV (ndig k),[]):=by
 have hL:Sort.bitsLen k<=64:=Hv (k:=64) h;obtain⟨g1,_⟩:=VX (L:=Sort.bitsLen k) oz;have c1:=Rj (A:=A) k h;have c2:=Zb0 (A:=A) (Sort.bitsLen k) oz;have c3:=Zhl g1;have c4:=ZcN (A:=A) (decide (10 ^ gs (Sort.bitsLen k)<=k));unfold ndig;generalize Sort.bitsLen k=L at *
 generalize gs L=g at *
 have hcI:decide (((10 ^ g:Nat):Int)<=(k:Int))=decide (10 ^ g<=k):=by rw[decide_eq_decide];omega
 generalize hp:10 ^ g=p at *
 refine fnO v267 ?_;unfold v267;by_cases hc:p<=k
 .have hcI2:(p:Int)<=(k:Int):=oz
  simp only[hc,decide_true,if_true]at c4 |-;simp(disch:=try exact zd) [c1,c2,c3,c4,gl2,hc,hcI2,Opd.val]
 .have hcI2:¬(p:Int)<=(k:Int):=oz
  simp only[hc,decide_false,qx,if_false]at c4 |-;simp(disch:=try exact zd) [c1,c2,c3,c4,gl2,hc,hcI2,Opd.val]
variable {A:Ag}
abbrev arrB (w:Str):Obj:=.arr 1 (wr (Ce w)) 0
def tabS:Str:=(List.range 100).flatMap fun x=>[dg (x / 10),dg x]
theorem tabT (T:Str)(hT:tabS=T):T.length=200/\∀x:Nat,x<100->AH (.sc (.c (.int .u32 ((x:Int)*2)))) 200=some (x*2)/\AH (.sc (.c (.int .u32 ((x:Int)*2+1)))) 200=some (x*2+1)/\
 T[x*2]?=some (dg (x / 10))/\T[x*2+1]?=some (dg x):=by
 subst hT;refine⟨by kernel_rfl,fun x hx=>?_⟩;have h:(List.range 100).all (fun x=>tabS[x*2]?==some (dg (x / 10))&&tabS[x*2+1]?==some (dg x))=true:=by kernel_rfl
 have h1:=HK h hx;simp only[qe,beq_iff_eq]at h1;exact⟨natBelow_cast (n:=x*2) oz,natBelow_cast (n:=x*2+1) oz,h1⟩
theorem Y9 {x y:Nat}(h:x % 10=y % 10):dg x=dg y:=by unfold dg;rw[h]
theorem vset {w:Str}{n i:Nat}{x:UInt8}(hi:i<n)(hn:n<=w.length):((w.set i x).take n).drop i=x::(w.take n).drop (i+1):=by
 apply qH;intro j;cases j with
 |zero=>simp[qah,qac,qaS,hi];omega
 |succ j=>
  simp only[qah,qac,qbc];rw[qaN oz,show i+(j+1)=i+1+j by omega]
def FB (n k i u:Nat)(w:Str):Prop:=w.length=24/\i<=n/\k / 10 ^ (n-i)=u/\(w.take n).drop i=pd (n-i) k
theorem CY {n k i j u x:Nat}{w:Str}(hn:n<=24)(h:FB n k i u w)(hi:i=j+1)(hx:x % 10=u % 10):FB n k j (u / 10) (w.set j (dg x)):=by
 obtain⟨h1,h2,rfl,h4⟩:=h;subst hi;refine⟨by simp[h1],oz,?_,?_⟩
 .rw[show n-j=n-(j+1)+1 by omega,qbq,Nat.div_div_eq_div_mul]
 .rw[vset oz oz,h4,show n-j=n-(j+1)+1 by omega,pd,Y9 hx]
theorem JA {n k i u:Nat}{w:Str}(hk:k<10 ^ n)(h:FB n k i u w):u<10 ^ i:=by
 obtain⟨_,hi,rfl,_⟩:=h;rw[show 10 ^ n=10 ^ (n-i)*10 ^ i by rw[<-Nat.pow_add,show n-i+i=n by omega]]at hk;exact Nat.div_lt_of_lt_mul hk
def gB (w:Str)(i:Nat):UInt8:=w.getD i 0
theorem setG (w:Str)(i:Nat)(h:w.length=24)(hi:i<24):w[i]?=some (gB w i):=by unfold gB;grind
def r268:VCode:=(fun a=>G (rtC a G2)) tabS
theorem Zfg:G2=r268:=by kernel_rfl
theorem Zdv {n k i u:Nat}(hn:n<=24)(hu:u<18446744073709551616){w:Str}(hw:FB n k i u w)(hi:8<=i)(Q:Ex->St->Prop)
 (hQ:∀w',FB n k (i-8) (u / 100000000) w'->Q .normal ⟨[(0,.sc (.vw 0 24 0 n)),(1,u64V (u / 100000000)),(4,intV ((i-8:Nat):Int))],[(0,some (arrB w'))]⟩):
 wp (K A) G2 Q ⟨[(0,.sc (.vw 0 24 0 n)),(1,u64V u),(4,intV i)],[(0,some (arrB w))]⟩:=by
 have h1:=hw.1;have h2:=hw.2.1;have t1:Int.tmod (u:Int) 100000000=((u % 100000000:Nat):Int):=rfl;have t2:Int.tdiv (u:Int) 100000000=((u / 100000000:Nat):Int):=rfl;have hd:u / 10 / 10 / 10 / 10 / 10 / 10 / 10 / 10=u / 100000000:=oz
 have x1:u / 100000000<18446744073709551616:=oz
 generalize hun:u / 100000000=un at *
 generalize huh:u % 100000000=uh at *
 have t3:Int.tdiv (uh:Int) 10000=((uh / 10000:Nat):Int):=rfl;have t4:Int.tmod (uh:Int) 10000=((uh % 10000:Nat):Int):=rfl;generalize hd0:uh / 10000=d0 at *
 generalize hd1:uh % 10000=d1 at *
 have t5:Int.tdiv (d1:Int) 100=((d1 / 100:Nat):Int):=rfl;have t6:Int.tmod (d1:Int) 100=((d1 % 100:Nat):Int):=rfl;have t7:Int.tdiv (d0:Int) 100=((d0 / 100:Nat):Int):=rfl;have t8:Int.tmod (d0:Int) 100=((d0 % 100:Nat):Int):=rfl;generalize ha1:d1 / 100=a1 at *
 generalize ha0:d1 % 100=a0 at *
 generalize hb1:d0 / 100=b1 at *
 generalize hb0:d0 % 100=b0 at *
 have s1:=CY hn hw (j:=i-1) (x:=a0) oz oz;have s2:=CY hn s1 (j:=i-2) (x:=a0 / 10) oz oz;have s3:=CY hn s2 (j:=i-3) (x:=a1) oz oz;have s4:=CY hn s3 (j:=i-4) (x:=a1 / 10) oz oz;have s5:=CY hn s4 (j:=i-5) (x:=b0) oz oz;have s6:=CY hn s5 (j:=i-6) (x:=b0 / 10) oz oz
 have s7:=CY hn s6 (j:=i-7) (x:=b1) oz oz;have s8:=CY hn s7 (j:=i-8) (x:=b1 / 10) oz oz;rw[hd]at s8;have fin:=hQ _ s8;obtain⟨T,hT⟩:∃T,tabS=T:=⟨_,rfl⟩;obtain⟨y1,y2⟩:=tabT T hT;have ya:=y2 a0 oz;have yb:=y2 a1 oz;have yc:=y2 b0 oz;have yd:=y2 b1 oz
 have iI:(i:Int)-1=((i-1:Nat):Int)/\(i:Int)-2=((i-2:Nat):Int)/\(i:Int)-3=((i-3:Nat):Int)/\(i:Int)-4=((i-4:Nat):Int)/\(i:Int)-5=((i-5:Nat):Int)/\(i:Int)-6=((i-6:Nat):Int)/\(i:Int)-7=((i-7:Nat):Int)/\(i:Int)-8=((i-8:Nat):Int):=oz
 have hiI:(8:Int)<=i:=oz
 have hw64:=Dx un x1;have ab:a0<100/\a1<100/\b0<100/\b1<100:=oz
 rw[Zfg];unfold r268 G;rw[hT];clear hT s1 s2 s3 s4 s5 s6 s7 s8 hw hQ y2;simp(maxSteps:=9^8) (disch:=try exact zd) [hiI,t1,t2,t3,t4,t5,t6,t7,t8,y1,ya,yb,yc,yd,iI,hn,h1,hw64,setG,-getElem?_pos];exact fin
variable {A:Ag}
def qC:VCode:=G (fdC 160 v268.body)
def qB:VCode:=(fun a b=>G (rpC 160 b (rtC a (fdC 138 v268.body)))) tabS qC
def qA:VCode:=(fun a b=>G (rpC 138 b (rtC a (fdC 98 v268.body)))) tabS qB
def q190:VCode:=(fun b=>G (rpC 98 b (fdC 96 v268.body))) qA
theorem Zf6:v268=⟨2,(.seq (.region [] [o 17 (.mv (tv 0)),
 o 18 (.len false (tv 17)),
 o 4 (.mv (tv 18))] [] [0,1,4])
 (.seq (.block 0 (.loop G2))
 q190)),[],false⟩:=by kernel_rfl
section
variable {n k i u:Nat}{w:Str}(hn:n<=24)(hk:k<10 ^ n)(hw:FB n k i u w){xs:Env}(Q:Ex->St->Prop)(hQ:∀env w' u',FB n k 0 u' w'->Q .normal ⟨env,[(0,some (arrB w'))]⟩)
include hn hk hw hQ
theorem RO (hi:i<2)(hx:xs=[]\/xs=[(139,Ac false)]):wp (K A) qC Q ⟨(0,.sc (.vw 0 24 0 n))::(4,intV i)::(12,.sc (.c (.int .u32 u)))::xs,[(0,some (arrB w))]⟩:=by
 have h1:=hw.1;have hin:=hw.2.1;have ul:=JA hk hw;obtain rfl|rfl:i=0\/i=1:=oz
 .have fin:=fun env=>hQ env _ _ hw
  unfold qC G;rcases hx with rfl|rfl <;>
  (simp (disch:=try exact zd)
   exact fin _)
 .rw [Nat.pow_one] at ul
  have fin:=fun env=>hQ env _ _ (CY hn hw (j:=0) (x:=u) rfl rfl);have hdg:(48:Int)+u=((dg u).toNat:Int):=by unfold dg;rw[qau ul,UInt8.toNat_ofNat',qau oz];omega
  have hdb:(dg u).toNat<256:=(dg u).toNat_lt;generalize dg u=dgu at *
  unfold qC G;rcases hx with rfl|rfl <;>
  (simp (maxSteps:=9^7) (disch:=try exact zd) [hdg,h1,hn,setG,-getElem?_pos]
   exact fin _)
theorem Ws (hi:i<4)(hx:xs=[]\/xs=[(99,Ac false)]):wp (K A) qB Q ⟨(0,.sc (.vw 0 24 0 n))::(4,intV i)::(12,.sc (.c (.int .u32 u)))::xs,[(0,some (arrB w))]⟩:=by
 have h1:=hw.1;have hin:=hw.2.1;by_cases c:2<=i
 .have g:(2:Int)<=i:=oz
  have ul:=JA hk hw;have ul2:10 ^ i<=10 ^ 3:=Nat.pow_le_pow_right oz oz;have t1:Int.tmod (u:Int) 100=((u % 100:Nat):Int):=rfl;have t2:Int.tdiv (u:Int) 100=((u / 100:Nat):Int):=rfl;have hd:u / 10 / 10=u / 100:=oz
  have s2:=CY hn (CY hn hw (j:=i-1) (x:=u % 100) oz oz) (j:=i-2) (x:=u % 100 / 10) oz oz;rw[hd]at s2;have fin:=RO (A:=A) hn hk s2 Q hQ oz (.inl rfl);obtain⟨T,hT⟩:∃T,tabS=T:=⟨_,rfl⟩;obtain⟨y1,y2⟩:=tabT T hT;have hc:u % 100<100:=oz
  have ya:=y2 (u % 100) hc;have iI:(i:Int)-1=((i-1:Nat):Int)/\(i:Int)-2=((i-2:Nat):Int):=oz
  unfold qB G;rw[hT];clear hT y2 hQ hw;generalize u % 100=c0 at *
  generalize u / 100=u1 at *
  rcases hx with rfl|rfl <;>
  (simp (maxSteps:=9^7) (disch:=try exact zd) [g,c,t1,t2,y1,ya,iI,h1,hn,setG,-getElem?_pos]
   exact fin)
 .have g:¬(2:Int)<=i:=oz
  have fin:=RO (A:=A) hn hk hw Q hQ oz (.inr rfl);unfold qB G;rcases hx with rfl|rfl <;>
  (simp (maxSteps:=9^7) (disch:=try exact zd) [g,c]
   exact fin)
theorem Zm (hi:i<8):wp (K A) qA Q ⟨[(0,.sc (.vw 0 24 0 n)),(4,intV i),(12,.sc (.c (.int .u32 u)))],[(0,some (arrB w))]⟩:=by
 have h1:=hw.1;have hin:=hw.2.1;by_cases c:4<=i
 .have g:(4:Int)<=i:=oz
  have ul:=JA hk hw;have ul2:10 ^ i<=10 ^ 7:=Nat.pow_le_pow_right oz oz;have t1:Int.tmod (u:Int) 10000=((u % 10000:Nat):Int):=rfl;have t2:Int.tdiv (u:Int) 10000=((u / 10000:Nat):Int):=rfl;have hd:u / 10 / 10 / 10 / 10=u / 10000:=oz
  generalize hr:u % 10000=r at *
  have t3:Int.tmod (r:Int) 100=((r % 100:Nat):Int):=rfl;have t4:Int.tdiv (r:Int) 100=((r / 100:Nat):Int):=rfl;generalize ha0:r % 100=a0 at *
  generalize ha1:r / 100=a1 at *
  have s2:=CY hn (CY hn hw (j:=i-1) (x:=a0) oz oz) (j:=i-2) (x:=a0 / 10) oz oz;have s4:=CY hn (CY hn s2 (j:=i-3) (x:=a1) oz oz) (j:=i-4) (x:=a1 / 10) oz oz;rw[hd]at s4;have fin:=Ws (A:=A) hn hk s4 Q hQ oz (.inl rfl);obtain⟨T,hT⟩:∃T,tabS=T:=⟨_,rfl⟩;obtain⟨y1,y2⟩:=tabT T hT;have ab:a0<100/\a1<100:=oz
  have ya:=y2 a0 ab.1;have yb:=y2 a1 ab.2;have iI:(i:Int)-1=((i-1:Nat):Int)/\(i:Int)-2=((i-2:Nat):Int)/\(i:Int)-3=((i-3:Nat):Int)/\(i:Int)-4=((i-4:Nat):Int):=oz
  unfold qA G;rw[hT];clear hT y2 hQ hw s2 s4;generalize u / 10000=u1 at *
  simp(maxSteps:=9^7) (disch:=try exact zd) [g,c,t1,t2,t3,t4,y1,ya,yb,iI,h1,hn,setG,-getElem?_pos];exact fin
 .have g:¬(4:Int)<=i:=oz
  have fin:=Ws (A:=A) hn hk hw Q hQ oz (.inr rfl);unfold qA G;simp(maxSteps:=9^7) (disch:=try exact zd) [g,c];exact fin
theorem ZeB (hi:i<8):wp (K A) q190 Q ⟨[(0,.sc (.vw 0 24 0 n)),(1,u64V u),(4,intV i),(20,Ac false)],[(0,some (arrB w))]⟩:=by
 have ul:=JA hk hw;have ul2:10 ^ i<=10 ^ 7:=Nat.pow_le_pow_right oz oz;have fin:=Zm (A:=A) hn hk hw Q hQ hi;unfold q190 G;simp(disch:=try exact zd);exact fin
end
theorem ZdB (n k:Nat)(hn:n<=24)(hk:k<10 ^ n)(hk2:k<18446744073709551616){w:Str}(hw:w.length=24):
 ∃r,(∃w':Str,w'.length=24/\w'.take n=pd n k/\r=(retV,[arrB w']))/\(K A).call 268 [.sc (.vw 0 24 0 n),u64V k] [arrB w]=some r:=by
 refine fnE v268 ?_;generalize hQ:B3 v268.keep [arrB w].length v268.results (fun r=>∃w':Str,w'.length=24/\w'.take n=pd n k/\r=(retV,[arrB w']))=Q;have hret:∀env w' u,FB n k 0 u w'->Q .normal ⟨env,[(0,some (arrB w'))]⟩:=by
  intro env w' u h1;rw[<-hQ];show B3 false 1 [] _ .normal _;rw[endsQ_normal];simp[retV,h1.1];exact⟨w',h1.1,by simpa using h1.2.2.2,rfl⟩
 clear hQ;have hcut:=Vp (w:=w) (n:=n) oz;rw[Zf6];simp(disch:=try exact zd) [hcut,hw,hn];refine Al (fun r s=>∃(i u:Nat) (w:Str),i+8*r=n/\FB n k i u w/\s=⟨[(0,.sc (.vw 0 24 0 n)),(1,u64V u),(4,intV i)],[(0,some (arrB w))]⟩) (n / 8)
  ⟨n,k,w,oz,⟨hw,qg _,by rw[qa2,Nat.pow_zero,Nat.div_one],by rw[qa2,qae (by simp;omega)];rfl⟩,rfl⟩ ?_ ?_
 .rintro r s hr ⟨i,u,w,hi,hf,rfl⟩
  refine Zdv (A:=A) hn (by obtain⟨_,_,rfl,_⟩:=hf;exact Nat.lt_of_le_of_lt (Nat.div_le_self ..) hk2) hf oz _ ?_;intro w' hf';exact .inl ⟨rfl,i-8,_,w',oz,hf',rfl⟩
 .rintro s ⟨i,u,w,hi,hf,rfl⟩
  have hi8:i<8:=oz
  have hi8I:¬(8:Int)<=i:=oz
  have hi8N:¬8<=i:=oz
  have fin:=ZeB (A:=A) hn hk hf Q hret hi8;unfold G2;simp(disch:=try exact zd) [hi8,hi8I,hi8N];exact fin
theorem Rk (k:Nat)(hk:k<18446744073709551616):(K A).call 227 [u64V k,intV 10] []=some (strV (numS k),[]):=by
 by_cases h100:k<100
 .exact Y8 k h100
 have h137:(K A).call 248 [u64V k,intV 10] []=some (strV (numS k),[]):=by
  refine fnO v248 ?_;have h1:¬(k:Int)<100:=oz
  obtain⟨d1,d2,d3,d4⟩:=ZeV (k:=k) oz hk;have hnd:=ZeC (A:=A) k hk;obtain⟨_,⟨w',k1,k2,rfl⟩,hc⟩:=ZdB (A:=A) (ndig k) k oz d4 hk (w:=List.replicate 24 0) sy;have hnum:pd (ndig k) k=numS k:=by
   obtain⟨m,hm⟩:∃m,ndig k=m+1:=⟨ndig k-1,oz⟩;rw[hm]at d3 d4 |-;exact TU m k d3 d4
  have hpl:=Tk (ndig k) k;rw[hnum]at k2 hpl;generalize ndig k=n at *
  generalize hS:numS k=S at *
  have hSn:S≠[]:=by
   intro h0;rw[h0]at hpl;simp at hpl;omega
  have hz:List.replicate 24 [W.c (.int .u8 0)]=wr (Ce (List.replicate 24 0)):=WG 24;have hmx:24<=Bc:=by decide
  have hzl:(List.replicate 24 (0:UInt8)).length=24:=by simp
  generalize List.replicate 24 (0:UInt8)=z0 at *
  have hcut:=Vp (w:=w') (n:=n) oz;rw[k2]at hcut;unfold v248;simp(disch:=try exact zd) [h1,hnd,hz,hmx,hc,hcut,hzl,k1,hSn,retV,V.ren,-getElem?_pos,-List.reduceReplicate]
 refine fnO v227 ?_;unfold v227;simp[h137]
end Go.Vs.Tryz
namespace Go.Vs
open Go
@[simp] theorem b_ifw5 {t:TypeId} {o:Bool} {r:List W}:binV .eql 5 (.sc (.ifw t o r)) (.sc (.c .nilif))=some (.sc (.c (.bool false)),[]):=rfl
@[simp] theorem b_nilif5:binV .eql 5 (.sc (.c .nilif)) (.sc (.c .nilif))=some (.sc (.c (.bool true)),[]):=rfl
end Go.Vs
namespace Go.Vs.Tryz
open Go Go.Vs
variable {A:Ag}
abbrev badR (s:Str):V×List Obj:=(.tu [u64V 0,.sc (.ifw 275 true [.ptr 0 0])],[.box [.c (.str [80,97,114,115,101,85,105,110,116]),.c (.str s),.c (errCell G0)]])
abbrev okR (n:Nat):V×List Obj:=(.tu [u64V n,.sc (.c .nilif)],[])
def Zik (A:Ag)(s:Str)(m:Option Nat):Prop:=∃dg is,(K A).call 225 [strV s,strV [118]] []=some (.tu [strV dg,Ac is],[])/\
 (((∃ s',(K A).call 226 [strV dg,intV 10,intV 64] []=some (badR s'))/\m=none) \/
  (∃n,(K A).call 226 [strV dg,intV 10,intV 64] []=some (okR n)/\is=true/\0<n/\(K A).call 227 [u64V n,intV 10] []=some (strV dg,[])/\m=some n))
def Ziw:List Str:=Cd++[[118,51]]
def numN (s:Str):Option Nat:=if s=[118,49] then some 1 else if s=[118,50] then some 2 else if s=[118,51] then some 3 else none
end Go.Vs.Tryz
namespace Go.Vs
open Go
variable {C:Ctx}{E:LV1}{L:LO1}{oid:Nat}
def ifcK (t:TypeId):V->Option (V×Upd)
 |.sc (.c y)=>some (.sc (.c (.ifc t true [y])),[])
 |.sc w=>bif Ap w then some (.sc (.ifw t true [w]),[]) else none
 |.ag cs=>match Ae (fun w=>match w with | .c y=>some y | _=>none) cs with
  |some l=>some (.sc (.c (.ifc t false l)),[])
  |none=>some (.sc (.ifw t false cs),[])
 |.tu _=>none
@[simp] theorem ifcK_c {t:TypeId} {y:Cell}:ifcK t (.sc (.c y))=some (.sc (.c (.ifc t true [y])),[]):=rfl
@[simp] theorem ifcK_ptr {t:TypeId} {k o:Nat}:ifcK t (.sc (.ptr k o))=some (.sc (.ifw t true [.ptr k o]),[]):=rfl
@[simp] theorem x_ifc {t:TypeId} {x:Opd}:Af C E L oid (.ifc t x)=ifcK t (x.val C E):=by
 simp only[Af];generalize x.val C E=v;cases v with
 |sc w=>cases w<;>rfl
 |_=>rfl
def cvBK:V->Option (V×Upd)
 |.sc (.c (.str s))=>bif Nat.ble s.length Bc then some (.sc (.c (.sl (s.map fun b=>[Cell.int .u8 b.toNat]))),[]) else none
 |_=>none
@[simp] theorem cvBK_str {s:List UInt8} (h:s.length<=Bc):cvBK (.sc (.c (.str s)))=some (.sc (.c (.sl (s.map fun b=>[Cell.int .u8 b.toNat]))),[]):=by
 unfold cvBK;simp only;rw[show Nat.ble s.length Bc=true from qY h];rfl
@[simp] theorem x_cvB {x:Opd}:Af C E L oid (.cvB x)=cvBK (x.val C E):=by
 simp only[Af];generalize x.val C E=v;cases v with
 |sc w=>
  cases w with
  |c y=>cases y<;>rfl
  |_=>rfl
 |_=>rfl
@[simp] theorem b_eq215 {m n:Int}:binV .eql 278 (.sc (.c (.ifc 272 true [.int .i64 m]))) (.sc (.c (.ifc 272 true [.int .i64 n])))=some (.sc (.c (.bool (decide (m=n)))),[]):=by
 simp[binV,binW,CF];rw[qbs];simp
@[simp] theorem b_neqif5 {t:TypeId} {o:Bool} {r:List Cell}:binV .neq 5 (.sc (.c (.ifc t o r))) (.sc (.c .nilif))=some (.sc (.c (.bool true)),[]):=rfl
@[simp] theorem b_neqnil5:binV .neq 5 (.sc (.c .nilif)) (.sc (.c .nilif))=some (.sc (.c (.bool false)),[]):=rfl
end Go.Vs
namespace Go.Vs.Tryz
open Go Go.Vs
variable {A:Ag}
abbrev u8V (n:Nat):V:=.sc (.c (.int .u8 n))
def NW (r:Option (V×List Obj)):Bool:=match r with
 |some (.sc (.c (.int .u8 j)),[])=>decide (0<=j)&&decide (j<256)
 |_=>false
theorem Zbd {r:Option (V×List Obj)}(h:NW r=true):∃j:Nat,j<256/\r=some (u8V j,[]):=by
 unfold NW at h;split at h
 .rename_i j
  simp only[qe,decide_eq_true_eq]at h;refine⟨j.toNat,oz,?_⟩;show _=some (V.sc (W.c (Cell.int .u8 ((j.toNat:Nat):Int))),[]);rw[Int.toNat_of_nonneg h.1]
 .cases h
theorem Zf9 (m:Nat)(h:m<256):∃j:Nat,j<256/\(K A).call 260 [u8V m] []=some (u8V j,[]):=by
 have h1:(List.range 256).all (fun m=>NW (Bi T2 (X2 A) gl0 10 260 [u8V m] []))=true:=by kernel_rfl
 obtain⟨j,h2,h3⟩:=Zbd (HK h1 h);exact⟨j,h2,Ek h3⟩
inductive PR where
 |ok (n:Nat)
 |syn
 |rng
def CG:Str->Nat->PR
 |[],n=>.ok n
 |c::r,n=>if 48<=c.toNat/\c.toNat<=57 then
  if 1844674407370955162<=n then .rng else if 18446744073709551616<=n*10+(c.toNat-48) then .rng else CG r (n*10+(c.toNat-48))
  else .syn
def D2 (s:Str):PR:=if s=[] then .syn else CG s 0
abbrev perr (e:Int):V:=.sc (.c (.ifc 272 true [.int .i64 e]))
def prV:PR->V
 |.ok n=>.tu [u64V n,.sc (.c .nilif)]
 |.syn=>.tu [u64V 0,perr 2]
 |.rng=>.tu [.sc (.c (.int .u64 18446744073709551615)),perr 1]
def Fl (s:Str):CC1:=s.map fun b=>[Cell.int .u8 b.toNat]
@[simp] theorem chrRows_get (s:Str) (i:Nat):(Fl s)[i]?=(s[i]?).map fun b=>[Cell.int .u8 b.toNat]:=by simp[Fl]
@[simp] theorem chrRows_len (s:Str):(Fl s).length=s.length:=by simp[Fl]
abbrev P0 (s:Str)(i n:Nat):Env:=[(1,intV 10),(8,Ac false),(9,strV s),(10,.sc (.c (.int .u64 1844674407370955162))),(11,.sc (.c (.int .u64 18446744073709551615))),(12,Ac false),(13,u64V n),(99,.sc (.c (.sl (Fl s)))),(100,intV s.length),(101,intV i)]
abbrev P1 (s:Str)(i n:Nat):Env:=[(1,intV 10),(8,Ac false),(9,strV s),(10,.sc (.c (.int .u64 1844674407370955162))),(11,.sc (.c (.int .u64 18446744073709551615))),(12,Ac false),(99,.sc (.c (.sl (Fl s)))),(100,intV s.length),(101,intV i),(13,u64V n)]
theorem Zig (s:Str)(hl:s.length<=281474976710656):(K A).call 246 [strV s,intV 10,intV 64] []=some (prV (D2 s),[]):=by
 refine fnO v246 ?_;unfold v246;by_cases h0:s=[]
 .subst h0
  simp[D2,prV]
 .have hmx:s.length<=Bc:=qr hl (by decide)
  have hs0:shlI .u64 1 64=0:=by decide
  have hw0:IntKind.u64.wrap (0-1)=18446744073709551615:=by decide
  have hw1:IntKind.u64.wrap (-1)=18446744073709551615:=by decide
  have hcs:(s.map fun b=>[Cell.int .u8 (b.toNat:Int)])=Fl s:=rfl;generalize hR:D2 s=R;unfold D2 at hR;rw[if_neg h0]at hR;simp(disch:=try exact zd) [h0,hmx,hs0,hw0,hw1,hcs];refine Al (fun r t=>∃n,n<18446744073709551616/\CG (s.drop r) n=R/\(t=⟨P0 s r n,[]⟩\/t=⟨P1 s r n,[]⟩)) s.length ⟨0,oz,by simpa using hR,.inl sy⟩ ?_ ?_
  .rintro r t hr ⟨n,hn,hp,ht⟩
   obtain⟨c,hc⟩:=Ab (l:=s) (i:=r) hr;have hdrop:s.drop r=c::s.drop (r+1):=by
    obtain⟨h1,h2⟩:=qf.1 hc;rw[qa7 h1,h2]
   rw[hdrop,CG]at hp;have hc256:c.toNat<256:=c.toNat_lt;have hrI:(r:Int)<(s.length:Int):=oz;have hcrow:(Fl s)[r]?=some [Cell.int .u8 c.toNat]:=(by simp[hc]);generalize c.toNat=m at *
   unfold MB;by_cases hd:48<=m/\m<=57
   .rw [if_pos hd] at hp
    obtain⟨hd1,hd2⟩:=hd;have hd1I:(48:Int)<=m:=oz;have hd2I:(m:Int)<=57:=oz;have h95:¬(m:Int)=95:=oz;have h95N:¬m=95:=oz;have hmI:(m:Int)-48=((m-48:Nat):Int):=oz;have hd9:m-48<=9:=oz;generalize m-48=d at *
    have hn10:¬(10:Int)<=d:=oz;by_cases hcut:1844674407370955162<=n
    .rw [if_pos hcut] at hp
     subst hp;have hcutI:(1844674407370955162:Int)<=n:=oz;rcases ht with rfl|rfl <;>
     simp(disch:=try exact zd) [hcrow,hrI,hr,h95,h95N,hd1I,hd2I,hd1,hd2,hmI,hn10,hcut,hcutI,prV,-getElem?_pos,-chrRows_get]
    .rw [if_neg hcut] at hp
     have hcutI:¬(1844674407370955162:Int)<=n:=oz;have hmul:IntKind.u64.wrap ((n:Int)*10)=((n*10:Nat):Int):=by
      rw[show(n:Int)*10=((n*10:Nat):Int) by omega];exact Dx _ oz
     have hn10b:n*10<=18446744073709551610:=oz;generalize n*10=q at *
     have hwd:IntKind.u64.wrap (d:Int)=d:=Dx d oz;by_cases hov:18446744073709551616<=q+d
     .rw [if_pos hov] at hp
      subst hp;have hadd:IntKind.u64.wrap ((q:Int)+d)=((q+d-18446744073709551616:Nat):Int):=by
       unfold IntKind.wrap;simp[IntKind.bits,IntKind.signed];omega
      have hlt:((q+d-18446744073709551616:Nat):Int)<(q:Int):=oz;have hltN:q+d-18446744073709551616<q:=oz;generalize q+d-18446744073709551616=z at *
      rcases ht with rfl|rfl <;>
      simp(disch:=try exact zd) [hcrow,hrI,hr,h95,h95N,hd1I,hd2I,hd1,hd2,hmI,hn10,hcut,hcutI,hmul,hwd,hadd,hlt,hltN,prV,-getElem?_pos,-chrRows_get]
     .rw [if_neg hov] at hp
      have hadd:IntKind.u64.wrap ((q:Int)+d)=((q+d:Nat):Int):=by
       rw[show(q:Int)+d=((q+d:Nat):Int) by omega];exact Dx _ oz
      have hge:¬((q+d:Nat):Int)<(q:Int):=oz;have hgeN:¬q+d<q:=oz;have hzl:q+d<18446744073709551616:=oz;generalize q+d=z at *
      have hzm:¬(18446744073709551615:Int)<(z:Int):=oz;have hzmN:¬18446744073709551615<z:=oz;have fin:∃n,n<18446744073709551616/\CG (s.drop (r+1)) n=R/\((⟨P1 s (r+1) z,[]⟩:St)=⟨P0 s (r+1) n,[]⟩\/(⟨P1 s (r+1) z,[]⟩:St)=⟨P1 s (r+1) n,[]⟩):=⟨z,hzl,hp,.inr rfl⟩;rcases ht with rfl|rfl <;>
      (simp (disch:=try exact zd) [hcrow,hrI,hr,h95,h95N,hd1I,hd2I,hd1,hd2,hmI,hn10,hcut,hcutI,hmul,hwd,hadd,hge,hgeN,hzm,hzmN,-getElem?_pos,-chrRows_get]
       simpa[-chrRows_get]using fin)
   .rw [if_neg hd] at hp
    subst hp;obtain⟨j,hj,hlow⟩:=Zf9 (A:=A) m hc256;have h10:(97:Int)<=j->(10:Int)<=(j:Int)-97+10:=fun h=>by omega
    obtain⟨b,hb⟩:∃b,decide ((m:Int)=95)=b:=⟨_,rfl⟩;cases b<;>by_cases h48:(48:Int)<=m<;>by_cases h57:(m:Int)<=57<;>by_cases h97:(97:Int)<=j<;>by_cases h122:(j:Int)<=122 <;>
    first
    |(exfalso;omega)
    | (rcases ht with rfl | rfl <;>
       simp(disch:=try exact zd) [hcrow,hrI,hr,hlow,hb,h48,h57,h97,h122,h10,prV,-getElem?_pos,-chrRows_get])
  .rintro t ⟨n,hn,hp,ht⟩
   rw[qax]at hp;subst hp;unfold MB;rcases ht with rfl|rfl <;>
   simp(disch:=try exact zd) [CG,prV,-getElem?_pos,-chrRows_get]
end Go.Vs.Tryz
namespace Go.Vs
open Go
@[simp] theorem refs_ifw {t:TypeId} {o:Bool} {row:List W}:W.refs 4 (.ifw t o row)=row.flatMap (W.refs 3):=rfl
@[simp] theorem ren_ifw {ρ:LN1} {t:TypeId} {o:Bool} {row:List W}:W.ren ρ 4 (.ifw t o row)=.ifw t o (row.map (W.ren ρ 3)):=rfl
@[simp] theorem refs3_ptr {k o:Nat}:W.refs 3 (.ptr k o)=[k]:=rfl
@[simp] theorem ren3_ptr {ρ:LN1} {k o:Nat}:W.ren ρ 3 (.ptr k o)=match ρ k with | some j=>.ptr j o | none=>.un:=rfl
end Go.Vs
namespace Go.Vs.Tryz
open Go Go.Vs
variable {A:Ag}
theorem QQ (s:Str)(h:s.length<=281474976710656):(K A).call 284 [strV s] []=some (strV s,[]):=by
 have hT:T2 284=none:=by kernel_rfl
 have hs:skip 284=false:=rfl;refine Ek (n:=1) ?_;simp only[Bi,hT];unfold X2;rw[hs];simp only[cond_false,X1];rw[show(284==284&&Nat.ble s.length 281474976710656)=true by simp;omega];rfl
theorem Xw (f s:Str)(h:s.length<=281474976710656):∃e,(K A).call 262 [strV f,strV s] []=some (.sc (.ptr 0 0),[.box [.c (.str f),.c (.str s),.c e]]):=by
 have hc:=QQ (A:=A) s h;have hg:gl0 0=[errCell G0]:=rfl;refine⟨errCell G0,?_⟩;refine fnO v262 ?_;unfold v262;generalize errCell G0=e at *
 simp[hc,hg,Opd.val,V.ren]
theorem YA (f s:Str)(h:s.length<=281474976710656):∃e,(K A).call 263 [strV f,strV s] []=some (.sc (.ptr 0 0),[.box [.c (.str f),.c (.str s),.c e]]):=by
 have hc:=QQ (A:=A) s h;have hg:gl0 1=[errCell HU]:=rfl;refine⟨errCell HU,?_⟩;refine fnO v263 ?_;unfold v263;generalize errCell HU=e at *
 simp[hc,hg,Opd.val,V.ren]
theorem R3 (f s:Str)(h:s.length<=281474976710656)(n:Int)(he:n=1\/n=2):∃e,(K A).call 247 [strV f,strV s,intV 10,intV 64,perr n] []=some (.sc (.ifw 275 true [.ptr 0 0]),[.box [.c (.str f),.c (.str s),.c e]]):=by
 obtain⟨l1,h1⟩:=Xw (A:=A) f s h;obtain⟨l2,h2⟩:=YA (A:=A) f s h;rcases he with rfl|rfl
 .refine ⟨l2,?_⟩
  refine fnO v247 ?_;unfold v247;simp[h2,V.ren]
 .refine ⟨l1,?_⟩
  refine fnO v247 ?_;unfold v247;simp[h1,V.ren]
def Par (p:PR)(r:V×List Obj):Prop:=match p with
 |.ok n=>r=okR n
 |_=>∃(x:Int) (l:List W),r=(.tu [.sc (.c (.int .u64 x)),.sc (.ifw 275 true [.ptr 0 0])],[.box l])
theorem Zgw (s:Str)(h:s.length<=281474976710656):∃r,Par (D2 s) r/\(K A).call 226 [strV s,intV 10,intV 64] []=some r:=by
 have hc:=Zig (A:=A) s h;obtain⟨l1,h1⟩:=R3 (A:=A) [80,97,114,115,101,85,105,110,116] s h 1 (.inl rfl);obtain⟨l2,h2⟩:=R3 (A:=A) [80,97,114,115,101,85,105,110,116] s h 2 (.inr rfl);generalize D2 s=p at *
 cases p with
 |ok n=>
  refine⟨okR n,rfl,?_⟩;refine fnO v226 ?_;unfold v226;simp only[prV]at hc;simp[hc]
 |syn=>
  refine⟨(.tu [u64V 0,.sc (.ifw 275 true [.ptr 0 0])],[.box [.c (.str [80,97,114,115,101,85,105,110,116]),.c (.str s),.c l2]]),⟨_,_,rfl⟩,?_⟩;refine fnO v226 ?_;unfold v226;simp only[prV]at hc;simp[hc,h2,V.ren]
 |rng=>
  refine⟨(.tu [.sc (.c (.int .u64 18446744073709551615)),.sc (.ifw 275 true [.ptr 0 0])],[.box [.c (.str [80,97,114,115,101,85,105,110,116]),.c (.str s),.c l1]]),⟨_,_,rfl⟩,?_⟩;refine fnO v226 ?_;unfold v226;simp only[prV]at hc;simp[hc,h1,V.ren]
def cutV:Str->Str×Bool
 |[]=>([],false)
 |c::r=>if c=118 then (r,true) else (c::r,false)
theorem ZaH (s:Str):(cutV s).1.length<=s.length:=by
 cases s with
 |nil=>simp[cutV]
 |cons c r=>
  simp only[cutV];split<;>simp
theorem NS (n:Nat):AR (some (.sc (.c (.int .i64 1)))) (n+1) (n+1)=some 1:=by
 show(bif Nat.blt 1 (n+1+1) then some 1 else none)=_;rw[show Nat.blt 1 (n+1+1)=true from qY oz];rfl
theorem Zen (n:Nat):AR (some (.sc (.c (.int .i64 1)))) 0 (n+1)=some 1:=NS n
theorem UP (n:Nat):AR none 0 n=some 0:=by
 show(bif Nat.ble 0 n then some 0 else none)=_;rw[show Nat.ble 0 n=true from qY (qaa _)];rfl
theorem ZdG (n:Nat):AR none n n=some n:=by
 show(bif Nat.ble n n then some n else none)=_;rw[show Nat.ble n n=true from qY (qg _)];rfl
theorem Zq (s:Str)(h:s.length<=281474976710656):(K A).call 225 [strV s,strV [118]] []=some (.tu [strV (cutV s).1,Ac (cutV s).2],[]):=by
 have h181:(K A).call 259 [strV s,strV [118]] []=some (Ac (cutV s).2,[]):=by
  refine fnO v259 ?_;unfold v259;cases s with
  |nil=>simp[cutV]
  |cons c r=>
   have hl:(1:Int)<=(r.length:Int)+1:=oz;by_cases hc:c=118
   .subst hc
    simp[cutV,hl,NS,UP,ownV]
   .simp[cutV,hl,hc,NS,UP,ownV]
 have h134:(K A).call 245 [strV s,strV [118]] []=some (.tu [strV (cutV s).1,Ac (cutV s).2],[]):=by
  refine fnO v245 ?_;unfold v245;cases s with
  |nil=>
   simp only[cutV]at h181 |-;simp[h181]
  |cons c r=>
   by_cases hc:c=118
   .subst hc
    simp only[cutV,if_true]at h181 |-;simp[h181,Zen,ZdG]
   .simp only [cutV,hc,if_false] at h181 |-
    simp[h181]
 refine fnO v225 ?_;unfold v225;simp[h134]
def numT (s:Str):Option Nat:=if (cutV s).2=true then
 match D2 (cutV s).1 with
 |.ok k=>if 0<k/\numS k=(cutV s).1 then some k else none
 |_=>none
 else none
def O9 (c:UInt8)(n:Nat):PR:=if 48<=c.toNat/\c.toNat<=57 then
 if 1844674407370955162<=n then .rng else if 18446744073709551616<=n*10+(c.toNat-48) then .rng else .ok (n*10+(c.toNat-48))
 else .syn
theorem Wm (c:UInt8):∀(a:Str)(n m:Nat),CG a n=.ok m->CG (a++[c]) n=O9 c m
 |[],n,m,h=>by
  simp only[CG]at h;cases h;simp only[qad,CG,O9]
 |x::a,n,m,h=>by
  simp only[CG,qbb]at h |-;split at h
  .rename_i h1
   rw[if_pos h1];split at h
   .cases h
   .rename_i h2
    rw[if_neg h2];split at h
    .cases h
    .rename_i h3
     rw[if_neg h3];exact Wm c a _ m h
  .cases h
theorem L5 {d:Nat}(h:d<10):(UInt8.ofNat (48+d)).toNat=48+d:=by
 rw[UInt8.toNat_ofNat',qau oz]
theorem Zbt:∀(f k:Nat),k<=f->k<18446744073709551616->CG (numS k) 0=.ok k:=by
 intro f
 induction f with
 |zero=>
  intro k hk _;obtain rfl:k=0:=oz
  rw[En oz];have:=L5 (d:=0) oz;simp only[CG,this];simp
 |succ f ih=>
  intro k hk hb;by_cases h10:k<10
  .rw [En h10]
   have:=L5 h10;simp only[CG,this];rw[if_pos oz,if_neg oz,if_neg oz];congr 1;omega
  .rw [Ee h10,Wm _ _ _ (k / 10) (ih (k / 10) oz oz)]
   have:=L5 (d:=k % 10) oz;unfold O9;rw[this,if_pos oz,if_neg oz,if_neg oz];congr 1;omega
theorem Mi:∀(a:Str)(n m:Nat),n<18446744073709551616->CG a n=.ok m->m<18446744073709551616
 |[],n,m,hn,h=>by
  simp only[CG]at h;cases h;exact hn
 |x::a,n,m,hn,h=>by
  simp only[CG]at h;split at h
  .split at h
   .cases h
   .split at h
    .cases h
    .rename_i h3
     exact Mi a _ m oz h
  .cases h
theorem PS {s:Str}{k:Nat}(hk:k<18446744073709551616):numT s=some k↔1<=k/\AK k=s:=by
 constructor
 .intro h
  unfold numT at h;split at h
  .rename_i hc
   split at h
   .rename_i m hp
    split at h
    .rename_i hm
     cases h;refine⟨hm.1,?_⟩;cases s with
     |nil=>simp[cutV]at hc
     |cons c r=>
      simp only[cutV]at hc hm;by_cases hc1:c=118
      .rw [if_pos hc1] at hm
       rw[hc1];unfold AK;rw[hm.2]
      .rw [if_neg hc1] at hc
       cases hc
    .cases h
   .cases h
  .cases h
 .rintro ⟨h1,rfl⟩
  have hc:cutV (AK k)=(numS k,true):=by simp[cutV,AK]
  have hne:numS k≠[]:=by
   intro h0;have:=Tm k;rw[h0]at this;simp at this
  unfold numT;rw[hc];simp only[if_true,D2,hne,if_false,Zbt k k (qg _) hk];rw[if_pos ⟨h1,trivial⟩]
theorem Sp {s:Str}{k:Nat}(h:numT s=some k):k<18446744073709551616:=by
 unfold numT at h;split at h
 .split at h
  .rename_i m hp
   split at h
   .cases h
    unfold D2 at hp;split at hp
    .cases hp
    .exact Mi _ 0 _ oz hp
   .cases h
  .cases h
 .cases h
variable {A:Ag}
theorem ZgD {taken:List Str}{l:List Nat}(hl:G6 l)(hpos:∀x∈l,1<=x)(n:Nat)(hmem:∀k,k<=n+1+l.length->(k∈l↔1<=k/\AK k∈taken)):l.foldl bump (n+1)=AS n taken:=by
 obtain⟨h1,h2⟩:=TS hl n l.length (qg _);rw[qaM]at h1 h2;generalize l.foldl bump (n+1)=k at h1 h2;have hbl:DZ l k<=l.length:=List.length_filter_le ..;have hk1:1<=k:=oz
 have hkb:k<=n+1+l.length:=oz
 refine(Pn hk1 (fun h=>h2 ((hmem k hkb).2 ⟨hk1,h⟩)) ?_).symm;have key:∀b,1<=b->b<=k->B2 taken 1 b+DZ l b=b-1:=by
  intro b hb hbk
  induction b with
  |zero=>omega
  |succ b ih=>
   rcases Nat.eq_zero_or_pos b with h0|h0
   .subst h0
    rw[Pb];unfold DZ;simp only[qaI,qbg,qa2,qS,List.filter_eq_nil_iff];intro x hx;have:=hpos x hx;simp only[decide_eq_true_eq];omega
   .have ih:B2 taken 1 b+DZ l b=b-1:=ih h0 oz
    have h9:b+1-1=b:=oz;rw[h9];rw[Gg _ _ _ (show 1<=b from h0),VH (Zu hl)];by_cases hb:AK b∈taken
    .rw [if_neg (by simpa using hb),if_pos ((hmem b oz).2 ⟨h0,hb⟩)]
     omega
    .rw [if_pos hb,if_neg (fun h=>hb ((hmem b oz).1 h).2)]
     omega
 have:=key k hk1 (qg _);omega
def EA (taken:List Str):List Nat:=taken.filterMap numT
theorem Ru (taken:List Str):(EA taken).length<=taken.length:=List.length_filterMap_le ..
theorem Zij {taken:List Str}{r:Nat}{s:Str}(h:taken[r]?=some s):EA (taken.take (r+1))=EA (taken.take r)++(numT s).toList:=by
 unfold EA;rw[AP h,List.filterMap_append];cases hn:numT s<;>simp[hn]
abbrev F28 (n:Int)(taken:List Str)(r:Nat)(u:List Nat):St:=⟨[(0,intV n),(5,.sc (.arr 129 u.length)),(15,AA taken),(16,intV taken.length),(17,intV r)],[(129,some (arrU u))]⟩
theorem ZhT (n:Int)(taken:List Str)(ht:taken.length<=687194767360)(hs:∀s∈taken,s.length<=281474976710656){r:Nat}{s:Str}(hr:taken[r]?=some s)(u:List Nat)(hu:u.length<=r)(Q:Ex->St->Prop)
 (hQ:Q .normal (F28 n taken (r+1) (u++(numT s).toList))):wp (K A) Iu Q (F28 n taken r u):=by
 have hrl:r<taken.length:=(qf.1 hr).1;have hsl:=hs s (qc hr);have hc:=Zq (A:=A) s hsl;have hcl:=ZaH s;obtain⟨_,hp,hcall⟩:=Zgw (A:=A) (cutV s).1 oz;have hrI:(r:Int)<taken.length:=oz
 unfold numT at hQ;generalize cutV s=cv at *
 obtain⟨dg,is⟩:=cv;simp only at *
 generalize hpd:D2 dg=p at *
 have hlt:∀k,p=.ok k->k<18446744073709551616:=by
  intro k hk;rw[hk]at hpd;unfold D2 at hpd;split at hpd
  .cases hpd
  .exact Mi _ 0 _ oz hpd
 unfold Iu;cases p with
 |ok k=>
  simp only[Par]at hp;subst hp;have hk:=hlt k rfl;have hf:=Rk (A:=A) k hk;cases is with
  |false=>
   simp only[qx,if_false,Option.toList_none,qK]at hQ;simp(maxSteps:=9^7) (disch:=try exact zd) [hr,hrl,hrI,hc,hcall,hf,-getElem?_pos];exact hQ
  |true=>
   simp only[if_true]at hQ;by_cases hk0:0<k
   .have hk0I:(0:Int)<k:=oz
    by_cases hd:numS k=dg
    .rw [if_pos ⟨hk0,hd⟩] at hQ
     have e1:(u++[k]).length=u.length+1:=(by simp);simp only[Option.toList_some,F28,e1]at hQ;simp(maxSteps:=9^7) (disch:=try exact zd) [hr,hrl,hrI,hc,hcall,hf,hk0,hk0I,hd,-getElem?_pos];exact hQ
    .rw [if_neg (fun h=>hd h.2)] at hQ
     simp only[Option.toList_none,qK]at hQ;simp(maxSteps:=9^7) (disch:=try exact zd) [hr,hrl,hrI,hc,hcall,hf,hk0,hk0I,hd,-getElem?_pos];exact hQ
   .obtain rfl:k=0:=oz
    rw[if_neg (fun h=>hk0 h.1)]at hQ;simp only[Option.toList_none,qK]at hQ;simp(maxSteps:=9^7) (disch:=try exact zd) [hr,hrl,hrI,hc,hcall,hf,-getElem?_pos];exact hQ
 |syn=>
  simp only[Par]at hp;obtain⟨x,bl,rfl⟩:=hp;have hQ':Q .normal (F28 n taken (r+1) u):=by cases is<;>simpa using hQ
  cases is <;>
  (simp (maxSteps:=9^7) (disch:=try exact zd) [hr,hrl,hrI,hc,hcall,V.ren,-getElem?_pos]
   exact hQ')
 |rng=>
  simp only[Par]at hp;obtain⟨x,bl,rfl⟩:=hp;have hQ':Q .normal (F28 n taken (r+1) u):=by cases is<;>simpa using hQ
  cases is <;>
  (simp (maxSteps:=9^7) (disch:=try exact zd) [hr,hrl,hrI,hc,hcall,V.ren,-getElem?_pos]
   exact hQ')
def ZdQ (n q:Nat)(v:V):Prop:=(q=n/\v=.sc (.arr 129 n))\/v=.sc (.vw 129 n 0 q)
theorem YG (l d:List Nat)(q:Nat)(hq:d.take q=l)(hql:q<=d.length)(hl:d.length<=687194767360)(k0:Nat)(hk0:k0<=687194767360){v:V}(hv:ZdQ d.length q v):
 wp (K A) (.loop K7) (fun x s'=>x=.exit 2/\s'=⟨[(12,u64V (l.foldl bump k0)),(58,v),(59,intV q),(60,intV q),(61,Ac false)],[(129,some (arrU d))]⟩)
  ⟨[(12,u64V k0),(58,v),(59,intV q),(60,intV 0)],[(129,some (arrU d))]⟩:=by
 have hll:l.length=q:=by rw[<-hq];simp;omega
 refine Al (fun r s=>(l.take r).foldl bump k0<=k0+r/\s=⟨[(12,u64V ((l.take r).foldl bump k0)),(58,v),(59,intV q),(60,intV r)],[(129,some (arrU d))]⟩) q ⟨by simp,by simp⟩ ?_ ?_
 .rintro r s hr ⟨hb,rfl⟩
  obtain⟨x,hx⟩:=Ab (l:=l) (i:=r) oz;have hxd:d[r]?=some x:=by
   rw[<-hq,qac,if_pos hr]at hx;exact hx
  have hstep:(l.take (r+1)).foldl bump k0=bump ((l.take r).foldl bump k0) x:=by
   rw[AP hx,qaR];rfl
  have hrI:(r:Int)<q:=oz
  have hrd:r<d.length:=oz
  rw[hstep];generalize (l.take r).foldl bump k0=k at *
  unfold bump;unfold K7;by_cases hxk:x<=k
  .have hw:IntKind.u64.wrap ((k:Int)+1)=((k+1:Nat):Int):=Dx (k+1) oz
   rw[if_pos hxk];rcases hv with ⟨rfl,rfl⟩|rfl <;>
   (simp (maxSteps:=9^7) (disch:=try exact zd) [hr,hrI,hql,hxd,hrd,hxk,-getElem?_pos]
    try omega)
  .rw [if_neg hxk]
   rcases hv with ⟨rfl,rfl⟩|rfl <;>
   (simp (maxSteps:=9^7) (disch:=try exact zd) [hr,hrI,hql,hxd,hrd,hxk,-getElem?_pos]
    try omega)
 .rintro s ⟨hb,rfl⟩
  rw[show l.take q=l by rw[qh oz]];unfold K7;simp(disch:=try exact zd)
theorem Qj (z:Int)(n:Nat)(hz:(n:Int)=max z 0)(hz1:-618475290624<=z)(taken:List Str)(hn:n<=618475290624)(ht:taken.length<=618475290624)(hs:∀s∈taken,s.length<=281474976710656):
 (K A).call 207 [intV z,AA taken] []=some (strV (Au n taken),[]):=by
 refine fnO v207 ?_;have hul:=Ru taken;obtain⟨_,⟨d,hsort,rfl⟩,hc76⟩:=XU (A:=A) (EA taken) oz;have hdl:d.length=(EA taken).length:=hsort.len;obtain⟨_,⟨q,d',hd',hq,htk,hres⟩,hc77⟩:=Zat (A:=A) d oz;have hsd:OB 0 d.length d:=by rw[hdl];exact hsort.2.2
 have hasc:=UT hsd d.length;have hmemD:∀k,k∈Bj d d.length↔k∈EA taken:=by
  intro k;rw[OE,<-hsort.1.mem_iff];constructor
  .rintro ⟨j,_,hj⟩
   exact qc hj
  .intro h
   obtain⟨j,hj⟩:=qn.1 h;exact⟨j,(qf.1 hj).1,hj⟩
 have hlen:=Q3 d d.length;have hfold:(Bj d d.length).foldl bump (n+1)=AS n taken:=by
  refine ZgD hasc (fun x hx=>?_) n (fun k hk=>?_)
  .obtain ⟨s,_,h2⟩:=List.mem_filterMap.1 ((hmemD x).1 hx)
   exact((PS (Sp h2)).1 h2).1
  .rw [hmemD]
   constructor
   .intro h
    obtain⟨s,h1,h2⟩:=List.mem_filterMap.1 h;obtain⟨h3,h4⟩:=(PS (Sp h2)).1 h2;exact⟨h3,by rw[h4];exact h1⟩
   .rintro ⟨h1,h2⟩
    exact List.mem_filterMap.2 ⟨AK k,h2,(PS oz).2 ⟨h1,rfl⟩⟩
 have hkle:=JB n taken;generalize hu:EA taken=used at *
 generalize hl:Bj d d.length=l at *
 have hmx:(if (0:Int)>z then (0:Int) else z)=n:=by split<;>omega
 have hmx2:(if z<(0:Int) then (0:Int) else z)=n:=by split<;>omega
 have hfmt:=Rk (A:=A) (AS n taken) oz;have hnl:=GY (AS n taken) 20 oz oz;unfold v207;simp(disch:=try exact zd);refine Al (fun r s=>s=F28 z taken r (EA (taken.take r))) taken.length (by simp[F28,EA];rfl) ?_ ?_
 .rintro r s hr rfl
  obtain⟨s,hsr⟩:=Ab (l:=taken) (i:=r) hr;have hul:=Ru (taken.take r);refine ZhT (A:=A) z taken oz hs hsr _ (by simp at hul;omega) _ ?_;exact .inl ⟨rfl,by rw[Zij hsr]⟩
 .rintro s rfl
  rw[qaM,hu];have hul1:(used:List Nat).length<=618475290624:=oz
  rw[<-hdl]at hc76;have hn1:IntKind.u64.wrap (n:Int)=(n:Int):=Dx n oz;have hn2:IntKind.u64.wrap ((n:Int)+1)=((n+1:Nat):Int):=Dx (n+1) oz;have hf:=fun v hv=>YG (A:=A) l d' q htk oz oz (n+1) oz (v:=v) hv;rw[hfold,hd']at hf;have hd'l:d'.length=d.length:=hd';have hqI:q<=d.length:=hq
  have hF:F28 z taken taken.length used=⟨[(0,intV z),(5,.sc (.arr 129 d.length)),(15,AA taken),(16,intV taken.length),(17,intV taken.length)],[(129,some (arrU used))]⟩:=by rw[hdl]
  rw[hF];have hv:∀r:Str,Au n taken=118::numS (AS n taken):=fun _=>rfl;have hvs:Au n taken=118::numS (AS n taken):=rfl;rw[hvs];generalize AS n taken=k at *
  generalize numS k=S at *
  generalize hdN:d.length=N at *
  unfold Iu;rcases hres with ⟨rfl,rfl⟩|rfl
  .have hf1:=hf _ (.inl ⟨rfl,rfl⟩)
   simp(disch:=try exact zd) [hc76,hc77,hmx,hmx2,hn1,hn2,hdl.symm,hdN,hd'l,retV,V.ren];refine wp_mono hf1 ?_;rintro _ _ ⟨rfl,rfl⟩;simp(disch:=try exact zd) [hfmt]
  .have hf1:=hf _ (.inr rfl)
   obtain⟨cs,hcut⟩:=NQ (l:=wr (Cf d')) (o:=0) (n:=q) (by simp;omega);simp(disch:=try exact zd) [hc76,hc77,hmx,hmx2,hn1,hn2,hdl.symm,hdN,hd'l,hqI,hcut,retV,V.ren];refine wp_mono hf1 ?_;rintro _ _ ⟨rfl,rfl⟩;simp(disch:=try exact zd) [hfmt]
end Go.Vs.Tryz
namespace Go.Vs
end Go.Vs
namespace Go.Vs.Tryz
open Go Go.Vs
variable {A:Ag}
def nmAt (taken:List Str)(e:Exp)(n:Nat):Nat->Str
 |0=>e.name
 |i+1=>if e.kind≠8/\e.bound i≠[] then Au n taken else nmAt taken e n i
def ZiA (taken:List Str)(e:Exp)(n i:Nat):List (ArmH×Exp):=(NB taken n e.arms).take (i-e.kids.length)++e.arms.drop (i-e.kids.length)
theorem Zf0 (e:Exp):Av e.arms (e.children.drop e.kids.length)=e.arms:=by
 have:e.children.drop e.kids.length=e.arms.map (·.2):=by simp[Exp.children]
 rw[this];unfold Av;refine qH fun j=>?_;rw[qaq,qk];cases e.arms[j]?<;>rfl
theorem ZfH (e:Exp):e.children.take e.kids.length=e.kids:=by simp[Exp.children]
abbrev D93 (l:List (Str×Str))(taken:List Str)(N i:Nat):Env:=[(1,YH l),(2,AA taken),(3,.sc (.ptr 64 0)),(6,.sc (.ptr 128 0)),(9,.sc (.arr 1440 N)),(10,.sc (.ptr 1728 0)),(39,.sc (.arr 1440 N)),(40,intV N),(41,intV i)]
variable {A:Ag}
theorem Zib {l:List Str}(h:l≠[]):∃c rows,Ak l=c::rows:=by
 cases l with
 |nil=>exact absurd rfl h
 |cons e r=>exact⟨D7 e,Ak r,rfl⟩
theorem ZR (l:List Str)(hl:l.length<=1649267441664):(K A).call 244 [AA l] []=some (.sc (.arr 0 l.length),[.arr 1 (wr (Ak l)) 0]):=by
 by_cases h:l=[]
 .subst h
  exact QW (by kernel_rfl) (by kernel_rfl) (by kernel_rfl) (by kernel_rfl)
 .obtain ⟨c,rows,hr⟩:=Zib h
  have hlen:rows.length+1=l.length:=by
   have:=strRows_len l;rw[hr]at this;simpa using this
  have hok:AZ 1 (wr (c::rows))=true:=hr▸okRows_str l;have hp:AA l=V.sc (.c (.sl (c::rows))):=by rw[<-hr]
  rw[hr,hp,PC (by kernel_rfl) (by kernel_rfl)];refine PA (vf:=v244) (by kernel_rfl) rfl (by decide) ?_;unfold v244;rw[wr_cons]at hok;simp(disch:=try exact zd) [hok];omega
theorem Y7 {e:Exp}(h:e.kind≠8)(i:Nat):e.bound i=[]\/e.bound i=[e.name]:=by
 unfold Exp.bound;split
 .exact .inr rfl
 .rw [if_neg (fun c=>h c.1)]
  exact .inl rfl
def AD (e:Exp)(cs:List Exp):Exp:=.mk e.kind e.pos e.name e.num (cs.take e.kids.length) (Av e.arms (cs.drop e.kids.length)) e.ty
theorem B7 {e:Exp}{cs:List Exp}(h:cs.length=e.kids.length+e.arms.length):
 (AD e cs).kids.length=e.kids.length/\(AD e cs).arms.length=e.arms.length/\(AD e cs).children=cs/\(∀i:Nat,((AD e cs).arms[i]?).map (·.1)=(e.arms[i]?).map (·.1)):=by
 have hal:(Av e.arms (cs.drop e.kids.length)).length=e.arms.length:=by simp_all
 refine⟨?_,hal,?_,fun i=>?_⟩
 .show (cs.take e.kids.length).length=_
  grind
 .show cs.take e.kids.length++(Av e.arms (cs.drop e.kids.length)).map (·.2)=cs
  have:(Av e.arms (cs.drop e.kids.length)).map (·.2)=cs.drop e.kids.length:=by
   grind[Av,Wv]
  simp_all
 .show ((Av e.arms (cs.drop e.kids.length))[i]?).map (·.1)=_
  grind[Av]
theorem Ir {e:Exp}{cs:List Exp}(h:cs.length=e.kids.length+e.arms.length)(i:Nat):(AD e cs).bound i=e.bound i:=by
 have h4:=(B7 h).2.2.2 (i-1);rw[Bx,Bx];have k:(AD e cs).kind=e.kind:=rfl;have n:(AD e cs).name=e.name:=rfl;grind
theorem Nz {e:Exp}{cs:List Exp}(h:cs.length=e.kids.length+e.arms.length):headEq e (AD e cs)/\F0 e (AD e cs):=by
 obtain⟨h1,h2,h3,h4⟩:=B7 h;refine⟨⟨rfl,rfl,rfl,h1.symm,h2.symm⟩,fun i p q hp hq=>?_⟩;grind
theorem Zgb (e:Exp):AD e e.children=e:=by
 unfold AD;rw[ZfH,Zf0];cases e;rfl
theorem OV {e:Exp}{cs:List Exp}(h:cs.length=e.kids.length+e.arms.length)(hk:e.kind≠1)(hs:shp1 e)(hc:∀c∈cs,shp c):shp (AD e cs):=by
 rw[DV];exact⟨(Nz h).1.shp1 hk hs,by grind[B7]⟩
theorem UK {e:Exp}{cs:List Exp}(h:cs.length=e.kids.length+e.arms.length):(AD e cs).weight=1+(e.arms.map fun a=>a.1.vars.length).sum+(cs.map Exp.weight).sum:=by
 obtain⟨h1,h2,h3,h4⟩:=B7 h;rw[Exp.weight_eq,h3];congr 2;congr 1;refine qH fun i=>?_;grind
def allF (e:Exp)(l:List (List Str)):List Str:=e.name::(l.zipIdx.map fun p=>e.bound p.2++p.1).flatten
def allP (e:Exp):List Str:=e.fold allF
theorem SD (e:Exp):allP e=e.name::((e.children.map allP).zipIdx.map fun p=>e.bound p.2++p.1).flatten:=Exp.fold_eq _ e
theorem A1 {e:Exp}{s:Str}:s∈allP e↔s=e.name\/∃(i:Nat)(x:Exp),e.children[i]?=some x/\(s∈e.bound i\/s∈allP x):=by
 rw[SD,qG];refine or_congr_right ?_;rw[List.mem_flatten];constructor;grind
 .rintro ⟨i,x,hx,hs⟩
  refine⟨e.bound i++allP x,qJ.2 ⟨(allP x,i),qal.2 ?_,rfl⟩,qp.2 hs⟩;grind
theorem Mg (e:Exp):∀s∈Ad e,s∈allP e:=by
 induction e using Exp.ind<;>grind[CI,A1,B8]
def C9 (frm to:Str)(e:Exp)(l:List Exp):Exp:=
 if e.kind=1 then (if e.name=frm then .mk e.kind e.pos to e.num e.kids e.arms e.ty else e)
 else AD e ((e.children.zip l).zipIdx.map fun p=>if frm∈e.bound p.2 then p.1.1 else p.1.2)
def repl (frm to:Str)(e:Exp):Exp:=e.fold (C9 frm to)
def C3 (frm to:Str)(e:Exp):List Exp:=e.children.zipIdx.map fun p=>if frm∈e.bound p.2 then p.1 else repl frm to p.1
@[simp] theorem replC_len (frm to:Str) (e:Exp):(C3 frm to e).length=e.kids.length+e.arms.length:=by simp[C3]
theorem Eh {frm to:Str}{e x:Exp}{i:Nat}(h:e.children[i]?=some x):(C3 frm to e)[i]?=some (if frm∈e.bound i then x else repl frm to x):=by
 simp[C3,h]
theorem E3 {frm to:Str}{e:Exp}(h:e.kind=1):repl frm to e=if e.name=frm then .mk e.kind e.pos to e.num e.kids e.arms e.ty else e:=by
 grind[repl,Exp.fold_eq,C9]
theorem EI {frm to:Str}{e:Exp}(h:e.kind≠1):repl frm to e=AD e (C3 frm to e):=by
 unfold repl;rw[Exp.fold_eq,C9,if_neg h];congr 1;refine qH fun i=>?_;rw[qk,qan];by_cases hi:i<e.children.length
 .obtain ⟨x,hx⟩:=Ab hi
  have hz:(e.children.zip (e.children.map (Exp.fold (C9 frm to))))[i]?=some (x,repl frm to x):=by
   rw[List.getElem?_zip_eq_some];exact⟨hx,by rw[qk,hx];rfl⟩
  grind[Eh]
 simp_all
theorem NM (frm to:Str)(e:Exp):(repl frm to e).weight=e.weight:=by
 induction e using Exp.ind with
 |h e ih=>
  by_cases hk:e.kind=1
  .rw [E3 hk]
   split
   .rw [Exp.weight_eq,e.weight_eq]
    rfl
   .rfl
  .rw [EI hk,UK (replC_len _ _ _),e.weight_eq]
   congr 1;congr 1;refine qH fun i=>?_;rw[qk,qk];by_cases hi:i<e.children.length;grind[Eh];simp_all
theorem LQ (frm to:Str)(e:Exp):shp e->shp (repl frm to e):=by
 induction e using Exp.ind with
 |h e ih=>
  intro hs;by_cases hk:e.kind=1
  .rw [E3 hk]
   split
   .rw [DV]
    exact⟨hs.one,fun x hx=>hs.child hx⟩
   omega
  .rw [EI hk]
   refine OV (replC_len _ _ _) hk hs.one fun c hc=>?_;obtain⟨i,hi⟩:=qn.1 hc;obtain⟨x,hx⟩:=Ab (l:=e.children) (i:=i) (by have:=(qf.1 hi).1;simp_all);rw[Eh hx]at hi;cases hi;have hm:=qc hx;split
   .exact hs.child hm
   .exact ih x hm (hs.child hm)
def renV (frm to:Str):Rep:=ofR fun s t=>t=if s=frm then to else s
theorem Mu (frm to:Str)(e:Exp):shp e->to∉allP e->instR e (repl frm to e) (renV frm to):=by
 induction e using Exp.ind with
 |h e ih=>
  intro hs hn;by_cases hk:e.kind=1
  .obtain ⟨a1,a2,a3⟩:=IP hs.one.1 hk
   obtain⟨n,t⟩:=hs.one.2.1 hk;rw[E3 hk];refine .mkVar hk ?_;by_cases hf:e.name=frm
   .rw [if_pos hf]
    exact⟨to,(if_pos hf).symm,hk,rfl,n,t,a1,a2⟩
   .rw [if_neg hf]
    exact⟨e.name,(if_neg hf).symm,hk,rfl,n,t,a1,a2⟩
  .rw [EI hk]
   obtain⟨h1,h2⟩:=Nz (replC_len frm to e);refine .mk hk ⟨h1,fun _=>rfl,h2,fun i x y hx hy=>?_⟩;rw[(B7 (replC_len frm to e)).2.2.1,Eh hx]at hy;cases hy;rw[Ir (replC_len frm to e)];have hm:=qc hx;have hnb:to∉e.bound i:=fun h=>hn (A1.2 (.inr ⟨i,x,hx,.inl h⟩));have hnx:to∉allP x:=fun h=>hn (A1.2 (.inr ⟨i,x,hx,.inr h⟩));by_cases hf:frm∈e.bound i
   .rw [if_pos hf]
    refine .refl x _ (hs.child hm) fun s hsx c hc=>?_;by_cases hb:s∈e.bound i
    .exact .inl ⟨hb,s,hb,rfl,hc⟩
    .refine .inr ⟨hb,⟨s,?_,hc⟩,fun u hu => ?_⟩
     grind
     .rw [hc.free,qo] at hu
      grind
   .rw [if_neg hf]
    refine(ih x hm (hs.child hm) hnx).mono _ _ _ _ fun s hsx d hd=>?_;obtain⟨t,ht,hv⟩:=hd;by_cases hb:s∈e.bound i
    .rw [if_neg (fun h:s=frm=>hf (h▸hb))] at ht
     exact .inl ⟨hb,s,hb,rfl,ht▸hv⟩
    .refine .inr ⟨hb,⟨t,ht,hv⟩,fun u hu => ?_⟩
     rw[hv.free,qo]at hu;grind
theorem WS {frm to:Str}{e:Exp}(hs:shp e)(hn:to∉allP e)(u:Str):u∈Ad (repl frm to e)↔∃s∈Ad e,u=if s=frm then to else s:=by
 have h:=Mu frm to e hs hn;constructor
 .intro hu
  obtain⟨s,h1,d,⟨t,ht,hv⟩,h3⟩:=instR.free_from e _ _ hs.one (fun x hx=>hs.child hx) h u hu;rw[hv.free,qo]at h3;grind
 .rintro ⟨s,h1,rfl⟩
  obtain⟨d,⟨t,ht,hv⟩,h3⟩:=instR.free_to e _ _ h s h1;exact h3 _ (by rw[hv.free,ht];simp)
def hitP (x:Str)(free:List Str)(n:Str)(inside:List Exp):Prop:=n∈free/\∃e∈inside,x∈Ad e
instance (x:Str) (free:List Str) (n:Str) (inside:List Exp):Decidable (hitP x free n inside):=inferInstanceAs (Decidable (_/\_))
def AC (e:Exp):Nat:=if e.kind=6 then 1 else 0
def CX (x:Str)(free:List Str)(e:Exp):Exp:=
 if e.name=x\/e.kids.length<=AC e\/¬hitP x free e.name (e.kids.drop (AC e)) then e else
  .mk e.kind e.pos (Au 0 (allP e++free++[x])) e.num (e.kids.zipIdx.map fun p=>if p.2<AC e then p.1 else repl e.name (Au 0 (allP e++free++[x])) p.1) e.arms e.ty
def Ef (x:Str)(free:List Str)(p:List Str×Exp)(i:Nat):List Str×Exp:=match p.1[i]? with
 |none=>p
 |some v=>if v∈p.1.drop (i+1)\/¬hitP x free v [p.2] then p else (p.1.set i (Au 0 (allP p.2++p.1++free++[x])),repl v (Au 0 (allP p.2++p.1++free++[x])) p.2)
def BN (x:Str)(free:List Str)(vs:List Str)(b:Exp)(k:Nat):List Str×Exp:=(List.range k).foldl (Ef x free) (vs,b)
theorem Hi (x:Str)(free vs:List Str)(b:Exp)(k:Nat):BN x free vs b (k+1)=Ef x free (BN x free vs b k) k:=by
 grind[BN,List.range_succ]
def armP (x:Str)(free:List Str)(a:ArmH×Exp):ArmH×Exp:=
 if x∈a.1.vars then a else (⟨a.1.pos,a.1.con,(BN x free a.1.vars a.2 a.1.vars.length).1⟩,(BN x free a.1.vars a.2 a.1.vars.length).2)
def Bf (x:Str)(free:List Str)(e:Exp):Exp:=
 if e.kind=4\/e.kind=6\/e.kind=7 then CX x free e else if e.kind=8 then .mk e.kind e.pos e.name e.num e.kids (e.arms.map (armP x free)) e.ty else e
def subN:Nat->Exp->Str->Exp->Exp
 |0,e,_,_=>e
 |n+1,e,x,b=>if e.kind=1 then (if e.name=x then b else e) else
  AD (Bf x (Ad b) e) ((Bf x (Ad b) e).children.zipIdx.map fun p=>if x∈(Bf x (Ad b) e).bound p.2 then p.1 else subN n p.1 x b)
def subC (n:Nat)(e:Exp)(x:Str)(b:Exp):List Exp:=e.children.zipIdx.map fun p=>if x∈e.bound p.2 then p.1 else subN n p.1 x b
@[simp] theorem subC_len (n:Nat) (e:Exp) (x:Str) (b:Exp):(subC n e x b).length=e.kids.length+e.arms.length:=by simp[subC]
theorem EG {n:Nat}{e y:Exp}{x:Str}{b:Exp}{i:Nat}(h:e.children[i]?=some y):(subC n e x b)[i]?=some (if x∈e.bound i then y else subN n y x b):=by
 simp[subC,h]
theorem FW (n:Nat)(e:Exp)(x:Str)(b:Exp):subN (n+1) e x b=if e.kind=1 then (if e.name=x then b else e) else AD (Bf x (Ad b) e) (subC n (Bf x (Ad b) e) x b):=rfl
def inj (l:List Str):Prop:=∀(i j:Nat) s,l[i]?=some s->l[j]?=some s->i=j
def properP (e:Exp):Prop:=e.fold fun e l=>(∀a∈e.arms,inj a.1.vars)/\∀p∈l,p
theorem Em (e:Exp):properP e=((∀a∈e.arms,inj a.1.vars)/\∀x∈e.children,properP x):=by
 have:=Exp.fold_eq (fun e (l:List Prop)=>(∀a∈e.arms,inj a.1.vars)/\∀p∈l,p) e;unfold properP;rw[this];simp only[qU]
theorem properP.one {e:Exp}(h:properP e):∀a∈e.arms,inj a.1.vars:=by grind[Em]
theorem properP.child {e x:Exp}(h:properP e)(hx:x∈e.children):properP x:=by grind[Em]
theorem P5 {e c:Exp}(h:∀i:Nat,(c.arms[i]?).map (·.1)=(e.arms[i]?).map (·.1))(he:∀a∈e.arms,inj a.1.vars):∀a∈c.arms,inj a.1.vars:=by
 grind[qn]
theorem Tq (frm to:Str)(e:Exp):e.wf->properP e->properP (repl frm to e):=by
 induction e using Exp.ind with
 |h e ih=>
  intro hw h;by_cases hk:e.kind=1
  .rw [E3 hk]
   split
   .rw [Em]
    exact⟨h.one,fun x hx=>h.child hx⟩
   omega
  .rw [EI hk,Em]
   obtain⟨_,_,h3,h4⟩:=B7 (replC_len frm to e);refine⟨P5 h4 h.one,fun c hc=>?_⟩;rw[h3]at hc;obtain⟨i,hi⟩:=qn.1 hc;obtain⟨x,hx⟩:=Ab (l:=e.children) (i:=i) (by have:=(qf.1 hi).1;simp_all);rw[Eh hx]at hi;cases hi;have hm:=qc hx;split
   .exact h.child hm
   .exact ih x hm (hw.child hm) (h.child hm)
def subV (x:Str)(b:Exp):Rep:=fun s c=>if s=x then c=b else isVar s c
theorem FK {s:Str}{c:Exp}:idV s c↔isVar s c:=⟨fun⟨_,h,hv⟩=>h▸hv,fun h=>⟨s,rfl,h⟩⟩
theorem id_ok:idV.ok:=fun _ _ h=>(FK.1 h).shp
theorem Zdp {x0 x1 y b:Exp}{x:Str}{bs cs:List Str}(h0:instR x0 x1 (idV.ext bs cs))(h1:instR x1 y (subV x b))(hx:x∉cs)(hf:x∈Ad x1->∀u∈Ad b,u∉cs):instR x0 y ((subV x b).ext bs cs):=by
 refine(h0.comp _ _ _ _ _ (id_ok.ext bs cs) h1).mono _ _ _ _ fun s hs d hd=>?_;obtain⟨c,hc,_,hcd⟩:=hd;rcases hc with ⟨hb,t,ht,hr,hv⟩|⟨hb,hv,hfc⟩
 .rw [hv.inst] at hcd
  unfold subV at hcd;rw[if_neg (fun h:t=x=>hx (h▸ht))]at hcd;exact .inl ⟨hb,t,ht,hr,hcd⟩
 .rw [FK] at hv
  have hsc:s∉cs:=hfc s (by rw[hv.free];simp);have hsf:s∈Ad x1:=by
   obtain⟨d',hd',hf'⟩:=instR.free_to x0 x1 _ h0 s hs;rcases hd' with ⟨q,_⟩|⟨_,q,_⟩
   grind
   .exact hf' s (by rw[(FK.1 q).free];simp)
  rw[hv.inst]at hcd;refine .inr ⟨hb,hcd,fun u hu=>?_⟩;unfold subV at hcd;split at hcd;grind
  .rw [hcd.free,qo] at hu
   grind
theorem ZaC {x0 b:Exp}{x:Str}{bs:List Str}(hs:shp x0)(hx:x∈bs):instR x0 x0 ((subV x b).ext bs bs):=by
 refine .refl x0 _ hs fun s _ c hc=>?_;by_cases hb:s∈bs
 .exact .inl ⟨hb,s,hb,rfl,hc⟩
 .refine .inr ⟨hb,?_,fun u hu => ?_⟩
  grind[subV]
  .rw [hc.free,qo] at hu
   grind
theorem Ib {x0:Exp}{bs:List Str}(hs:shp x0):instR x0 x0 (idV.ext bs bs):=by
 refine .refl x0 _ hs fun s _ c hc=>?_;by_cases hb:s∈bs
 .exact .inl ⟨hb,s,hb,rfl,hc⟩
 .refine .inr ⟨hb,FK.2 hc,fun u hu => ?_⟩
  rw[hc.free,qo]at hu;grind
structure KidOk (x:Str)(b x0 x1:Exp)(bs cs:List Str):Prop where
 len:bs.length=cs.length
 skip:x∈bs->x1=x0/\cs=bs
 notin:x∉bs->x∉cs
 inst:instR x0 x1 (idV.ext bs cs)
 apart:x∉cs->x∈Ad x1->∀u∈Ad b,u∉cs
 weight:x1.weight=x0.weight
 shape:shp x1
 proper:properP x1
theorem ZhM {l:List Str}(h:l.Nodup):inj l:=fun i j s hi hj=>by
 grind[List.getElem?_inj]
theorem inj.rlast {l:List Str}(h:inj l){i:Nat}{s:Str}(hi:l[i]?=some s):rlast l s=i:=U8 hi fun j x hij hx e=>by
 have:=h i j s hi (e▸hx);omega
theorem inj.set {l:List Str}(h:inj l){k:Nat}{t:Str}(ht:t∉l):inj (l.set k t):=by
 intro i j s hi hj;rw[qaS]at hi hj;split at hi<;>split at hj
 .omega
 grind;grind
 .exact h i j s hi hj
theorem KV {l:List Str}{k:Nat}{t u:Str}(h:u∈l.set k t):u∈l\/u=t:=List.mem_or_eq_of_mem_set h
structure ArmOk (x:Str)(free vars:List Str)(b0:Exp)(k:Nat)(vs:List Str)(b:Exp):Prop where
 len:vs.length=vars.length
 inj:inj vs
 notin:x∉vs
 inst:instR b0 b (idV.ext vars vs)
 weight:b.weight=b0.weight
 shape:shp b
 proper:properP b
 done:∀j v,j<k->vs[j]?=some v->¬(v∈free/\x∈Ad b)
theorem ZeX {x:Str}{free vars:List Str}{b0:Exp}{k:Nat}{vs:List Str}{b:Exp}(h:ArmOk x free vars b0 k vs b)(hk:k<vars.length):ArmOk x free vars b0 (k+1) (Ef x free (vs,b) k).1 (Ef x free (vs,b) k).2:=by
 obtain⟨v,hv⟩:=Ab (l:=vs) (i:=k) (by rw[h.len];exact hk);have hdrop:v∉vs.drop (k+1):=by
  intro hm;obtain⟨j,hj⟩:=qn.1 hm;rw[qah]at hj;have:=h.inj k _ v hv hj;omega
 unfold Ef;simp only[hv];by_cases hh:hitP x free v [b]
 .rw [if_neg (fun q=>q.elim hdrop fun q=>q hh)]
  have hfresh:=Ds 0 (allP b++vs++free++[x]);generalize Au 0 (allP b++vs++free++[x])=to at hfresh |-;simp only[qp,qo,not_or]at hfresh;obtain⟨⟨⟨f1,f2⟩,f3⟩,f4⟩:=hfresh;have hxv:x≠v:=fun e=>h.notin (e▸qc hv);have hfx:x∈Ad (repl v to b)->x∈Ad b:=by
   intro hx;obtain⟨s,hs,he⟩:=(WS h.shape f1 x).1 hx;grind
  refine⟨by rw[List.length_set];exact h.len,h.inj.set f2,fun hm=>?_,?_,(NM _ _ _).trans h.weight,LQ _ _ _ h.shape,Tq _ _ _ h.shape.wf h.proper,fun j w hj hw=>?_⟩
  .rcases KV hm with hm|hm
   .exact h.notin hm
   grind
  .refine (h.inst.comp _ _ _ _ _ (id_ok.ext _ _) (Mu v to b h.shape f1)).mono _ _ _ _ fun s hs d hd => ?_
   obtain⟨c,hc,_,hcd⟩:=hd;rcases hc with ⟨hb,t,ht,hr,hvc⟩|⟨hb,hvc,hfc⟩
   .rw [hvc.inst] at hcd
    obtain⟨u,hu,hvu⟩:=hcd;obtain⟨j,hj⟩:=qn.1 ht;have hrj:=h.inj.rlast hj;have hset:(vs.set k to)[j]?=some u:=by
     rw[qaS];by_cases htv:t=v
     .have hkj:k=j:=h.inj k j v hv (htv▸hj)
      grind
     grind
    exact .inl ⟨hb,u,qc hset,by rw[hr,hrj,(h.inj.set f2).rlast hset],hvu⟩
   .rw [FK] at hvc
    have hsv:s∉vs:=hfc s (by rw[hvc.free];simp);rw[hvc.inst]at hcd;obtain⟨u,hu,hvu⟩:=hcd;rw[if_neg (fun e=>hsv (by grind))]at hu;subst hu;refine .inr ⟨hb,FK.2 hvu,fun w hw=>?_⟩;rw[hvu.free,qo]at hw;subst hw;intro hm;rcases KV hm with hm|hm
    grind
    .obtain ⟨d',hd',hf'⟩:=instR.free_to b0 b _ h.inst w hs
     rcases hd' with ⟨q,_⟩|⟨_,q,_⟩
     grind
     .exact f1 (hm▸Mg b w (hf' w (by rw[(FK.1 q).free];simp)))
  .rintro ⟨g1,g2⟩
   rw[qaS]at hw;split at hw;grind
   .exact h.done j w oz hw ⟨g1,hfx g2⟩
 .rw [if_pos (.inr hh)]
  refine⟨h.len,h.inj,h.notin,h.inst,h.weight,h.shape,h.proper,fun j w hj hw hg=>?_⟩;by_cases hjk:j=k
  .subst hjk
   rw[hv]at hw;cases hw;exact hh ⟨hg.1,b,by simp,hg.2⟩
  .exact h.done j w oz hw hg
theorem GV {x:Str}{free vars:List Str}{b:Exp}(hn:inj vars)(hx:x∉vars)(hs:shp b)(hp:properP b):∀k,k<=vars.length->ArmOk x free vars b k (BN x free vars b k).1 (BN x free vars b k).2
 |0,_=>⟨rfl,hn,hx,Ib hs,rfl,hs,hp,fun _ _ h=>by omega⟩
 |k+1,hk=>by
  rw[Hi];exact ZeX (GV hn hx hs hp k oz) oz
theorem Zaz {x:Str}{b:Exp}{a:ArmH×Exp}(hn:inj a.1.vars)(hs:shp a.2)(hp:properP a.2):(armP x (Ad b) a).1.con=a.1.con/\inj (armP x (Ad b) a).1.vars/\KidOk x b a.2 (armP x (Ad b) a).2 a.1.vars (armP x (Ad b) a).1.vars:=by
 unfold armP;by_cases hx:x∈a.1.vars
 .rw [if_pos hx]
  exact⟨rfl,hn,rfl,fun _=>⟨rfl,rfl⟩,fun h=>h,Ib hs,fun h=>absurd hx h,rfl,hs,hp⟩
 .rw [if_neg hx]
  have h:=GV (free:=Ad b) hn hx hs hp a.1.vars.length (qg _);refine⟨rfl,h.inj,h.len.symm,fun q=>absurd q hx,fun _=>h.notin,h.inst,fun _ hf u hu hm=>?_,h.weight,h.shape,h.proper⟩;obtain⟨j,hj⟩:=qn.1 hm;exact h.done j u (by have:=(qf.1 hj).1;rw[h.len]at this;omega) hj ⟨hu,hf⟩
structure PrepOk (x:Str)(b e e':Exp):Prop where
 head:headEq e e'
 con:e.kind=2->e.name=e'.name
 arms:F0 e e'
 kids:∀(i:Nat) x0 x1,e.children[i]?=some x0->e'.children[i]?=some x1->KidOk x b x0 x1 (e.bound i) (e'.bound i)
 sum:(e'.arms.map fun a=>a.1.vars.length).sum=(e.arms.map fun a=>a.1.vars.length).sum
 vars:∀a∈e'.arms,inj a.1.vars
theorem RC {e e':Exp}(hl:e'.arms.length=e.arms.length)(h:∀(i:Nat) p q,e.arms[i]?=some p->e'.arms[i]?=some q->p.1.vars.length=q.1.vars.length):
 (e'.arms.map fun a=>a.1.vars.length).sum=(e.arms.map fun a=>a.1.vars.length).sum:=by
 congr 1;refine qH fun i=>?_;grind
theorem VU {x:Str}{b e:Exp}(hs:shp e)(hp:properP e)(h:∀(i:Nat) x0,e.children[i]?=some x0->x∉e.bound i->x∈Ad x0->∀u∈Ad b,u∉e.bound i):PrepOk x b e e:=by
 refine⟨⟨rfl,rfl,rfl,rfl,rfl⟩,fun _=>rfl,fun i p q hp hq=>?_,fun i x0 x1 h0 h1=>?_,rfl,hp.one⟩;grind
 .rw [h0] at h1
  cases h1;have hm:=qc h0;exact⟨rfl,fun _=>⟨rfl,rfl⟩,fun q=>q,Ib (hs.child hm),h i x0 h0,rfl,hs.child hm,hp.child hm⟩
theorem Ew {e:Exp}(h:e.kind≠8)(hs:shp1 e):e.arms=[]/\e.children=e.kids:=by
 have:=hs.1.2.1 h;grind[Exp.children]
theorem No {e:Exp}(h:e.kind=4\/e.kind=6\/e.kind=7)(hs:shp1 e){i:Nat}(hi:i<e.children.length):e.bound i=if i<AC e then [] else [e.name]:=by
 have hc:=(Ew oz hs).2;have hk:=hs.2.2;grind[DN,Exp.bound,AC]
theorem WI {x:Str}{b e:Exp}(hs:shp e)(hp:properP e)(hk:e.kind=4\/e.kind=6\/e.kind=7):PrepOk x b e (CX x (Ad b) e):=by
 obtain⟨ha,hc⟩:=Ew oz hs.one;have hkl:AC e<e.kids.length:=by
  have h:=hs.one.2.2;grind[DN,AC]
 unfold CX;split
 .rename_i hc1
  refine VU hs hp fun i x0 h0 hxb hxf u hu hub=>?_;have hi:=(qf.1 h0).1;rw[No hk hs.one hi]at hxb hub;by_cases his:i<AC e;grind
  .rw [if_neg his] at hxb hub
   rw[qo]at hxb hub;rcases hc1 with h1|h1|h1
   grind
   .omega
   .refine h1 ⟨hub▸hu,x0,?_,hxf⟩
    refine qc (i:=i-AC e) ?_;grind
 .rename_i hc1
  simp only[not_or,Classical.not_not]at hc1;obtain⟨hxn,_,hhit⟩:=hc1;have hfresh:=Ds 0 (allP e++Ad b++[x]);generalize Au 0 (allP e++Ad b++[x])=to at hfresh |-;simp only[qp,qo,not_or]at hfresh;obtain⟨⟨f1,f2⟩,f3⟩:=hfresh
  have hkid:∀(i:Nat) x0,e.kids[i]?=some x0->(e.kids.zipIdx.map fun p=>if p.2<AC e then p.1 else repl e.name to p.1)[i]?=some (if i<AC e then x0 else repl e.name to x0):=fun i x0 h=>by simp[h]
  have hkn:(e.kids.zipIdx.map fun p=>if p.2<AC e then p.1 else repl e.name to p.1).length=e.kids.length:=by simp
  generalize (e.kids.zipIdx.map fun p=>if p.2<AC e then p.1 else repl e.name to p.1)=ks at hkid hkn |-;have hc':(Exp.mk e.kind e.pos to e.num ks e.arms e.ty).children=ks:=by grind[BD]
  refine⟨⟨rfl,rfl,rfl,hkn.symm,rfl⟩,fun h2=>by omega,fun i p q h1 h2=>?_,fun i x0 x1 h0 h1=>?_,rfl,hp.one⟩;grind
  .have hi:=(qf.1 h0).1
   have hm:=qc h0;rw[hc']at h1;have hbn:(Exp.mk e.kind e.pos to e.num ks e.arms e.ty).bound i=if i<AC e then [] else [to]:=by
    have he:=No hk hs.one hi;grind[Bx,EZ]
   rw[hc]at h0;rw[hkid i x0 h0]at h1;cases h1;rw[hbn,No hk hs.one hi];by_cases his:i<AC e
   .rw [if_pos his,if_pos his,if_pos his]
    exact⟨rfl,fun q=>by simp,fun q=>q,Ib (hs.child hm),fun _ _ u _=>by simp,rfl,hs.child hm,hp.child hm⟩
   .rw [if_neg his,if_neg his,if_neg his]
    have hnx:to∉allP x0:=fun h=>f1 (A1.2 (.inr ⟨i,x0,by grind,.inr h⟩));refine⟨rfl,fun q=>absurd (qo.1 q).symm hxn,fun _ q=>f3 (qo.1 q).symm,?_,fun _ _ u hu q=>f2 (qo.1 q▸hu),NM _ _ _,LQ _ _ _ (hs.child hm),Tq _ _ _ (hs.child hm).wf (hp.child hm)⟩;refine(Mu e.name to x0 (hs.child hm) hnx).mono _ _ _ _ fun s hsx d hd=>?_;obtain⟨t,ht,hv⟩:=hd;by_cases hsn:s=e.name
    .rw [if_pos hsn] at ht
     subst ht;refine .inl ⟨by grind,t,by simp,?_,hv⟩;grind[U8]
    .rw [if_neg hsn] at ht
     subst ht;refine .inr ⟨by grind,FK.2 hv,fun u hu=>?_⟩;rw[hv.free,qo]at hu;grind[Mg]
theorem XA {x:Str}{b e:Exp}(hs:shp e)(hp:properP e)(hk:e.kind=8):PrepOk x b e (.mk e.kind e.pos e.name e.num e.kids (e.arms.map (armP x (Ad b))) e.ty):=by
 have hk1:=hs.one.1.1 hk;have harm:∀(i:Nat) p q,e.arms[i]?=some p->(e.arms.map (armP x (Ad b)))[i]?=some q->q.1.con=p.1.con/\inj q.1.vars/\KidOk x b p.2 q.2 p.1.vars q.1.vars:=by
  intro i p q h1 h2;rw[qk,h1]at h2;cases h2;have hm:=Bp (qc h1);exact Zaz (hp.one p (qc h1)) (hs.child hm) (hp.child hm)
 have hvl:∀(i:Nat) p q,e.arms[i]?=some p->(e.arms.map (armP x (Ad b)))[i]?=some q->p.1.vars.length=q.1.vars.length:=fun i p q h1 h2=>(harm i p q h1 h2).2.2.len;have hal:(e.arms.map (armP x (Ad b))).length=e.arms.length:=by simp
 generalize e.arms.map (armP x (Ad b))=am at harm hvl hal |-;refine⟨⟨rfl,rfl,rfl,rfl,hal.symm⟩,fun h=>rfl,fun i p q h1 h2=>⟨(harm i p q h1 h2).1.symm,hvl i p q h1 h2⟩,fun i x0 x1 h0 h1=>?_,RC hal hvl,fun q hq=>?_⟩
 .rw [EZ,Bx,if_neg (show ¬(e.kind=4\/e.kind=7\/e.kind=6/\i=1) by omega),if_neg (show ¬(e.kind=4\/e.kind=7\/e.kind=6/\i=1) by omega)]
  rcases Zg8 h0 with h0k|⟨j,p,rfl,hp',rfl⟩
  .have hi:=(qf.1 h0k).1
   have h1':e.kids[i]?=some x1:=by
    grind[BD]
   rw[h0k]at h1';cases h1';have hm:=qc h0;rw[if_neg (show ¬(e.kind=8/\0<i) by omega),if_neg (show ¬(e.kind=8/\0<i) by omega)];exact⟨rfl,fun q=>by simp,fun q=>q,Ib (hs.child hm),fun _ _ u _=>by simp,rfl,hs.child hm,hp.child hm⟩
  grind[BD]
 grind[Dq,qn]
theorem Fy {x:Str}{b e:Exp}(hs:shp e)(hp:properP e):PrepOk x b e (Bf x (Ad b) e):=by
 grind[Bf,WI,XA,VU,Bx]
theorem Ed {x:Str}{b e e':Exp}(h:PrepOk x b e e'):e'.children.length=e.children.length:=h.head.children.symm
theorem G1 (x:Str)(b:Exp)(hb:shp b):∀(n:Nat)(e:Exp),e.weight<=n->shp e->properP e->instR e (subN n e x b) (subV x b)
 |0,e,h,_,_=>by have:=e.weight_pos;omega
 |n+1,e,h,hs,hp=>by
  rw[FW];by_cases hk:e.kind=1
  .obtain ⟨a1,a2,a3⟩:=IP hs.one.1 hk
   obtain⟨m,t⟩:=hs.one.2.1 hk;rw[if_pos hk];refine .mkVar hk ?_;unfold subV;by_cases hx:e.name=x;grind
   .rw [if_neg hx,if_neg hx]
    exact⟨hk,rfl,m,t,a1,a2⟩
  .rw [if_neg hk]
   have hP:=Fy (x:=x) (b:=b) hs hp;generalize Bf x (Ad b) e=e' at hP |-;have hl:=subC_len n e' x b;obtain⟨g1,g2⟩:=Nz hl;refine .mk hk ⟨⟨hP.head.1.trans g1.1,hP.head.2.1.trans g1.2.1,hP.head.2.2.1.trans g1.2.2.1,hP.head.2.2.2.1.trans g1.2.2.2.1,hP.head.2.2.2.2.trans g1.2.2.2.2⟩,fun h2=>hP.con h2,fun i p q hp' hq=>?_,fun i x0 y h0 hy=>?_⟩
   .obtain ⟨r,hr⟩:=Ab (l:=e'.arms) (i:=i) (by have:=hP.head.2.2.2.2;grind)
    exact⟨(hP.arms i p r hp' hr).1.trans (g2 i r q hr hq).1,(hP.arms i p r hp' hr).2.trans (g2 i r q hr hq).2⟩
   .obtain ⟨x1,h1⟩:=Ab (l:=e'.children) (i:=i) (by grind [Ed])
    have hK:=hP.kids i x0 x1 h0 h1;rw[(B7 hl).2.2.1,EG h1]at hy;cases hy;rw[Ir hl];by_cases hx:x∈e'.bound i
    .rw [if_pos hx]
     have hxb:x∈e.bound i:=qO fun q=>hK.notin q hx;obtain⟨rfl,he⟩:=hK.skip hxb;rw[he];exact ZaC hK.shape hxb
    .rw [if_neg hx]
     refine Zdp hK.inst (G1 x b hb n x1 ?_ hK.shape hK.proper) hx (hK.apart hx);have:=Exp.child_lt (qc h0);have:=hK.weight;omega
theorem QZ (x:Str)(b:Exp)(hb:shp b):∀(n:Nat)(e:Exp),e.weight<=n->shp e->properP e->shp (subN n e x b)
 |0,e,h,hs,_=>hs
 |n+1,e,h,hs,hp=>by
  rw[FW];by_cases hk:e.kind=1;grind
  .rw [if_neg hk]
   have hP:=Fy (x:=x) (b:=b) hs hp;generalize Bf x (Ad b) e=e' at hP |-;refine OV (subC_len n e' x b) (hP.head.1▸hk) (hP.head.shp1 hk hs.one) fun c hc=>?_;obtain⟨i,hi⟩:=qn.1 hc;obtain⟨x1,h1⟩:=Ab (l:=e'.children) (i:=i) (by have:=(qf.1 hi).1;simp_all);obtain⟨x0,h0⟩:=Ab (l:=e.children) (i:=i) (by grind[Ed]);have hK:=hP.kids i x0 x1 h0 h1;rw[EG h1]at hi;cases hi;split
   .exact hK.shape
   .refine QZ x b hb n x1 ?_ hK.shape hK.proper
    have:=Exp.child_lt (qc h0);have:=hK.weight;omega
theorem RX (x:Str)(b:Exp)(hb:properP b):∀(n:Nat)(e:Exp),e.weight<=n->shp e->properP e->properP (subN n e x b)
 |0,e,h,_,hp=>hp
 |n+1,e,h,hs,hp=>by
  rw[FW];by_cases hk:e.kind=1;grind
  .rw [if_neg hk]
   have hP:=Fy (x:=x) (b:=b) hs hp;generalize Bf x (Ad b) e=e' at hP |-;obtain⟨_,_,h3,h4⟩:=B7 (subC_len n e' x b);rw[Em];refine⟨P5 h4 hP.vars,fun c hc=>?_⟩;rw[h3]at hc;obtain⟨i,hi⟩:=qn.1 hc;obtain⟨x1,h1⟩:=Ab (l:=e'.children) (i:=i) (by have:=(qf.1 hi).1;simp_all);obtain⟨x0,h0⟩:=Ab (l:=e.children) (i:=i) (by grind[Ed]);have hK:=hP.kids i x0 x1 h0 h1;rw[EG h1]at hi;cases hi;split
   .exact hK.proper
   .refine RX x b hb n x1 ?_ hK.shape hK.proper
    have:=Exp.child_lt (qc h0);have:=hK.weight;omega
def subP (e:Exp)(x:Str)(b:Exp):Exp:=subN e.weight e x b
end Go.Vs.Tryz
