/- Sorting few numbers, and numbers below 100 as text, walked. -/
import Derived.Test.YtccmnfpbcmccpaaGreatDoorRAs
set_option linter.unusedSimpArgs false
set_option linter.unusedVariables false
set_option linter.deprecated false
set_option maxRecDepth 9999
set_option maxHeartbeats 8000000
namespace Go.Vs.Tryz
open Go Go.Vs
variable {A:Zab}
def isIntR (r:Option (V×List Obj)):Bool:=match r with
 |some (.sc (.c (.int .i64 _)),[])=>true
 |_=>false
def Zrn (s:Str)(r:Option (V×List Obj)):Bool:=match r with
 |some (.sc (.c (.str t)),[])=>decide (t=s)
 |_=>false
theorem ZtU {s:Str}{r:Option (V×List Obj)}(h:Zrn s r=true):r=some (strV s,[]):=by
 unfold Zrn at h;split at h
 .rw[of_decide_eq_true h]
 .cases h
theorem ZjJ {f:Nat->Bool}{n:Nat}(h:(List.range n).all f=true){k:Nat}(hk:k<n):f k=true:=qy.1 h k (qaF.2 hk)
theorem SortR.len {a b:Nat}{d e:List Nat}(h:SortR a b d e):e.length=d.length:=h.1.length_eq
def dig2 (k:Nat):Str:=if k<10 then [UInt8.ofNat (48+k)] else [UInt8.ofNat (48+k / 10),UInt8.ofNat (48+k % 10)]
theorem Zx8 {k:Nat}(h:k<100):dig2 k=numS k:=by
 unfold dig2;split
 .rename_i h1
  rw[ZdQ h1]
 .rename_i h1
  rw[ZdF h1,ZdQ (by omega)];rfl
theorem fmt75 (k:Nat)(h:k<100):(K A).call 227 [u64V k,intV 10] []=some (strV (numS k),[]):=by
 have h1:(List.range 100).all (fun k=>Zrn (dig2 k) (Zb9 T2 (X2 A) gl0 10 227 [u64V k,intV 10] []))=true:=by kernel_rfl
 have h2:=ZtU (ZjJ h1 h);rw[Zx8 h]at h2;exact Zfq h2
variable {A:Zab}
theorem tab8 (T:List UInt8)(hT:(d256:List UInt8)=T):T.length=256/\∀i,i<256->T[i]?=some (UInt8.ofNat (Sort.bitsLen i)):=by
 subst hT;refine⟨by kernel_rfl,fun i hi=>?_⟩;have h:(List.range 256).all (fun i=>(d256:List UInt8)[i]?==some (UInt8.ofNat (Sort.bitsLen i)))=true:=by kernel_rfl
 exact eq_of_beq (ZjJ h hi)
theorem bl8 {i:Nat}(h:i<256):((UInt8.ofNat (Sort.bitsLen i)).toNat:Int)=Sort.bitsLen i:=by
 have:=Zge (n:=i) (k:=8) h;rw[UInt8.toNat_ofNat',qQ (by omega)]
theorem Zek (n k:Nat)(hk:k<64):shrI .u64 (n:Int) (k:Int)=((n / 2 ^ k:Nat):Int):=by
 unfold shrI;rw[qag,show min k IntKind.u64.bits=k from qbe (Nat.le_of_lt hk),Int.fdiv_eq_ediv_of_nonneg _ (Int.le_of_lt (Int.pow_pos (by decide)))];simp
theorem Zto (n:Nat)(h:n<2147483648):(K A).call 280 [u64V n] []=some (intV (Sort.bitsLen n),[]):=by
 refine fnO v280 ?_;unfold v280 G;obtain⟨T,hT⟩:∃T,d256=T:=⟨_,rfl⟩;obtain⟨t1,t2⟩:=tab8 T hT;unfold d256 at hT;rw[hT];clear hT;have w8:∀k:Nat,k<256->IntKind.u8.wrap (k:Int)=k:=fun k hk=>by
  unfold IntKind.wrap;simp[IntKind.bits,IntKind.signed];omega
 have h0:¬(4294967296:Int)<=n:=by omega
 by_cases h1:65536<=n
 .have h1I:(65536:Int)<=n:=by omega
  have s16:shrI .u64 (n:Int) 16=((n / 2 ^ 16:Nat):Int):=Zek n 16 (by omega);have hb:=ZcB 16 n (by omega);generalize hm:n / 2 ^ 16=m at *
  by_cases h2:256<=m
  .have h2I:(256:Int)<=m:=by omega
   have s8:shrI .u64 (m:Int) 8=((m / 2 ^ 8:Nat):Int):=Zek m 8 (by omega);have hb2:=ZcB 8 m (by omega);generalize hk:m / 2 ^ 8=k at *
   have hk2:k<256:=(by omega);have e1:=t2 k hk2;have e2:=bl8 hk2;have e3:=Zge (n:=k) (k:=8) hk2;rw[hb2]at hb;rw[hb];simp(maxSteps:=4000000) (disch:=first|exact zd|fail) [h0,h1I,h2I,s16,s8,t1,e1,e2,w8,-getElem?_pos];omega
  .have h2I:¬(256:Int)<=m:=by omega
   have hk2:m<256:=(by omega);have e1:=t2 m hk2;have e2:=bl8 hk2;have e3:=Zge (n:=m) (k:=8) hk2;rw[hb];simp(maxSteps:=4000000) (disch:=first|exact zd|fail) [h0,h1I,h2I,s16,t1,e1,e2,w8,-getElem?_pos];omega
 .have h1I:¬(65536:Int)<=n:=by omega
  by_cases h2:256<=n
  .have h2I:(256:Int)<=n:=by omega
   have s8:shrI .u64 (n:Int) 8=((n / 2 ^ 8:Nat):Int):=Zek n 8 (by omega);have hb2:=ZcB 8 n (by omega);generalize hk:n / 2 ^ 8=k at *
   have hk2:k<256:=(by omega);have e1:=t2 k hk2;have e2:=bl8 hk2;have e3:=Zge (n:=k) (k:=8) hk2;rw[hb2];simp(maxSteps:=4000000) (disch:=first|exact zd|fail) [h0,h1I,h2I,s8,t1,e1,e2,w8,-getElem?_pos];omega
  .have h2I:¬(256:Int)<=n:=by omega
   have hk2:n<256:=(by omega);have e1:=t2 n hk2;have e2:=bl8 hk2;have e3:=Zge (n:=n) (k:=8) hk2;simp(maxSteps:=4000000) (disch:=first|exact zd|fail) [h0,h1I,h2I,t1,e1,e2,w8,-getElem?_pos];omega
theorem Zvb (n:Nat)(h:n<2147483648):(K A).call 250 [u64V n] []=some (intV (Sort.bitsLen n),[]):=by
 have hc:=Zto (A:=A) n h;refine fnO v250 ?_;unfold v250;simp[hc]
theorem pow241 (n:Nat)(h:n<2147483648):(K A).call 292 [intV n] []=some (u64V (2 ^ Sort.bitsLen n),[]):=by
 have hc:=Zvb (A:=A) n h;have hb:=Zge (n:=n) (k:=31) h;have hw:IntKind.u64.wrap (n:Int)=n:=Zba n (by omega);have hp:2 ^ Sort.bitsLen n<=2 ^ 31:=qal (by omega) hb;have hs:shlI .u64 1 (Sort.bitsLen n:Int)=((2 ^ Sort.bitsLen n:Nat):Int):=by
  unfold shlI;rw[qag,show min (Sort.bitsLen n) IntKind.u64.bits=Sort.bitsLen n from qbe (qu hb (by decide)),Int.one_mul];have:=Zba (2 ^ Sort.bitsLen n) (by omega);simpa using this
 refine fnO v292 ?_;unfold v292;generalize Sort.bitsLen n=k at *
 simp(disch:=first|exact zd|fail) [hc,hw,hs]
theorem ZdR (a len md:Nat)(st:UInt64×Array Nat)(i:Nat):(Sort.breakStep a len md st i).2.size=st.2.size:=by simp[Sort.breakStep]
def stp (a len md idx:Nat):Nat->UInt64×Array Nat->UInt64×Array Nat
 |0,st=>st
 |k+1,st=>stp a len md idx k (Sort.breakStep a len md st (idx+(2-k)))
theorem breakA {e:Array Nat}{l:List Nat}(h:Is e l){n:Nat}(hn:e.size=n)(a b:Nat)(hab:a<=b)(hb:b<=n)(hl:n<=1073741824):
 (K A).call 272 [.sc (.arr 0 n),intV a,intV b] [arrU l]=some (retV,[arrU (Sort.breakPatterns e a b).toList]):=by
 generalize hR:Sort.breakPatterns e a b=R;unfold Sort.breakPatterns at hR;generalize hL:b-a=L at *
 have hLI:(b:Int)-a=L:=by omega
 have hll:=Za5 h;refine fnO v272 ?_;unfold v272;by_cases h8:L>=8
 .have h8I:(8:Int)<=L:=by omega
  simp only[h8,if_true]at hR;have hq:Int.tdiv (L:Int) 4=((L / 4:Nat):Int):=by
   rw[qt (by omega)];omega
  have hpow:=pow241 (A:=A) L (by omega);have hbl:=bl_le (n:=L) (by omega);rw[Nat.shiftLeft_eq,Nat.one_mul]at hR;have hM1:1<=2 ^ Sort.bitsLen L:=Nat.one_le_two_pow;generalize hM:2 ^ Sort.bitsLen L=M at *
  generalize hQ:L / 4=Q at *
  generalize hi:a+Q*2-1=i0 at *
  have hiI:(a:Int)+Q*2-1=i0:=by omega
  have hw:IntKind.u64.wrap (L:Int)=((UInt64.ofNat L).toNat:Int):=by
   rw[Zba L (by omega),UInt64.toNat_ofNat_of_lt' (by show L<18446744073709551616;omega)]
  have hR3:(stp a L M i0 3 (UInt64.ofNat L,e)).2=R:=hR;generalize UInt64.ofNat L=x0 at *
  simp(maxSteps:=4000000) (disch:=first|exact zd|fail) [hLI,h8I,hq,hpow,hiI,hw];refine Zad (fun r s=>∃(x:UInt64) (e:Array Nat) (l:List Nat),Is e l/\e.size=n/\(stp a L M i0 (3-r) (x,e)).2=R/\
   s=⟨[(0,.sc (.arr 0 n)),(1,intV a),(6,intV L),(7,.sc (.ptr 576 0)),(8,u64V M),(9,intV ((i0+r:Nat):Int))],[(0,some (arrU l)),(576,some (.box [.c (.int .u64 x.toNat)]))]⟩) 3
   ⟨x0,e,l,h,hn,hR3,by simp⟩ ?_ ?_
  .rintro r s hr ⟨x,e,l,hel,he,hR,rfl⟩
   obtain⟨k,hk⟩:∃k,3-r=k+1:=⟨2-r,by omega⟩;rw[hk,stp,show 2-k=r by omega]at hR;have hx242:=xor242 (A:=A) x;unfold Sort.breakStep at hR;simp only at hR;generalize Sort.xorNext x=y at *
   have hylt:=y.toNat_lt;have hand:andI .u64 (y.toNat:Int) ((M:Int)-1)=((y.toNat &&& (M-1):Nat):Int):=by
    rw[show(M:Int)-1=((M-1:Nat):Int) by omega];exact ZAD _ _ hylt (by omega)
   have hot:y.toNat &&& (M-1)<2*L:=Nat.lt_of_le_of_lt Nat.and_le_right (by omega);generalize y.toNat &&& (M-1)=o0 at *
   have hir:(i0:Int)+r<=a+Q*2+1:=(by omega);generalize hj:i0+r=j at *
   have hjI:(i0:Int)+r=j:=(by omega);have hcond:(j:Int)<=a+Q*2+1:=(by omega);have hx:=Zbf hel (i:=j) (by omega);have hjl:j<l.length:=(by rw[Za5 hel];omega);have hll:=Za5 hel;by_cases ho:o0>=L
   .have hoI:(L:Int)<=o0:=by omega
    rw[if_pos ho]at hR;have hp:(a:Int)+((o0:Int)-L)=((a+(o0-L):Nat):Int):=(by omega);have hpo:(o0:Int)-L=((o0-L:Nat):Int):=(by omega);have hp2:(a:Int)+((o0-L:Nat):Int)=((a+(o0-L):Nat):Int):=(by omega);have hol:o0-L<L:=(by omega);generalize o0-L=o1 at *
    generalize hpp:a+o1=p at *
    have hy:=Zbf hel (i:=p) (by omega);have hpl:p<l.length:=(by omega);have hsw:=Ze1 hel j p;generalize e[j]! = u at *
    generalize e[p]! = v at *
    obtain⟨v2,hv2⟩:=Zaa (l:=l.set j v) (i:=p) (by simp;omega);unfold Zpf;simp(maxSteps:=4000000) (disch:=first|exact zd|fail) [hv2,hx242,hq,hand,hcond,hoI,ho,hp,hp2,hpo,hx,hy,hll,he,V.ren,-getElem?_pos];refine⟨y,_,_,hsw,by simp[he],?_,?_⟩
    .rw [show 2-r=k by omega]
     exact hR
    .simp
     omega
   .have hoI:¬(L:Int)<=o0:=by omega
    rw[if_neg ho]at hR;have hp2:(a:Int)+(o0:Int)=((a+o0:Nat):Int):=(by omega);generalize hpp:a+o0=p at *
    have hy:=Zbf hel (i:=p) (by omega);have hpl:p<l.length:=(by omega);have hsw:=Ze1 hel j p;generalize e[j]! = u at *
    generalize e[p]! = v at *
    obtain⟨v2,hv2⟩:=Zaa (l:=l.set j v) (i:=p) (by simp;omega);unfold Zpf;simp(maxSteps:=4000000) (disch:=first|exact zd|fail) [hv2,hx242,hq,hand,hcond,hoI,ho,hp2,hx,hy,hll,he,V.ren,-getElem?_pos];refine⟨y,_,_,hsw,by simp[he],?_,?_⟩
    .rw [show 2-r=k by omega]
     exact hR
    .simp
     omega
  .rintro s ⟨x,e,l,hel,he,hR,rfl⟩
   rw[qaV,stp]at hR;subst hR;have hcond:¬((i0+3:Nat):Int)<=a+Q*2+1:=(by omega);have hcond2:¬(i0:Int)+3<=a+Q*2+1:=(by omega);have hll:=Za5 hel;unfold Zpf;simp(maxSteps:=4000000) (disch:=first|exact zd|fail) [hcond,hcond2,hq,hll,he,retV,isEq hel,-getElem?_pos]
 .have h8I:¬(8:Int)<=L:=by omega
  simp only[h8,if_false]at hR;subst hR;simp(maxSteps:=4000000) (disch:=first|exact zd|fail) [hLI,h8I,hll,hn,retV,isEq h,-getElem?_pos]
variable {A:Zab}
theorem ZuZ {p:Nat->Bool}{d:Array Nat}{i j:Nat}(h:i<=j)(hp:p d[i]! = true):Sort.scanUp p d j i=Sort.scanUp p d j (i+1):=by
 rw[Sort.scanUp];simp[h,hp]
theorem Zcy {p:Nat->Bool}{d:Array Nat}{i j:Nat}(h:¬(i<=j/\p d[i]! = true)):Sort.scanUp p d j i=i:=by
 rw[Sort.scanUp,if_neg (by simpa using h)]
theorem Zth (p:Nat->Bool)(d:Array Nat)(j:Nat):∀(k i:Nat),j+1-i<=k->i<=Sort.scanUp p d j i
 |0,i,h=>by rw[Zcy (by omega)];exact qe _
 |k+1,i,h=>by
  by_cases hc:i<=j/\p d[i]! = true
  .rw [ZuZ hc.1 hc.2]
   have:=Zth p d j k (i+1) (by omega);omega
  .rw [Zcy hc]
   exact qe _
theorem ZvE (p:Nat->Bool)(d:Array Nat)(j:Nat):∀(k i:Nat),j+1-i<=k->i<=j+1->Sort.scanUp p d j i<=j+1
 |0,i,h,h2=>by rw[Zcy (by omega)];exact h2
 |k+1,i,h,h2=>by
  by_cases hc:i<=j/\p d[i]! = true
  .rw [ZuZ hc.1 hc.2]
   exact ZvE p d j k (i+1) (by omega) (by omega)
  .rw [Zcy hc]
   exact h2
theorem Zna {p:Nat->Bool}{d:Array Nat}{i j:Nat}(h1:1<=j)(h:i<=j)(hp:p d[j]! = true):Sort.scanDown p d i j=Sort.scanDown p d i (j-1):=by
 obtain⟨k,rfl⟩:∃k,j=k+1:=⟨j-1,by omega⟩;rw[Sort.scanDown];simp[h,hp]
theorem Zd2 {p:Nat->Bool}{d:Array Nat}{i j:Nat}(h:¬(i<=j/\p d[j]! = true)):Sort.scanDown p d i j=j:=by
 cases j with
 |zero=>rfl
 |succ k=>rw[Sort.scanDown,if_neg (by simpa using h)]
theorem Zg2 (p:Nat->Bool)(d:Array Nat)(i:Nat):∀j,Sort.scanDown p d i j<=j
 |0=>qe _
 |j+1=>by
  rw[Sort.scanDown];split
  .have:=Zg2 p d i j
   omega
  .exact qe _
theorem ZtL {e:Array Nat}{l:List Nat}(h:Is e l){n:Nat}(hn:e.size=n)(a i j:Nat)(ha:a<n)(hj:j<n)(hl:n<=1073741824)(hi:i<=n+2):
 wp (K A) (.loop Zhf) (fun x s'=>x=.exit 0/\s'=⟨[(0,.sc (.arr 0 n)),(1,intV a),(10,intV ((Sort.scanUp (fun x=>ltN x e[a]!) e j i:Nat):Int)),(11,intV j),(43,Zae false)],[(0,some (arrU l))]⟩) ⟨[(0,.sc (.arr 0 n)),(1,intV a),(10,intV i),(11,intV j)],[(0,some (arrU l))]⟩:=by
 generalize hp:(fun x=>ltN x e[a]!)=p;have hpe:∀x,p x=ltN x e[a]! := fun x=>by rw[<-hp]
 clear hp;refine Zad (fun r s=>∃i':Nat,Sort.scanUp p e j i'=Sort.scanUp p e j i/\i'=i+r/\s=⟨[(0,.sc (.arr 0 n)),(1,intV a),(10,intV i'),(11,intV j)],[(0,some (arrU l))]⟩) (j+1-i) ⟨i,rfl,rfl,rfl⟩ ?_ ?_
 .rintro r s hr ⟨i',hs,hi',rfl⟩
  have hij:i'<=j:=by omega
  have hy:=Zbf h (i:=a) (by omega);have hz:=Zbf h (i:=i') (by omega);have hll:=Za5 h;have hpz:=hpe e[i']!;rw[Zht]at hpz;have hstop:=Zcy (p:=p) (d:=e) (i:=i') (j:=j);have hgo:=ZuZ (p:=p) (d:=e) (i:=i') (j:=j) hij;generalize e[a]! = y at *
  generalize e[i']! = z at *
  have hless:=Zb6 (A:=A) z y;have hal:a<l.length:=by omega
  have hil:i'<l.length:=by omega
  unfold Zhf;by_cases hlt:z<y
  .have hpf:p z=true:=by rw [hpz];simp [hlt]
   rw[hgo hpf]at hs;simp(maxSteps:=4000000) (disch:=first|exact zd|fail) [hij,hy,hz,hll,hn,hless,hlt,<-hs,-getElem?_pos];exact⟨i'+1,rfl,by omega,by omega⟩
  .have hpf:¬(i'<=j/\p z=true):=by rw [hpz];simp [hlt]
   rw[hstop hpf]at hs;simp(maxSteps:=4000000) (disch:=first|exact zd|fail) [hij,hy,hz,hll,hn,hless,hlt,<-hs,-getElem?_pos]
 .rintro s ⟨i',hs,hi',rfl⟩
  have hij:¬i'<=j:=by omega
  have hijI:¬(i':Int)<=j:=by omega
  rw[Zcy (by omega)]at hs;unfold Zhf;simp(maxSteps:=4000000) (disch:=first|exact zd|fail) [hij,hijI,<-hs,-getElem?_pos]
theorem ZuO {e:Array Nat}{l:List Nat}(h:Is e l){n:Nat}(hn:e.size=n)(a i j:Nat)(ha:a<n)(hj:j<n)(hl:n<=1073741824)(hi:1<=i)(hi2:i<=n+2){xs:Env}(hx:xs=[]\/xs=[(43,Zae false)]):
 wp (K A) (.loop ZiT) (fun x s'=>x=.exit 2/\s'=⟨[(0,.sc (.arr 0 n)),(1,intV a),(10,intV i),(11,intV ((Sort.scanDown (fun x=>!ltN x e[a]!) e i j:Nat):Int)),(60,Zae false)],[(0,some (arrU l))]⟩) ⟨(0,.sc (.arr 0 n))::(1,intV a)::(10,intV i)::(11,intV j)::xs,[(0,some (arrU l))]⟩:=by
 generalize hp:(fun x=>!ltN x e[a]!)=p;have hpe:∀x,p x=!ltN x e[a]! := fun x=>by rw[<-hp]
 clear hp;refine Zad (fun r s=>∃(j':Nat) (xs:Env),(xs=[]\/xs=[(43,Zae false)])/\Sort.scanDown p e i j'=Sort.scanDown p e i j/\j'+r=j/\s=⟨(0,.sc (.arr 0 n))::(1,intV a)::(10,intV i)::(11,intV j')::xs,[(0,some (arrU l))]⟩) (j+1-i) ⟨j,xs,hx,rfl,rfl,rfl⟩ ?_ ?_
 .clear hx
  rintro r s hr ⟨j',xs,hx,hs,hj',rfl⟩;have hij:i<=j':=by omega
  have hy:=Zbf h (i:=a) (by omega);have hz:=Zbf h (i:=j') (by omega);have hll:=Za5 h;have hpz:=hpe e[j']!;rw[Zht]at hpz;have hstop:=Zd2 (p:=p) (d:=e) (i:=i) (j:=j');have hgo:=Zna (p:=p) (d:=e) (i:=i) (j:=j') (by omega) hij;generalize e[a]! = y at *
  generalize e[j']! = z at *
  have hless:=Zb6 (A:=A) z y;have hal:a<l.length:=by omega
  have hjl:j'<l.length:=by omega
  have hj1:(j':Int)-1=((j'-1:Nat):Int):=by omega
  unfold ZiT;by_cases hlt:z<y
  .have hpf:¬(i<=j'/\p z=true):=by rw [hpz];simp [hlt]
   rw[hstop hpf]at hs;rcases hx with rfl|rfl<;>simp(maxSteps:=4000000) (disch:=first|exact zd|fail) [hij,hy,hz,hj1,hll,hn,hless,hlt,<-hs,-getElem?_pos]
  .have hpf:p z=true:=by rw [hpz];simp [hlt]
   rw[hgo hpf]at hs;have fin:∃j'' xs,(xs=[]\/xs=[(43,Zae false)])/\Sort.scanDown p e i j''=Sort.scanDown p e i j/\j''+(r+1)=j/\(⟨[(0,.sc (.arr 0 n)),(1,intV a),(10,intV i),(11,intV ((j'-1:Nat):Int))],[(0,some (arrU l))]⟩:St)=⟨(0,.sc (.arr 0 n))::(1,intV a)::(10,intV i)::(11,intV j'')::xs,[(0,some (arrU l))]⟩:=
    ⟨j'-1,[],.inl rfl,hs,by omega,rfl⟩
   rcases hx with rfl|rfl<;>(simp(maxSteps:=4000000) (disch:=first|exact zd|fail) [hij,hy,hz,hj1,hll,hn,hless,hlt,-getElem?_pos];simpa using fin)
 .clear hx
  rintro s ⟨j',xs,hx,hs,hj',rfl⟩;have hij:¬i<=j':=by omega
  have hijI:¬(i:Int)<=j':=by omega
  rw[Zd2 (by omega)]at hs;unfold ZiT;rcases hx with rfl|rfl<;>simp(maxSteps:=4000000) (disch:=first|exact zd|fail) [hij,hijI,<-hs,-getElem?_pos]
theorem ZrU {e:Array Nat}{l:List Nat}(h:Is e l){n:Nat}(hn:e.size=n)(a i j:Nat)(ha:a<n)(hj:j<n)(hl:n<=1073741824)(hi:i<=n+2):
 wp (K A) (.loop Zjp) (fun x s'=>x=.exit 6/\s'=⟨[(0,.sc (.arr 0 n)),(1,intV a),(10,intV ((Sort.scanUp (fun x=>ltN x e[a]!) e j i:Nat):Int)),(11,intV j),(112,Zae false)],[(0,some (arrU l))]⟩) ⟨[(0,.sc (.arr 0 n)),(1,intV a),(10,intV i),(11,intV j)],[(0,some (arrU l))]⟩:=by
 generalize hp:(fun x=>ltN x e[a]!)=p;have hpe:∀x,p x=ltN x e[a]! := fun x=>by rw[<-hp]
 clear hp;refine Zad (fun r s=>∃i':Nat,Sort.scanUp p e j i'=Sort.scanUp p e j i/\i'=i+r/\s=⟨[(0,.sc (.arr 0 n)),(1,intV a),(10,intV i'),(11,intV j)],[(0,some (arrU l))]⟩) (j+1-i) ⟨i,rfl,rfl,rfl⟩ ?_ ?_
 .rintro r s hr ⟨i',hs,hi',rfl⟩
  have hij:i'<=j:=by omega
  have hy:=Zbf h (i:=a) (by omega);have hz:=Zbf h (i:=i') (by omega);have hll:=Za5 h;have hpz:=hpe e[i']!;rw[Zht]at hpz;have hstop:=Zcy (p:=p) (d:=e) (i:=i') (j:=j);have hgo:=ZuZ (p:=p) (d:=e) (i:=i') (j:=j) hij;generalize e[a]! = y at *
  generalize e[i']! = z at *
  have hless:=Zb6 (A:=A) z y;have hal:a<l.length:=by omega
  have hil:i'<l.length:=by omega
  unfold Zjp;by_cases hlt:z<y
  .have hpf:p z=true:=by rw [hpz];simp [hlt]
   rw[hgo hpf]at hs;simp(maxSteps:=4000000) (disch:=first|exact zd|fail) [hij,hy,hz,hll,hn,hless,hlt,<-hs,-getElem?_pos];exact⟨i'+1,rfl,by omega,by omega⟩
  .have hpf:¬(i'<=j/\p z=true):=by rw [hpz];simp [hlt]
   rw[hstop hpf]at hs;simp(maxSteps:=4000000) (disch:=first|exact zd|fail) [hij,hy,hz,hll,hn,hless,hlt,<-hs,-getElem?_pos]
 .rintro s ⟨i',hs,hi',rfl⟩
  have hij:¬i'<=j:=by omega
  have hijI:¬(i':Int)<=j:=by omega
  rw[Zcy (by omega)]at hs;unfold Zjp;simp(maxSteps:=4000000) (disch:=first|exact zd|fail) [hij,hijI,<-hs,-getElem?_pos]
theorem Zsa {e:Array Nat}{l:List Nat}(h:Is e l){n:Nat}(hn:e.size=n)(a i j:Nat)(ha:a<n)(hj:j<n)(hl:n<=1073741824)(hi:1<=i)(hi2:i<=n+2){xs:Env}(hx:xs=[]\/xs=[(112,Zae false)]):
 wp (K A) (.loop Zl1) (fun x s'=>x=.exit 8/\s'=⟨[(0,.sc (.arr 0 n)),(1,intV a),(10,intV i),(11,intV ((Sort.scanDown (fun x=>!ltN x e[a]!) e i j:Nat):Int)),(129,Zae false)],[(0,some (arrU l))]⟩) ⟨(0,.sc (.arr 0 n))::(1,intV a)::(10,intV i)::(11,intV j)::xs,[(0,some (arrU l))]⟩:=by
 generalize hp:(fun x=>!ltN x e[a]!)=p;have hpe:∀x,p x=!ltN x e[a]! := fun x=>by rw[<-hp]
 clear hp;refine Zad (fun r s=>∃(j':Nat) (xs:Env),(xs=[]\/xs=[(112,Zae false)])/\Sort.scanDown p e i j'=Sort.scanDown p e i j/\j'+r=j/\s=⟨(0,.sc (.arr 0 n))::(1,intV a)::(10,intV i)::(11,intV j')::xs,[(0,some (arrU l))]⟩) (j+1-i) ⟨j,xs,hx,rfl,rfl,rfl⟩ ?_ ?_
 .clear hx
  rintro r s hr ⟨j',xs,hx,hs,hj',rfl⟩;have hij:i<=j':=by omega
  have hy:=Zbf h (i:=a) (by omega);have hz:=Zbf h (i:=j') (by omega);have hll:=Za5 h;have hpz:=hpe e[j']!;rw[Zht]at hpz;have hstop:=Zd2 (p:=p) (d:=e) (i:=i) (j:=j');have hgo:=Zna (p:=p) (d:=e) (i:=i) (j:=j') (by omega) hij;generalize e[a]! = y at *
  generalize e[j']! = z at *
  have hless:=Zb6 (A:=A) z y;have hal:a<l.length:=by omega
  have hjl:j'<l.length:=by omega
  have hj1:(j':Int)-1=((j'-1:Nat):Int):=by omega
  unfold Zl1;by_cases hlt:z<y
  .have hpf:¬(i<=j'/\p z=true):=by rw [hpz];simp [hlt]
   rw[hstop hpf]at hs;rcases hx with rfl|rfl<;>simp(maxSteps:=4000000) (disch:=first|exact zd|fail) [hij,hy,hz,hj1,hll,hn,hless,hlt,<-hs,-getElem?_pos]
  .have hpf:p z=true:=by rw [hpz];simp [hlt]
   rw[hgo hpf]at hs;have fin:∃j'' xs,(xs=[]\/xs=[(112,Zae false)])/\Sort.scanDown p e i j''=Sort.scanDown p e i j/\j''+(r+1)=j/\(⟨[(0,.sc (.arr 0 n)),(1,intV a),(10,intV i),(11,intV ((j'-1:Nat):Int))],[(0,some (arrU l))]⟩:St)=⟨(0,.sc (.arr 0 n))::(1,intV a)::(10,intV i)::(11,intV j'')::xs,[(0,some (arrU l))]⟩:=
    ⟨j'-1,[],.inl rfl,hs,by omega,rfl⟩
   rcases hx with rfl|rfl<;>(simp(maxSteps:=4000000) (disch:=first|exact zd|fail) [hij,hy,hz,hj1,hll,hn,hless,hlt,-getElem?_pos];simpa using fin)
 .clear hx
  rintro s ⟨j',xs,hx,hs,hj',rfl⟩;have hij:¬i<=j':=by omega
  have hijI:¬(i:Int)<=j':=by omega
  rw[Zd2 (by omega)]at hs;unfold Zl1;rcases hx with rfl|rfl<;>simp(maxSteps:=4000000) (disch:=first|exact zd|fail) [hij,hijI,<-hs,-getElem?_pos]
theorem Zvw {e:Array Nat}{l:List Nat}(h:Is e l){n:Nat}(hn:e.size=n)(a i j:Nat)(ha:a<n)(hj:j<n)(hl:n<=1073741824)(hi:i<=n+2):
 wp (K A) (.loop Zkj) (fun x s'=>x=.exit 2/\s'=⟨[(0,.sc (.arr 0 n)),(1,intV a),(9,intV ((Sort.scanUp (fun x=>!ltN e[a]! x) e j i:Nat):Int)),(10,intV j),(43,Zae false)],[(0,some (arrU l))]⟩) ⟨[(0,.sc (.arr 0 n)),(1,intV a),(9,intV i),(10,intV j)],[(0,some (arrU l))]⟩:=by
 generalize hp:(fun x=>!ltN e[a]! x)=p;have hpe:∀x,p x=!ltN e[a]! x:=fun x=>by rw[<-hp]
 clear hp;refine Zad (fun r s=>∃i':Nat,Sort.scanUp p e j i'=Sort.scanUp p e j i/\i'=i+r/\s=⟨[(0,.sc (.arr 0 n)),(1,intV a),(9,intV i'),(10,intV j)],[(0,some (arrU l))]⟩) (j+1-i) ⟨i,rfl,rfl,rfl⟩ ?_ ?_
 .rintro r s hr ⟨i',hs,hi',rfl⟩
  have hij:i'<=j:=by omega
  have hy:=Zbf h (i:=a) (by omega);have hz:=Zbf h (i:=i') (by omega);have hll:=Za5 h;have hpz:=hpe e[i']!;rw[Zht]at hpz;have hstop:=Zcy (p:=p) (d:=e) (i:=i') (j:=j);have hgo:=ZuZ (p:=p) (d:=e) (i:=i') (j:=j) hij;generalize e[a]! = y at *
  generalize e[i']! = z at *
  have hless:=Zb6 (A:=A) y z;have hal:a<l.length:=by omega
  have hil:i'<l.length:=by omega
  unfold Zkj;by_cases hlt:y<z
  .have hpf:¬(i'<=j/\p z=true):=by rw [hpz];simp [hlt]
   rw[hstop hpf]at hs;simp(maxSteps:=4000000) (disch:=first|exact zd|fail) [hij,hy,hz,hll,hn,hless,hlt,<-hs,-getElem?_pos]
  .have hpf:p z=true:=by rw [hpz];simp [hlt]
   rw[hgo hpf]at hs;simp(maxSteps:=4000000) (disch:=first|exact zd|fail) [hij,hy,hz,hll,hn,hless,hlt,<-hs,-getElem?_pos];exact⟨i'+1,rfl,by omega,by omega⟩
 .rintro s ⟨i',hs,hi',rfl⟩
  have hij:¬i'<=j:=by omega
  have hijI:¬(i':Int)<=j:=by omega
  rw[Zcy (by omega)]at hs;unfold Zkj;simp(maxSteps:=4000000) (disch:=first|exact zd|fail) [hij,hijI,<-hs,-getElem?_pos]
theorem ZvL {e:Array Nat}{l:List Nat}(h:Is e l){n:Nat}(hn:e.size=n)(a i j:Nat)(ha:a<n)(hj:j<n)(hl:n<=1073741824)(hi:1<=i)(hi2:i<=n+2){xs:Env}(hx:xs=[]\/xs=[(43,Zae false)]):
 wp (K A) (.loop Zmj) (fun x s'=>x=.exit 4/\s'=⟨[(0,.sc (.arr 0 n)),(1,intV a),(9,intV i),(10,intV ((Sort.scanDown (fun x=>ltN e[a]! x) e i j:Nat):Int)),(59,Zae false)],[(0,some (arrU l))]⟩) ⟨(0,.sc (.arr 0 n))::(1,intV a)::(9,intV i)::(10,intV j)::xs,[(0,some (arrU l))]⟩:=by
 generalize hp:(fun x=>ltN e[a]! x)=p;have hpe:∀x,p x=ltN e[a]! x:=fun x=>by rw[<-hp]
 clear hp;refine Zad (fun r s=>∃(j':Nat) (xs:Env),(xs=[]\/xs=[(43,Zae false)])/\Sort.scanDown p e i j'=Sort.scanDown p e i j/\j'+r=j/\s=⟨(0,.sc (.arr 0 n))::(1,intV a)::(9,intV i)::(10,intV j')::xs,[(0,some (arrU l))]⟩) (j+1-i) ⟨j,xs,hx,rfl,rfl,rfl⟩ ?_ ?_
 .clear hx
  rintro r s hr ⟨j',xs,hx,hs,hj',rfl⟩;have hij:i<=j':=by omega
  have hy:=Zbf h (i:=a) (by omega);have hz:=Zbf h (i:=j') (by omega);have hll:=Za5 h;have hpz:=hpe e[j']!;rw[Zht]at hpz;have hstop:=Zd2 (p:=p) (d:=e) (i:=i) (j:=j');have hgo:=Zna (p:=p) (d:=e) (i:=i) (j:=j') (by omega) hij;generalize e[a]! = y at *
  generalize e[j']! = z at *
  have hless:=Zb6 (A:=A) y z;have hal:a<l.length:=by omega
  have hjl:j'<l.length:=by omega
  have hj1:(j':Int)-1=((j'-1:Nat):Int):=by omega
  unfold Zmj;by_cases hlt:y<z
  .have hpf:p z=true:=by rw [hpz];simp [hlt]
   rw[hgo hpf]at hs;have fin:∃j'' xs,(xs=[]\/xs=[(43,Zae false)])/\Sort.scanDown p e i j''=Sort.scanDown p e i j/\j''+(r+1)=j/\(⟨[(0,.sc (.arr 0 n)),(1,intV a),(9,intV i),(10,intV ((j'-1:Nat):Int))],[(0,some (arrU l))]⟩:St)=⟨(0,.sc (.arr 0 n))::(1,intV a)::(9,intV i)::(10,intV j'')::xs,[(0,some (arrU l))]⟩:=
    ⟨j'-1,[],.inl rfl,hs,by omega,rfl⟩
   rcases hx with rfl|rfl<;>(simp(maxSteps:=4000000) (disch:=first|exact zd|fail) [hij,hy,hz,hj1,hll,hn,hless,hlt,-getElem?_pos];simpa using fin)
  .have hpf:¬(i<=j'/\p z=true):=by rw [hpz];simp [hlt]
   rw[hstop hpf]at hs;rcases hx with rfl|rfl<;>simp(maxSteps:=4000000) (disch:=first|exact zd|fail) [hij,hy,hz,hj1,hll,hn,hless,hlt,<-hs,-getElem?_pos]
 .clear hx
  rintro s ⟨j',xs,hx,hs,hj',rfl⟩;have hij:¬i<=j':=by omega
  have hijI:¬(i:Int)<=j':=by omega
  rw[Zd2 (by omega)]at hs;unfold Zmj;rcases hx with rfl|rfl<;>simp(maxSteps:=4000000) (disch:=first|exact zd|fail) [hij,hijI,<-hs,-getElem?_pos]
variable {A:Zab}
theorem ZnQ (a i j:Nat)(d:Array Nat):Sort.partLoop ltN a i j d=
 if Sort.scanUp (fun x=>ltN x d[a]!) d j i>Sort.scanDown (fun x=>!ltN x d[a]!) d (Sort.scanUp (fun x=>ltN x d[a]!) d j i) j then (Sort.scanDown (fun x=>!ltN x d[a]!) d (Sort.scanUp (fun x=>ltN x d[a]!) d j i) j,d)
 else if Sort.scanDown (fun x=>!ltN x d[a]!) d (Sort.scanUp (fun x=>ltN x d[a]!) d j i) j-1+1-(Sort.scanUp (fun x=>ltN x d[a]!) d j i+1)<j+1-i then
  Sort.partLoop ltN a (Sort.scanUp (fun x=>ltN x d[a]!) d j i+1) (Sort.scanDown (fun x=>!ltN x d[a]!) d (Sort.scanUp (fun x=>ltN x d[a]!) d j i) j-1) (Sort.swp d (Sort.scanUp (fun x=>ltN x d[a]!) d j i) (Sort.scanDown (fun x=>!ltN x d[a]!) d (Sort.scanUp (fun x=>ltN x d[a]!) d j i) j))
 else (Sort.scanDown (fun x=>!ltN x d[a]!) d (Sort.scanUp (fun x=>ltN x d[a]!) d j i) j,d):=by
 rw[Sort.partLoop];simp only[dite_eq_ite]
theorem Zo8 {e:Array Nat}{l:List Nat}(h:Is e l){n:Nat}(hn:e.size=n)(a i j:Nat)(ha:a<n)(hj:j<n)(hl:n<=1073741824)(hi:1<=i)(hi2:i<=j+2):
 wp (K A) Zph (fun x s'=>
  (x=.normal/\∃(i' j':Nat) (e':Array Nat) (l':List Nat),Is e' l'/\e'.size=n/\Sort.partLoop ltN a i' j' e'=Sort.partLoop ltN a i j e/\i<i'/\i'<=j+1/\i'<=j'+2/\j'<=j/\s'=⟨[(0,.sc (.arr 0 n)),(1,intV a),(10,intV i'),(11,intV j')],[(0,some (arrU l'))]⟩)\/
  (x=.exit 4/\∃(i' j':Nat),Sort.partLoop ltN a i j e=(j',e)/\j'<=j/\i'<=j+2/\s'=⟨[(0,.sc (.arr 0 n)),(1,intV a),(10,intV i'),(11,intV j'),(134,Zae true)],[(0,some (arrU l))]⟩)) ⟨[(0,.sc (.arr 0 n)),(1,intV a),(10,intV i),(11,intV j)],[(0,some (arrU l))]⟩:=by
 have hR:=ZnQ a i j e;unfold Zph;simp only[wp_block,wp_seq];refine ZaU (ZrU (A:=A) h hn a i j ha hj hl (by omega)) ?_;rintro _ _ ⟨rfl,rfl⟩;have g1:=Zth (fun x=>ltN x e[a]!) e j _ i (qe _);have g2:i<=j+1->Sort.scanUp (fun x=>ltN x e[a]!) e j i<=j+1:=ZvE (fun x=>ltN x e[a]!) e j _ i (qe _);have g3:¬i<=j+1->Sort.scanUp (fun x=>ltN x e[a]!) e j i=i:=fun hc=>Zcy (by omega)
 generalize Sort.scanUp (fun x=>ltN x e[a]!) e j i=i2 at *
 simp only[blockQ_exit,beq_self_eq_true,cond_true,thenQ_normal,wp_block,wp_seq];refine ZaU (Zsa (A:=A) (xs:=[(112,Zae false)]) h hn a i2 j ha hj hl (by omega) (by omega) (.inr rfl)) ?_;rintro _ _ ⟨rfl,rfl⟩;have g4:=Zg2 (fun x=>!ltN x e[a]!) e i2 j;generalize Sort.scanDown (fun x=>!ltN x e[a]!) e i2 j=j2 at *
 simp only[blockQ_exit,beq_self_eq_true,cond_true,thenQ_normal,wp_block,wp_seq];by_cases hc:i2>j2
 .have hcI:((j2:Int)<(i2:Int)):=by omega
  rw[if_pos hc]at hR;rw[hR];have fin:∃(i' j':Nat),((j2,e):Nat×Array Nat)=(j',e)/\j'<=j/\i'<=j+2/\(⟨[(0,.sc (.arr 0 n)),(1,intV a),(10,intV i2),(11,intV j2),(134,Zae true)],[(0,some (arrU l))]⟩:St)=⟨[(0,.sc (.arr 0 n)),(1,intV a),(10,intV i'),(11,intV j'),(134,Zae true)],[(0,some (arrU l))]⟩:=
   ⟨i2,j2,rfl,by omega,by omega,rfl⟩
  simp(maxSteps:=4000000) (disch:=first|exact zd|fail) [hc,hcI,-getElem?_pos];simpa using fin
 .have hcN:¬j2<i2:=by omega
  have hcI:¬((j2:Int)<(i2:Int)):=by omega
  rw[if_neg hc,if_pos (by omega)]at hR;rw[hR];have hx:=Zbf h (i:=i2) (by omega);have hy:=Zbf h (i:=j2) (by omega);have hsw:=Ze1 h i2 j2;have hll:=Za5 h;have hil:i2<l.length:=by omega
  have hjl:j2<l.length:=by omega
  have hj1:(j2:Int)-1=((j2-1:Nat):Int):=by omega
  generalize e[i2]! = u at *
  generalize e[j2]! = v at *
  obtain⟨v2,hv2⟩:=Zaa (l:=l.set i2 v) (i:=j2) (by simp;omega)
  have fin:∃(i' j':Nat) (e':Array Nat) (l':List Nat),Is e' l'/\e'.size=n/\Sort.partLoop ltN a i' j' e'=Sort.partLoop ltN a (i2+1) (j2-1) (Sort.swp e i2 j2)/\i<i'/\i'<=j+1/\i'<=j'+2/\j'<=j/\(⟨[(0,.sc (.arr 0 n)),(1,intV a),(10,intV ((i2:Int)+1)),(11,intV ((j2-1:Nat):Int))],[(0,some (arrU ((l.set i2 v).set j2 u)))]⟩:St)=⟨[(0,.sc (.arr 0 n)),(1,intV a),(10,intV i'),(11,intV j')],[(0,some (arrU l'))]⟩:=
   ⟨i2+1,j2-1,_,_,hsw,by simp[hn],rfl,by omega,by omega,by omega,by omega,by simp⟩
  simp(maxSteps:=4000000) (disch:=first|exact zd|fail) [hcN,hcI,hx,hy,hv2,hj1,hll,hn,-getElem?_pos];simpa using fin
theorem Zxp {e:Array Nat}{l:List Nat}(h:Is e l){n:Nat}(hn:e.size=n)(a i j:Nat)(ha:a<n)(hj:j<n)(hl:n<=1073741824)(hi:1<=i)(hi2:i<=j+2):
 wp (K A) (.loop Zph) (fun x s'=>x=.exit 4/\∃(i' j':Nat) (e':Array Nat) (l':List Nat),Is e' l'/\e'.size=n/\Sort.partLoop ltN a i j e=(j',e')/\j'<n/\i'<=n+2/\s'=⟨[(0,.sc (.arr 0 n)),(1,intV a),(10,intV i'),(11,intV j'),(134,Zae true)],[(0,some (arrU l'))]⟩) ⟨[(0,.sc (.arr 0 n)),(1,intV a),(10,intV i),(11,intV j)],[(0,some (arrU l))]⟩:=by
 refine Zad (fun r s=>∃(i' j':Nat) (e':Array Nat) (l':List Nat),Is e' l'/\e'.size=n/\Sort.partLoop ltN a i' j' e'=Sort.partLoop ltN a i j e/\i+r<=i'/\i'<=j'+2/\j'<=j/\s=⟨[(0,.sc (.arr 0 n)),(1,intV a),(10,intV i'),(11,intV j')],[(0,some (arrU l'))]⟩) (j+1) ⟨i,j,e,l,h,hn,rfl,qe _,hi2,qe _,rfl⟩ ?_ ?_
 .rintro r s hr ⟨i',j',e',l',h',hn',hR,h1,h2,h3,rfl⟩
  refine ZaU (Zo8 (A:=A) h' hn' a i' j' ha (by omega) hl (by omega) h2) ?_;rintro x s (⟨rfl,i2,j2,e2,l2,k1,k2,k3,k4,k5,k6,k7,rfl⟩|⟨rfl,i2,j2,k1,k2,k3,rfl⟩)
  .exact .inl ⟨rfl,i2,j2,e2,l2,k1,k2,k3.trans hR,by omega,k6,by omega,rfl⟩
  .exact .inr ⟨by simp,rfl,i2,j2,e',l',h',hn',by rw[<-hR,k1],by omega,by omega,rfl⟩
 .rintro s ⟨i',j',e',l',h',hn',hR,h1,h2,h3,rfl⟩
  refine ZaU (Zo8 (A:=A) h' hn' a i' j' ha (by omega) hl (by omega) h2) ?_;rintro x s (⟨rfl,i2,j2,e2,l2,k1,k2,k3,k4,k5,k6,k7,rfl⟩|⟨rfl,i2,j2,k1,k2,k3,rfl⟩)
  .exfalso
   omega
  .exact⟨by simp,rfl,i2,j2,e',l',h',hn',by rw[<-hR,k1],by omega,by omega,rfl⟩
theorem Zej (a i j:Nat)(d:Array Nat):Sort.partEqLoop ltN a i j d=
 if Sort.scanUp (fun x=>!ltN d[a]! x) d j i>Sort.scanDown (fun x=>ltN d[a]! x) d (Sort.scanUp (fun x=>!ltN d[a]! x) d j i) j then (Sort.scanUp (fun x=>!ltN d[a]! x) d j i,d)
 else if Sort.scanDown (fun x=>ltN d[a]! x) d (Sort.scanUp (fun x=>!ltN d[a]! x) d j i) j-1+1-(Sort.scanUp (fun x=>!ltN d[a]! x) d j i+1)<j+1-i then
  Sort.partEqLoop ltN a (Sort.scanUp (fun x=>!ltN d[a]! x) d j i+1) (Sort.scanDown (fun x=>ltN d[a]! x) d (Sort.scanUp (fun x=>!ltN d[a]! x) d j i) j-1) (Sort.swp d (Sort.scanUp (fun x=>!ltN d[a]! x) d j i) (Sort.scanDown (fun x=>ltN d[a]! x) d (Sort.scanUp (fun x=>!ltN d[a]! x) d j i) j))
 else (Sort.scanUp (fun x=>!ltN d[a]! x) d j i,d):=by
 rw[Sort.partEqLoop];simp only[dite_eq_ite]
theorem Zo5 {e:Array Nat}{l:List Nat}(h:Is e l){n:Nat}(hn:e.size=n)(a i j:Nat)(ha:a<n)(hj:j<n)(hl:n<=1073741824)(hi:1<=i)(hi2:i<=j+2):
 wp (K A) Zp5 (fun x s'=>
  (x=.normal/\∃(i' j':Nat) (e':Array Nat) (l':List Nat),Is e' l'/\e'.size=n/\Sort.partEqLoop ltN a i' j' e'=Sort.partEqLoop ltN a i j e/\i<i'/\i'<=j+1/\i'<=j'+2/\j'<=j/\s'=⟨[(0,.sc (.arr 0 n)),(1,intV a),(9,intV i'),(10,intV j')],[(0,some (arrU l'))]⟩)\/
  (x=.exit 0/\∃(i' j':Nat),Sort.partEqLoop ltN a i j e=(i',e)/\j'<=j/\i'<=j+2/\s'=⟨[(0,.sc (.arr 0 n)),(1,intV a),(9,intV i'),(10,intV j'),(64,Zae true)],[(0,some (arrU l))]⟩)) ⟨[(0,.sc (.arr 0 n)),(1,intV a),(9,intV i),(10,intV j)],[(0,some (arrU l))]⟩:=by
 have hR:=Zej a i j e;unfold Zp5;simp only[wp_block,wp_seq];refine ZaU (Zvw (A:=A) h hn a i j ha hj hl (by omega)) ?_;rintro _ _ ⟨rfl,rfl⟩;have g1:=Zth (fun x=>!ltN e[a]! x) e j _ i (qe _);have g2:i<=j+1->Sort.scanUp (fun x=>!ltN e[a]! x) e j i<=j+1:=ZvE (fun x=>!ltN e[a]! x) e j _ i (qe _);have g3:¬i<=j+1->Sort.scanUp (fun x=>!ltN e[a]! x) e j i=i:=fun hc=>Zcy (by omega)
 generalize Sort.scanUp (fun x=>!ltN e[a]! x) e j i=i2 at *
 simp only[blockQ_exit,beq_self_eq_true,cond_true,thenQ_normal,wp_block,wp_seq];refine ZaU (ZvL (A:=A) (xs:=[(43,Zae false)]) h hn a i2 j ha hj hl (by omega) (by omega) (.inr rfl)) ?_;rintro _ _ ⟨rfl,rfl⟩;have g4:=Zg2 (fun x=>ltN e[a]! x) e i2 j;generalize Sort.scanDown (fun x=>ltN e[a]! x) e i2 j=j2 at *
 simp only[blockQ_exit,beq_self_eq_true,cond_true,thenQ_normal,wp_block,wp_seq];by_cases hc:i2>j2
 .have hcI:((j2:Int)<(i2:Int)):=by omega
  rw[if_pos hc]at hR;rw[hR];have fin:∃(i' j':Nat),((i2,e):Nat×Array Nat)=(i',e)/\j'<=j/\i'<=j+2/\(⟨[(0,.sc (.arr 0 n)),(1,intV a),(9,intV i2),(10,intV j2),(64,Zae true)],[(0,some (arrU l))]⟩:St)=⟨[(0,.sc (.arr 0 n)),(1,intV a),(9,intV i'),(10,intV j'),(64,Zae true)],[(0,some (arrU l))]⟩:=
   ⟨i2,j2,rfl,by omega,by omega,rfl⟩
  simp(maxSteps:=4000000) (disch:=first|exact zd|fail) [hc,hcI,-getElem?_pos];simpa using fin
 .have hcN:¬j2<i2:=by omega
  have hcI:¬((j2:Int)<(i2:Int)):=by omega
  rw[if_neg hc,if_pos (by omega)]at hR;rw[hR];have hx:=Zbf h (i:=i2) (by omega);have hy:=Zbf h (i:=j2) (by omega);have hsw:=Ze1 h i2 j2;have hll:=Za5 h;have hil:i2<l.length:=by omega
  have hjl:j2<l.length:=by omega
  have hj1:(j2:Int)-1=((j2-1:Nat):Int):=by omega
  generalize e[i2]! = u at *
  generalize e[j2]! = v at *
  obtain⟨v2,hv2⟩:=Zaa (l:=l.set i2 v) (i:=j2) (by simp;omega)
  have fin:∃(i' j':Nat) (e':Array Nat) (l':List Nat),Is e' l'/\e'.size=n/\Sort.partEqLoop ltN a i' j' e'=Sort.partEqLoop ltN a (i2+1) (j2-1) (Sort.swp e i2 j2)/\i<i'/\i'<=j+1/\i'<=j'+2/\j'<=j/\(⟨[(0,.sc (.arr 0 n)),(1,intV a),(9,intV ((i2:Int)+1)),(10,intV ((j2-1:Nat):Int))],[(0,some (arrU ((l.set i2 v).set j2 u)))]⟩:St)=⟨[(0,.sc (.arr 0 n)),(1,intV a),(9,intV i'),(10,intV j')],[(0,some (arrU l'))]⟩:=
   ⟨i2+1,j2-1,_,_,hsw,by simp[hn],rfl,by omega,by omega,by omega,by omega,by simp⟩
  simp(maxSteps:=4000000) (disch:=first|exact zd|fail) [hcN,hcI,hx,hy,hv2,hj1,hll,hn,-getElem?_pos];simpa using fin
theorem Zws {e:Array Nat}{l:List Nat}(h:Is e l){n:Nat}(hn:e.size=n)(a i j:Nat)(ha:a<n)(hj:j<n)(hl:n<=1073741824)(hi:1<=i)(hi2:i<=j+2):
 wp (K A) (.loop Zp5) (fun x s'=>x=.exit 0/\∃(i' j':Nat) (e':Array Nat) (l':List Nat),Is e' l'/\e'.size=n/\Sort.partEqLoop ltN a i j e=(i',e')/\j'<n/\i'<=n+2/\s'=⟨[(0,.sc (.arr 0 n)),(1,intV a),(9,intV i'),(10,intV j'),(64,Zae true)],[(0,some (arrU l'))]⟩) ⟨[(0,.sc (.arr 0 n)),(1,intV a),(9,intV i),(10,intV j)],[(0,some (arrU l))]⟩:=by
 refine Zad (fun r s=>∃(i' j':Nat) (e':Array Nat) (l':List Nat),Is e' l'/\e'.size=n/\Sort.partEqLoop ltN a i' j' e'=Sort.partEqLoop ltN a i j e/\i+r<=i'/\i'<=j'+2/\j'<=j/\s=⟨[(0,.sc (.arr 0 n)),(1,intV a),(9,intV i'),(10,intV j')],[(0,some (arrU l'))]⟩) (j+1) ⟨i,j,e,l,h,hn,rfl,qe _,hi2,qe _,rfl⟩ ?_ ?_
 .rintro r s hr ⟨i',j',e',l',h',hn',hR,h1,h2,h3,rfl⟩
  refine ZaU (Zo5 (A:=A) h' hn' a i' j' ha (by omega) hl (by omega) h2) ?_;rintro x s (⟨rfl,i2,j2,e2,l2,k1,k2,k3,k4,k5,k6,k7,rfl⟩|⟨rfl,i2,j2,k1,k2,k3,rfl⟩)
  .exact .inl ⟨rfl,i2,j2,e2,l2,k1,k2,k3.trans hR,by omega,k6,by omega,rfl⟩
  .exact .inr ⟨by simp,rfl,i2,j2,e',l',h',hn',by rw[<-hR,k1],by omega,by omega,rfl⟩
 .rintro s ⟨i',j',e',l',h',hn',hR,h1,h2,h3,rfl⟩
  refine ZaU (Zo5 (A:=A) h' hn' a i' j' ha (by omega) hl (by omega) h2) ?_;rintro x s (⟨rfl,i2,j2,e2,l2,k1,k2,k3,k4,k5,k6,k7,rfl⟩|⟨rfl,i2,j2,k1,k2,k3,rfl⟩)
  .exfalso
   omega
  .exact⟨by simp,rfl,i2,j2,e',l',h',hn',by rw[<-hR,k1],by omega,by omega,rfl⟩
theorem ZA7 {e:Array Nat}{l:List Nat}(h:Is e l){n:Nat}(hn:e.size=n)(a b p:Nat)(ha:a<=p)(hp:p<b)(hb:b<=n)(hl:n<=1073741824):
 (K A).call 277 [.sc (.arr 0 n),intV a,intV b,intV p] [arrU l]=some (intV (Sort.partitionEqual ltN e a b p).1,[arrU (Sort.partitionEqual ltN e a b p).2.toList]):=by
 generalize hR:Sort.partitionEqual ltN e a b p=R;unfold Sort.partitionEqual at hR;have hx:=Zbf h (i:=a) (by omega);have hy:=Zbf h (i:=p) (by omega);have hsw:=Ze1 h a p;have hll:=Za5 h;have hal:a<l.length:=by omega
 have hpl:p<l.length:=by omega
 have hsz:(Sort.swp e a p).size=n:=by simp[hn]
 generalize Sort.swp e a p=e1 at *
 generalize e[a]! = u at *
 generalize e[p]! = v at *
 obtain⟨v2,hv2⟩:=Zaa (l:=l.set a v) (i:=p) (by simp;omega);have hb1:(b:Int)-1=((b-1:Nat):Int):=by omega
 have ha1:(a:Int)+1=((a+1:Nat):Int):=by omega
 have hw:=Zws (A:=A) hsw hsz a (a+1) (b-1) (by omega) (by omega) hl (by omega) (by omega);rw[hR]at hw;generalize b-1=b1 at *
 generalize a+1=a1 at *
 refine fnO v277 ?_;unfold v277;simp(maxSteps:=4000000) (disch:=first|exact zd|fail) [hx,hy,hv2,hb1,ha1,hll,hn,-getElem?_pos];refine ZaU hw ?_;rintro _ _ ⟨rfl,i',j',e',l',k1,k2,rfl,k4,k5,rfl⟩;have hll:=Za5 k1;simp(maxSteps:=4000000) (disch:=first|exact zd|fail) [hll,k2,isEq k1,-getElem?_pos]
variable {A:Zab}
theorem partA {e:Array Nat}{l:List Nat}(h:Is e l){n:Nat}(hn:e.size=n)(a b p:Nat)(ha:a<=p)(hp:p<b)(hb:b<=n)(hl:n<=1073741824):
 (K A).call 278 [.sc (.arr 0 n),intV a,intV b,intV p] [arrU l]=some (.tu [intV (Sort.partition ltN e a b p).1,Zae (Sort.partition ltN e a b p).2.1],[arrU (Sort.partition ltN e a b p).2.2.toList]):=by
 generalize hR:Sort.partition ltN e a b p=R;dsimp only[Sort.partition]at hR;have hx:=Zbf h (i:=a) (by omega);have hy:=Zbf h (i:=p) (by omega);have hsw:=Ze1 h a p;have hll:=Za5 h;have hal:a<l.length:=by omega
 have hpl:p<l.length:=by omega
 have hsz:(Sort.swp e a p).size=n:=by simp[hn]
 generalize Sort.swp e a p=e1 at *
 generalize e[a]! = u at *
 generalize e[p]! = v at *
 obtain⟨v2,hv2⟩:=Zaa (l:=l.set a v) (i:=p) (by simp;omega);have hb1:(b:Int)-1=((b-1:Nat):Int):=by omega
 have ha1:(a:Int)+1=((a+1:Nat):Int):=by omega
 have hw1:=ZtL (A:=A) hsw hsz a (a+1) (b-1) (by omega) (by omega) hl (by omega);have g1:=Zth (fun x=>ltN x e1[a]!) e1 (b-1) _ (a+1) (qe _);have g2:=ZvE (fun x=>ltN x e1[a]!) e1 (b-1) _ (a+1) (qe _) (by omega);generalize Sort.scanUp (fun x=>ltN x e1[a]!) e1 (b-1) (a+1)=i2 at *
 have hw2:=ZuO (A:=A) (xs:=[(43,Zae false)]) hsw hsz a i2 (b-1) (by omega) (by omega) hl (by omega) (by omega) (.inr rfl);have g4:=Zg2 (fun x=>!ltN x e1[a]!) e1 i2 (b-1);generalize Sort.scanDown (fun x=>!ltN x e1[a]!) e1 i2 (b-1)=j2 at *
 generalize hb1e:b-1=b1 at *
 generalize ha1e:a+1=a1 at *
 generalize hl1:(l.set a v).set p u=l1 at *
 have hll1:=Za5 hsw;have hx1:=Zbf hsw (i:=a) (by omega);have hy1:=Zbf hsw (i:=j2) (by omega);have hal1:a<l1.length:=by omega
 have hjl1:j2<l1.length:=by omega
 refine fnO v278 ?_;unfold v278;simp(maxSteps:=4000000) (disch:=first|exact zd|fail) [hx,hy,hv2,hb1,ha1,hll,hn,hl1,-getElem?_pos];refine ZaU hw1 ?_;rintro _ _ ⟨rfl,rfl⟩;simp only[blockQ_exit,beq_self_eq_true,cond_true,thenQ_normal,wp_block,wp_seq];refine ZaU hw2 ?_;rintro _ _ ⟨rfl,rfl⟩;by_cases hc:i2>j2
 .have hcI:(j2:Int)<(i2:Int):=by omega
  rw[if_pos hc]at hR;subst hR;have hsw2:=Ze1 hsw j2 a;generalize e1[a]! = u1 at *
  generalize e1[j2]! = w1 at *
  obtain⟨v3,hv3⟩:=Zaa (l:=l1.set j2 u1) (i:=a) (by simp;omega);have hsz2:=Za5 hsw2;simp(maxSteps:=4000000) (disch:=first|exact zd|fail) [hc,hcI,hx1,hy1,hv3,hll1,hsz,<-isEq hsw2,-getElem?_pos]
 .have hcN:¬j2<i2:=by omega
  have hcI:¬(j2:Int)<(i2:Int):=by omega
  rw[if_neg hc]at hR;have hz1:=Zbf hsw (i:=i2) (by omega);have hil1:i2<l1.length:=by omega
  have hsw2:=Ze1 hsw i2 j2;have hsz2:(Sort.swp e1 i2 j2).size=n:=by simp[hsz]
  have hj1:(j2:Int)-1=((j2-1:Nat):Int):=by omega
  have hi1:(i2:Int)+1=((i2+1:Nat):Int):=by omega
  have hw3:=Zxp (A:=A) hsw2 hsz2 a (i2+1) (j2-1) (by omega) (by omega) hl (by omega) (by omega);generalize Sort.swp e1 i2 j2=e2 at *
  generalize e1[i2]! = u1 at *
  generalize e1[j2]! = w1 at *
  generalize hPL:Sort.partLoop ltN a (i2+1) (j2-1) e2=PL at *
  generalize i2+1=i3 at *
  generalize j2-1=j3 at *
  obtain⟨v3,hv3⟩:=Zaa (l:=l1.set i2 w1) (i:=j2) (by simp;omega);simp(maxSteps:=4000000) (disch:=first|exact zd|fail) [hcN,hcI,hz1,hy1,hv3,hj1,hi1,hll1,hsz,-getElem?_pos];refine ZaU hw3 ?_;rintro _ _ ⟨rfl,i',j',e',l',k1,k2,rfl,k4,k5,rfl⟩;subst hR;have hll2:=Za5 k1;have hx2:=Zbf k1 (i:=a) (by omega);have hy2:=Zbf k1 (i:=j') (by omega);have hsw3:=Ze1 k1 j' a;have hal2:a<l'.length:=by omega
  have hjl2:j'<l'.length:=by omega
  generalize e'[a]! = u2 at *
  generalize e'[j']! = w2 at *
  obtain⟨v4,hv4⟩:=Zaa (l:=l'.set j' u2) (i:=a) (by simp;omega);simp(maxSteps:=4000000) (disch:=first|exact zd|fail) [hx2,hy2,hv4,hll2,k2,<-isEq hsw3,-getElem?_pos]
end Go.Vs.Tryz
