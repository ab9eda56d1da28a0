/- The library's sort, walked (3): the median, the pivot, breaking patterns. -/
import Derived.Test.YtccmnfpbcmccpaaGreatDoorRAa
set_option linter.unusedSimpArgs false
set_option linter.unusedVariables false
set_option linter.deprecated false
set_option maxRecDepth 9999
set_option maxHeartbeats 8000000
namespace Go.Vs
open Go
def shlI (k:IntKind)(a b:Int):Int:=k.wrap (a*2 ^ (min b.toNat k.bits))
def xorI (k:IntKind)(a b:Int):Int:=k.wrap (BitVec.ofInt k.bits a ^^^ BitVec.ofInt k.bits b).toNat
@[simp] theorem b_shl {k k':IntKind} {a b:Int} (h:0<=b):binV .shl 0 (.sc (.c (.int k a))) (.sc (.c (.int k' b)))=some (.sc (.c (.int k (shlI k a b))),[]):=by
 simp[binV,binW,Zbq,Ze3,Int.not_lt.2 h,shlI]
@[simp] theorem b_xor {k:IntKind} {a b:Int}:binV .xor 0 (.sc (.c (.int k a))) (.sc (.c (.int k b)))=some (.sc (.c (.int k (xorI k a b))),[]):=by simp[binV,binW,Zbq,Zc9,xorI]
theorem Za5 (n:Nat)(h:n<18446744073709551616):IntKind.u64.wrap (n:Int)=n:=by
 unfold IntKind.wrap;simp[IntKind.bits,IntKind.signed];omega
theorem Zur (x:UInt64)(k:Nat)(hk:k<64)(y:UInt64)(hy:y.toNat=k):shlI .u64 x.toNat (k:Int)=((x <<< y).toNat:Int):=by
 unfold shlI;rw[UInt64.toNat_shiftLeft,hy,qR hk,Nat.shiftLeft_eq,qac,show min k IntKind.u64.bits=k from qbf (Nat.le_of_lt hk)];unfold IntKind.wrap;simp[IntKind.bits,IntKind.signed]
theorem ZAk (x:UInt64)(k:Nat)(hk:k<64)(y:UInt64)(hy:y.toNat=k):shrI .u64 x.toNat (k:Int)=((x >>> y).toNat:Int):=by
 unfold shrI;rw[UInt64.toNat_shiftRight,hy,qR hk,Nat.shiftRight_eq_div_pow,qac,show min k IntKind.u64.bits=k from qbf (Nat.le_of_lt hk)];rw[Int.fdiv_eq_ediv_of_nonneg _ (Int.le_of_lt (Int.pow_pos (by decide)))];simp
theorem Zy4 (x y:UInt64):xorI .u64 x.toNat y.toNat=((x ^^^ y).toNat:Int):=by
 unfold xorI;have e:∀z:UInt64,BitVec.ofInt IntKind.u64.bits (z.toNat:Int)=z.toBitVec:=fun z=>by
  rw[BitVec.ofInt_natCast];apply BitVec.eq_of_toNat_eq;rw[BitVec.toNat_ofNat];exact qR z.toNat_lt
 rw[e,e];exact Za5 _ (x ^^^ y).toNat_lt
theorem ZzD (a b:Nat)(ha:a<18446744073709551616)(hb:b<18446744073709551616):andI .u64 a b=((a &&& b:Nat):Int):=by
 unfold andI;rw[BitVec.ofInt_natCast,BitVec.ofInt_natCast,BitVec.toNat_and,BitVec.toNat_ofNat,BitVec.toNat_ofNat];rw[show 2 ^ IntKind.u64.bits=18446744073709551616 from rfl,qR ha,qR hb];exact Za5 _ (Nat.lt_of_le_of_lt Nat.and_le_left ha)
end Go.Vs
namespace Go.Vs.Tryz
open Go Go.Vs
variable {A:Zab}
abbrev boxI (s:Nat):Obj:=.box [.c (.int .i64 (s:Int))]
theorem Znz {e:Array Nat}{l:List Nat}(h:Is e l){n:Nat}(hn:e.size=n)(a b s:Nat)(ha:a<n)(hb:b<n)(hs:s<=1000)(hl:n<=1073741824):
 (K A).call 301 [.sc (.arr 0 n),intV a,intV b,.sc (.ptr 1 0)] [arrU l,boxI s]=
   some (.tu [intV (Sort.order2 ltN e a b s).1,intV (Sort.order2 ltN e a b s).2.1],[arrU l,boxI (Sort.order2 ltN e a b s).2.2]):=by
 have hx:=Zbf h (i:=a) (by omega);have hy:=Zbf h (i:=b) (by omega);have hll:=Za3 h;have hless:=Zb9 (A:=A) e[b]! e[a]!;unfold Sort.order2;generalize e[a]! = x at *
 generalize e[b]! = y at *
 rw[Zhj];have hal:a<l.length:=by omega
 have hbl:b<l.length:=by omega
 refine fnO v301 ?_;unfold v301;by_cases hlt:y<x
 .simp only [hlt,decide_true,if_true]
  simp(maxSteps:=4000000) (disch:=first|exact zd|fail) [hx,hy,hll,hn,hless,hlt,-getElem?_pos]
 .simp only [hlt,decide_false,qH,if_false]
  simp(maxSteps:=4000000) (disch:=first|exact zd|fail) [hx,hy,hll,hn,hless,hlt,-getElem?_pos]
theorem ZiM (e:Array Nat){a b s n:Nat}(ha:a<n)(hb:b<n):(Sort.order2 ltN e a b s).1<n/\(Sort.order2 ltN e a b s).2.1<n/\(Sort.order2 ltN e a b s).2.2<=s+1:=by
 unfold Sort.order2;split
 .exact⟨hb,ha,qg _⟩
 .exact⟨ha,hb,Nat.le_succ _⟩
theorem Zng {e:Array Nat}{l:List Nat}(h:Is e l){n:Nat}(hn:e.size=n)(a b c s:Nat)(ha:a<n)(hb:b<n)(hc:c<n)(hs:s<=900)(hl:n<=1073741824):
 (K A).call 295 [.sc (.arr 0 n),intV a,intV b,intV c,.sc (.ptr 1 0)] [arrU l,boxI s]=some (intV (Sort.median ltN e a b c s).1,[arrU l,boxI (Sort.median ltN e a b c s).2])/\
   (Sort.median ltN e a b c s).1<n/\(Sort.median ltN e a b c s).2<=s+3:=by
 unfold Sort.median;have h1:=Znz (A:=A) h hn a b s ha hb (by omega) hl;obtain⟨p1,p2,p3⟩:=ZiM (s:=s) e ha hb;generalize Sort.order2 ltN e a b s=r1 at *
 obtain⟨a1,b1,s1⟩:=r1;simp only at *
 have h2:=Znz (A:=A) h hn b1 c s1 p2 hc (by omega) hl;obtain⟨q1,q2,q3⟩:=ZiM (s:=s1) e p2 hc;generalize Sort.order2 ltN e b1 c s1=r2 at *
 obtain⟨b2,c2,s2⟩:=r2;simp only at *
 have h3:=Znz (A:=A) h hn a1 b2 s2 p1 q1 (by omega) hl;obtain⟨t1,t2,t3⟩:=ZiM (s:=s2) e p1 q1;generalize Sort.order2 ltN e a1 b2 s2=r3 at *
 obtain⟨a3,b3,s3⟩:=r3;simp only at *
 have hll:=Za3 h;refine⟨?_,t2,by omega⟩;refine fnO v295 ?_;unfold v295;simp(maxSteps:=4000000) (disch:=first|exact zd|fail) [h1,h2,h3,hll,hn,V.ren,-getElem?_pos]
theorem Zg8 {e:Array Nat}{l:List Nat}(h:Is e l){n:Nat}(hn:e.size=n)(a s:Nat)(ha1:1<=a)(ha:a+1<n)(hs:s<=900)(hl:n<=1073741824):
 (K A).call 294 [.sc (.arr 0 n),intV a,.sc (.ptr 1 0)] [arrU l,boxI s]=some (intV (Sort.medianAdjacent ltN e a s).1,[arrU l,boxI (Sort.medianAdjacent ltN e a s).2])/\
   (Sort.medianAdjacent ltN e a s).1<n/\(Sort.medianAdjacent ltN e a s).2<=s+3:=by
 unfold Sort.medianAdjacent;obtain⟨h1,h2,h3⟩:=Zng (A:=A) h hn (a-1) a (a+1) s (by omega) (by omega) ha hs hl;refine⟨?_,h2,h3⟩;have e1:(a:Int)-1=((a-1:Nat):Int):=by omega
 have e2:(a:Int)+1=((a+1:Nat):Int):=by omega
 generalize hp:a-1=p at *
 generalize hq:a+1=q at *
 generalize Sort.median ltN e p a q s=r at *
 have hll:=Za3 h;refine fnO v294 ?_;unfold v294;simp(maxSteps:=4000000) (disch:=first|exact zd|fail) [h1,e1,e2,hll,hn,V.ren,-getElem?_pos]
def ZgS:Sort.Hint->Nat
 |.unknown=>0
 |.increasing=>1
 |.decreasing=>2
def pivR (e:Array Nat)(a b:Nat):Nat×Nat:=
 if b-a>=8 then
  if b-a>=50 then
   Sort.median ltN e (Sort.medianAdjacent ltN e (a+(b-a) / 4*1) 0).1 (Sort.medianAdjacent ltN e (a+(b-a) / 4*2) (Sort.medianAdjacent ltN e (a+(b-a) / 4*1) 0).2).1
    (Sort.medianAdjacent ltN e (a+(b-a) / 4*3) (Sort.medianAdjacent ltN e (a+(b-a) / 4*2) (Sort.medianAdjacent ltN e (a+(b-a) / 4*1) 0).2).2).1
    (Sort.medianAdjacent ltN e (a+(b-a) / 4*3) (Sort.medianAdjacent ltN e (a+(b-a) / 4*2) (Sort.medianAdjacent ltN e (a+(b-a) / 4*1) 0).2).2).2
  else Sort.median ltN e (a+(b-a) / 4*1) (a+(b-a) / 4*2) (a+(b-a) / 4*3) 0
 else (a+(b-a) / 4*2,0)
def ZrM (s:Nat):Sort.Hint:=if s=0 then .increasing else if s=12 then .decreasing else .unknown
theorem Zuc (e:Array Nat)(a b:Nat):Sort.choosePivot ltN e a b=((pivR e a b).1,ZrM (pivR e a b).2):=rfl
theorem ZAZ (s:Nat):ZgS (ZrM s)=if s=0 then 1 else if s=12 then 2 else 0:=by
 unfold ZrM;split
 .rfl
 .split<;>rfl
theorem pivotA {e:Array Nat}{l:List Nat}(h:Is e l){n:Nat}(hn:e.size=n)(a b:Nat)(hab:a<b)(hb:b<=n)(hl:n<=1073741824):
 (K A).call 273 [.sc (.arr 0 n),intV a,intV b] [arrU l]=some (.tu [intV (Sort.choosePivot ltN e a b).1,intV (ZgS (Sort.choosePivot ltN e a b).2)],[arrU l]):=by
 rw[Zuc,ZAZ];generalize hr:pivR e a b=r;unfold pivR at hr;generalize hL:b-a=L at *
 have hLI:(b:Int)-a=L:=by omega
 have hq:Int.tdiv (L:Int) 4=((L / 4:Nat):Int):=by
  rw[qv (by omega)];omega
 generalize hQ:L / 4=Q at *
 generalize hi:a+Q*1=i at *
 generalize hj:a+Q*2=j at *
 generalize hk:a+Q*3=k at *
 have hiI:(a:Int)+Q=i:=by omega
 have hjI:(a:Int)+Q*2=j:=by omega
 have hkI:(a:Int)+Q*3=k:=by omega
 have hll:=Za3 h;have h00:((0:Nat):Int)=0:=rfl;refine fnO v273 ?_;unfold v273;by_cases h8:L>=8
 .have h8I:(8:Int)<=L:=by omega
  by_cases h50:L>=50
  .have h50I:(50:Int)<=L:=by omega
   rw[if_pos h8,if_pos h50]at hr;obtain⟨u1,u2,u3⟩:=Zg8 (A:=A) h hn i 0 (by omega) (by omega) (by omega) hl;generalize Sort.medianAdjacent ltN e i 0=ri at *
   obtain⟨v1,v2,v3⟩:=Zg8 (A:=A) h hn j ri.2 (by omega) (by omega) (by omega) hl;generalize Sort.medianAdjacent ltN e j ri.2=rj at *
   obtain⟨w1,w2,w3⟩:=Zg8 (A:=A) h hn k rj.2 (by omega) (by omega) (by omega) hl;generalize Sort.medianAdjacent ltN e k rj.2=rk at *
   obtain⟨x1,x2,x3⟩:=Zng (A:=A) h hn ri.1 rj.1 rk.1 rk.2 u2 v2 w2 (by omega) hl;rw[hr]at x1 x2 x3;rw[boxI,h00]at u1;by_cases z0:r.2=0
   .simp(maxSteps:=4000000) (disch:=first|exact zd|fail) [u1,v1,w1,x1,hLI,hq,hiI,hjI,hkI,h8I,h50I,hll,hn,V.ren,z0,-getElem?_pos]
   .by_cases z12:r.2=12
    .simp(maxSteps:=4000000) (disch:=first|exact zd|fail) [u1,v1,w1,x1,hLI,hq,hiI,hjI,hkI,h8I,h50I,hll,hn,V.ren,z12,-getElem?_pos]
    .have z0I:¬(r.2:Int)=0:=by omega
     have z12I:¬(r.2:Int)=12:=(by omega);simp(maxSteps:=4000000) (disch:=first|exact zd|fail) [u1,v1,w1,x1,hLI,hq,hiI,hjI,hkI,h8I,h50I,hll,hn,V.ren,z0,z12,z0I,z12I,-getElem?_pos]
  .have h50I:¬(50:Int)<=L:=by omega
   rw[if_pos h8,if_neg h50]at hr;obtain⟨x1,x2,x3⟩:=Zng (A:=A) h hn i j k 0 (by omega) (by omega) (by omega) (by omega) hl;rw[hr]at x1 x2 x3;rw[boxI,h00]at x1;by_cases z0:r.2=0
   .simp(maxSteps:=4000000) (disch:=first|exact zd|fail) [x1,hLI,hq,hiI,hjI,hkI,h8I,h50I,hll,hn,V.ren,z0,-getElem?_pos]
   .have z0I:¬(r.2:Int)=0:=by omega
    have z12:¬r.2=12:=(by omega);have z12I:¬(r.2:Int)=12:=(by omega);simp(maxSteps:=4000000) (disch:=first|exact zd|fail) [x1,hLI,hq,hiI,hjI,hkI,h8I,h50I,hll,hn,V.ren,z0,z12,z0I,z12I,-getElem?_pos]
 .have h8I:¬(8:Int)<=L:=by omega
  rw[if_neg h8]at hr;subst hr;simp(maxSteps:=4000000) (disch:=first|exact zd|fail) [hLI,hq,hiI,hjI,hkI,h8I,hll,hn,-getElem?_pos]
theorem xor242 (r:UInt64):(K A).call 293 [.sc (.ptr 0 0)] [.box [.c (.int .u64 r.toNat)]]=some (.sc (.c (.int .u64 (Sort.xorNext r).toNat)),[.box [.c (.int .u64 (Sort.xorNext r).toNat)]]):=by
 refine fnO v293 ?_;have h1:∀x:UInt64,shlI .u64 x.toNat 13=((x <<< 13).toNat:Int):=fun x=>Zur x 13 (by omega) 13 rfl;have h2:∀x:UInt64,shrI .u64 x.toNat 7=((x >>> 7).toNat:Int):=fun x=>ZAk x 7 (by omega) 7 rfl;have h3:∀x:UInt64,shlI .u64 x.toNat 17=((x <<< 17).toNat:Int):=fun x=>Zur x 17 (by omega) 17 rfl;unfold v293 Sort.xorNext
 simp(maxSteps:=4000000) (disch:=first|exact zd|fail) [h1,h2,h3,Zy4,-UInt64.toNat_xor,-UInt64.toNat_shiftLeft,-UInt64.toNat_shiftRight]
theorem Zy1 {n:Nat}(h:n≠0):Sort.bitsLen n=Sort.bitsLen (n / 2)+1:=by
 unfold Sort.bitsLen;rw[if_neg h,Nat.log2_def];by_cases h2:n>=2
 .rw[if_pos h2,if_neg (by omega)]
 .rw[if_neg h2,if_pos (by omega)]
theorem Zcu:∀(k n:Nat),n / 2 ^ k≠0->Sort.bitsLen n=Sort.bitsLen (n / 2 ^ k)+k
 |0,n,_=>by simp
 |k+1,n,h=>by
  have h1:n / 2 ^ k / 2=n / 2 ^ (k+1):=by rw[Nat.div_div_eq_div_mul,qbc]
  have h2:n / 2 ^ k≠0:=fun h0=>h (by rw[<-h1,h0]);rw[Zcu k n h2,Zy1 h2,h1];omega
theorem bl_le {n:Nat}(h:1<=n):2 ^ Sort.bitsLen n<=2*n:=by
 unfold Sort.bitsLen;rw[if_neg (by omega),qbc];have:=Nat.log2_self_le (show n≠0 by omega);omega
theorem Zga {n k:Nat}(h:n<2 ^ k):Sort.bitsLen n<=k:=by
 unfold Sort.bitsLen;split
 .omega
 .rename_i h0
  have:=(Nat.log2_lt h0).2 h;omega
variable {A:Zab}
def isIntR (r:Option (V×List Obj)):Bool:=match r with
 |some (.sc (.c (.int .i64 _)),[])=>true
 |_=>false
def Zsb (s:Str)(r:Option (V×List Obj)):Bool:=match r with
 |some (.sc (.c (.str t)),[])=>decide (t=s)
 |_=>false
theorem ZtB {s:Str}{r:Option (V×List Obj)}(h:Zsb s r=true):r=some (strV s,[]):=by
 unfold Zsb at h;split at h
 .rw[of_decide_eq_true h]
 .cases h
theorem ZjS {f:Nat->Bool}{n:Nat}(h:(List.range n).all f=true){k:Nat}(hk:k<n):f k=true:=qy.1 h k (qay.2 hk)
theorem SortR.len {a b:Nat}{d e:List Nat}(h:SortR a b d e):e.length=d.length:=h.1.length_eq
def dig2 (k:Nat):Str:=if k<10 then [UInt8.ofNat (48+k)] else [UInt8.ofNat (48+k / 10),UInt8.ofNat (48+k % 10)]
theorem Zwm {k:Nat}(h:k<100):dig2 k=numS k:=by
 unfold dig2;split
 .rename_i h1
  rw[ZdJ h1]
 .rename_i h1
  rw[ZdO h1,ZdJ (by omega)];rfl
theorem fmt75 (k:Nat)(h:k<100):(K A).call 227 [u64V k,intV 10] []=some (strV (numS k),[]):=by
 have h1:(List.range 100).all (fun k=>Zsb (dig2 k) (Zca T2 (X2 A) gl0 10 227 [u64V k,intV 10] []))=true:=by kernel_rfl
 have h2:=ZtB (ZjS h1 h);rw[Zwm h]at h2;exact Zfp h2
variable {A:Zab}
theorem tab8 (T:List UInt8)(hT:(d256:List UInt8)=T):T.length=256/\∀i,i<256->T[i]?=some (UInt8.ofNat (Sort.bitsLen i)):=by
 subst hT;refine⟨by kernel_rfl,fun i hi=>?_⟩;have h:(List.range 256).all (fun i=>(d256:List UInt8)[i]?==some (UInt8.ofNat (Sort.bitsLen i)))=true:=by kernel_rfl
 exact eq_of_beq (ZjS h hi)
theorem bl8 {i:Nat}(h:i<256):((UInt8.ofNat (Sort.bitsLen i)).toNat:Int)=Sort.bitsLen i:=by
 have:=Zga (n:=i) (k:=8) h;rw[UInt8.toNat_ofNat',qR (by omega)]
theorem Zes (n k:Nat)(hk:k<64):shrI .u64 (n:Int) (k:Int)=((n / 2 ^ k:Nat):Int):=by
 unfold shrI;rw[qac,show min k IntKind.u64.bits=k from qbf (Nat.le_of_lt hk),Int.fdiv_eq_ediv_of_nonneg _ (Int.le_of_lt (Int.pow_pos (by decide)))];simp
theorem Zu6 (n:Nat)(h:n<2147483648):(K A).call 280 [u64V n] []=some (intV (Sort.bitsLen n),[]):=by
 refine fnO v280 ?_;unfold v280 G;obtain⟨T,hT⟩:∃T,d256=T:=⟨_,rfl⟩;obtain⟨t1,t2⟩:=tab8 T hT;unfold d256 at hT;rw[hT];clear hT;have w8:∀k:Nat,k<256->IntKind.u8.wrap (k:Int)=k:=fun k hk=>by
  unfold IntKind.wrap;simp[IntKind.bits,IntKind.signed];omega
 have h0:¬(4294967296:Int)<=n:=by omega
 by_cases h1:65536<=n
 .have h1I:(65536:Int)<=n:=by omega
  have s16:shrI .u64 (n:Int) 16=((n / 2 ^ 16:Nat):Int):=Zes n 16 (by omega);have hb:=Zcu 16 n (by omega);generalize hm:n / 2 ^ 16=m at *
  by_cases h2:256<=m
  .have h2I:(256:Int)<=m:=by omega
   have s8:shrI .u64 (m:Int) 8=((m / 2 ^ 8:Nat):Int):=Zes m 8 (by omega);have hb2:=Zcu 8 m (by omega);generalize hk:m / 2 ^ 8=k at *
   have hk2:k<256:=(by omega);have e1:=t2 k hk2;have e2:=bl8 hk2;have e3:=Zga (n:=k) (k:=8) hk2;rw[hb2]at hb;rw[hb];simp(maxSteps:=4000000) (disch:=first|exact zd|fail) [h0,h1I,h2I,s16,s8,t1,e1,e2,w8,-getElem?_pos];omega
  .have h2I:¬(256:Int)<=m:=by omega
   have hk2:m<256:=(by omega);have e1:=t2 m hk2;have e2:=bl8 hk2;have e3:=Zga (n:=m) (k:=8) hk2;rw[hb];simp(maxSteps:=4000000) (disch:=first|exact zd|fail) [h0,h1I,h2I,s16,t1,e1,e2,w8,-getElem?_pos];omega
 .have h1I:¬(65536:Int)<=n:=by omega
  by_cases h2:256<=n
  .have h2I:(256:Int)<=n:=by omega
   have s8:shrI .u64 (n:Int) 8=((n / 2 ^ 8:Nat):Int):=Zes n 8 (by omega);have hb2:=Zcu 8 n (by omega);generalize hk:n / 2 ^ 8=k at *
   have hk2:k<256:=(by omega);have e1:=t2 k hk2;have e2:=bl8 hk2;have e3:=Zga (n:=k) (k:=8) hk2;rw[hb2];simp(maxSteps:=4000000) (disch:=first|exact zd|fail) [h0,h1I,h2I,s8,t1,e1,e2,w8,-getElem?_pos];omega
  .have h2I:¬(256:Int)<=n:=by omega
   have hk2:n<256:=(by omega);have e1:=t2 n hk2;have e2:=bl8 hk2;have e3:=Zga (n:=n) (k:=8) hk2;simp(maxSteps:=4000000) (disch:=first|exact zd|fail) [h0,h1I,h2I,t1,e1,e2,w8,-getElem?_pos];omega
theorem ZuS (n:Nat)(h:n<2147483648):(K A).call 250 [u64V n] []=some (intV (Sort.bitsLen n),[]):=by
 have hc:=Zu6 (A:=A) n h;refine fnO v250 ?_;unfold v250;simp[hc]
theorem pow241 (n:Nat)(h:n<2147483648):(K A).call 292 [intV n] []=some (u64V (2 ^ Sort.bitsLen n),[]):=by
 have hc:=ZuS (A:=A) n h;have hb:=Zga (n:=n) (k:=31) h;have hw:IntKind.u64.wrap (n:Int)=n:=Za5 n (by omega);have hp:2 ^ Sort.bitsLen n<=2 ^ 31:=qal (by omega) hb;have hs:shlI .u64 1 (Sort.bitsLen n:Int)=((2 ^ Sort.bitsLen n:Nat):Int):=by
  unfold shlI;rw[qac,show min (Sort.bitsLen n) IntKind.u64.bits=Sort.bitsLen n from qbf (qx hb (by decide)),Int.one_mul];have:=Za5 (2 ^ Sort.bitsLen n) (by omega);simpa using this
 refine fnO v292 ?_;unfold v292;generalize Sort.bitsLen n=k at *
 simp(disch:=first|exact zd|fail) [hc,hw,hs]
theorem ZdL (a len md:Nat)(st:UInt64×Array Nat)(i:Nat):(Sort.breakStep a len md st i).2.size=st.2.size:=by simp[Sort.breakStep]
def stp (a len md idx:Nat):Nat->UInt64×Array Nat->UInt64×Array Nat
 |0,st=>st
 |k+1,st=>stp a len md idx k (Sort.breakStep a len md st (idx+(2-k)))
theorem breakA {e:Array Nat}{l:List Nat}(h:Is e l){n:Nat}(hn:e.size=n)(a b:Nat)(hab:a<=b)(hb:b<=n)(hl:n<=1073741824):
 (K A).call 272 [.sc (.arr 0 n),intV a,intV b] [arrU l]=some (retV,[arrU (Sort.breakPatterns e a b).toList]):=by
 generalize hR:Sort.breakPatterns e a b=R;unfold Sort.breakPatterns at hR;generalize hL:b-a=L at *
 have hLI:(b:Int)-a=L:=by omega
 have hll:=Za3 h;refine fnO v272 ?_;unfold v272;by_cases h8:L>=8
 .have h8I:(8:Int)<=L:=by omega
  simp only[h8,if_true]at hR;have hq:Int.tdiv (L:Int) 4=((L / 4:Nat):Int):=by
   rw[qv (by omega)];omega
  have hpow:=pow241 (A:=A) L (by omega);have hbl:=bl_le (n:=L) (by omega);rw[Nat.shiftLeft_eq,Nat.one_mul]at hR;have hM1:1<=2 ^ Sort.bitsLen L:=Nat.one_le_two_pow;generalize hM:2 ^ Sort.bitsLen L=M at *
  generalize hQ:L / 4=Q at *
  generalize hi:a+Q*2-1=i0 at *
  have hiI:(a:Int)+Q*2-1=i0:=by omega
  have hw:IntKind.u64.wrap (L:Int)=((UInt64.ofNat L).toNat:Int):=by
   rw[Za5 L (by omega),UInt64.toNat_ofNat_of_lt' (by show L<18446744073709551616;omega)]
  have hR3:(stp a L M i0 3 (UInt64.ofNat L,e)).2=R:=hR;generalize UInt64.ofNat L=x0 at *
  simp(maxSteps:=4000000) (disch:=first|exact zd|fail) [hLI,h8I,hq,hpow,hiI,hw];refine Zad (fun r s=>∃(x:UInt64) (e:Array Nat) (l:List Nat),Is e l/\e.size=n/\(stp a L M i0 (3-r) (x,e)).2=R/\
   s=⟨[(0,.sc (.arr 0 n)),(1,intV a),(6,intV L),(7,.sc (.ptr 576 0)),(8,u64V M),(9,intV ((i0+r:Nat):Int))],[(0,some (arrU l)),(576,some (.box [.c (.int .u64 x.toNat)]))]⟩) 3
   ⟨x0,e,l,h,hn,hR3,by simp⟩ ?_ ?_
  .rintro r s hr ⟨x,e,l,hel,he,hR,rfl⟩
   obtain⟨k,hk⟩:∃k,3-r=k+1:=⟨2-r,by omega⟩;rw[hk,stp,show 2-k=r by omega]at hR;have hx242:=xor242 (A:=A) x;unfold Sort.breakStep at hR;simp only at hR;generalize Sort.xorNext x=y at *
   have hylt:=y.toNat_lt;have hand:andI .u64 (y.toNat:Int) ((M:Int)-1)=((y.toNat &&& (M-1):Nat):Int):=by
    rw[show(M:Int)-1=((M-1:Nat):Int) by omega];exact ZzD _ _ hylt (by omega)
   have hot:y.toNat &&& (M-1)<2*L:=Nat.lt_of_le_of_lt Nat.and_le_right (by omega);generalize y.toNat &&& (M-1)=o0 at *
   have hir:(i0:Int)+r<=a+Q*2+1:=(by omega);generalize hj:i0+r=j at *
   have hjI:(i0:Int)+r=j:=(by omega);have hcond:(j:Int)<=a+Q*2+1:=(by omega);have hx:=Zbf hel (i:=j) (by omega);have hjl:j<l.length:=(by rw[Za3 hel];omega);have hll:=Za3 hel;by_cases ho:o0>=L
   .have hoI:(L:Int)<=o0:=by omega
    rw[if_pos ho]at hR;have hp:(a:Int)+((o0:Int)-L)=((a+(o0-L):Nat):Int):=(by omega);have hpo:(o0:Int)-L=((o0-L:Nat):Int):=(by omega);have hp2:(a:Int)+((o0-L:Nat):Int)=((a+(o0-L):Nat):Int):=(by omega);have hol:o0-L<L:=(by omega);generalize o0-L=o1 at *
    generalize hpp:a+o1=p at *
    have hy:=Zbf hel (i:=p) (by omega);have hpl:p<l.length:=(by omega);have hsw:=Ze2 hel j p;generalize e[j]! = u at *
    generalize e[p]! = v at *
    obtain⟨v2,hv2⟩:=Zaa (l:=l.set j v) (i:=p) (by simp;omega);unfold ZoN;simp(maxSteps:=4000000) (disch:=first|exact zd|fail) [hv2,hx242,hq,hand,hcond,hoI,ho,hp,hp2,hpo,hx,hy,hll,he,V.ren,-getElem?_pos];refine⟨y,_,_,hsw,by simp[he],?_,?_⟩
    .rw [show 2-r=k by omega]
     exact hR
    .simp
     omega
   .have hoI:¬(L:Int)<=o0:=by omega
    rw[if_neg ho]at hR;have hp2:(a:Int)+(o0:Int)=((a+o0:Nat):Int):=(by omega);generalize hpp:a+o0=p at *
    have hy:=Zbf hel (i:=p) (by omega);have hpl:p<l.length:=(by omega);have hsw:=Ze2 hel j p;generalize e[j]! = u at *
    generalize e[p]! = v at *
    obtain⟨v2,hv2⟩:=Zaa (l:=l.set j v) (i:=p) (by simp;omega);unfold ZoN;simp(maxSteps:=4000000) (disch:=first|exact zd|fail) [hv2,hx242,hq,hand,hcond,hoI,ho,hp2,hx,hy,hll,he,V.ren,-getElem?_pos];refine⟨y,_,_,hsw,by simp[he],?_,?_⟩
    .rw [show 2-r=k by omega]
     exact hR
    .simp
     omega
  .rintro s ⟨x,e,l,hel,he,hR,rfl⟩
   rw[qaS,stp]at hR;subst hR;have hcond:¬((i0+3:Nat):Int)<=a+Q*2+1:=(by omega);have hcond2:¬(i0:Int)+3<=a+Q*2+1:=(by omega);have hll:=Za3 hel;unfold ZoN;simp(maxSteps:=4000000) (disch:=first|exact zd|fail) [hcond,hcond2,hq,hll,he,retV,isEq hel,-getElem?_pos]
 .have h8I:¬(8:Int)<=L:=by omega
  simp only[h8,if_false]at hR;subst hR;simp(maxSteps:=4000000) (disch:=first|exact zd|fail) [hLI,h8I,hll,hn,retV,isEq h,-getElem?_pos]
variable {A:Zab}
theorem ZvF {p:Nat->Bool}{d:Array Nat}{i j:Nat}(h:i<=j)(hp:p d[i]! = true):Sort.scanUp p d j i=Sort.scanUp p d j (i+1):=by
 rw[Sort.scanUp];simp[h,hp]
theorem Zcv {p:Nat->Bool}{d:Array Nat}{i j:Nat}(h:¬(i<=j/\p d[i]! = true)):Sort.scanUp p d j i=i:=by
 rw[Sort.scanUp,if_neg (by simpa using h)]
theorem Ztq (p:Nat->Bool)(d:Array Nat)(j:Nat):∀(k i:Nat),j+1-i<=k->i<=Sort.scanUp p d j i
 |0,i,h=>by rw[Zcv (by omega)];exact qg _
 |k+1,i,h=>by
  by_cases hc:i<=j/\p d[i]! = true
  .rw [ZvF hc.1 hc.2]
   have:=Ztq p d j k (i+1) (by omega);omega
  .rw [Zcv hc]
   exact qg _
theorem ZvU (p:Nat->Bool)(d:Array Nat)(j:Nat):∀(k i:Nat),j+1-i<=k->i<=j+1->Sort.scanUp p d j i<=j+1
 |0,i,h,h2=>by rw[Zcv (by omega)];exact h2
 |k+1,i,h,h2=>by
  by_cases hc:i<=j/\p d[i]! = true
  .rw [ZvF hc.1 hc.2]
   exact ZvU p d j k (i+1) (by omega) (by omega)
  .rw [Zcv hc]
   exact h2
theorem Zoa {p:Nat->Bool}{d:Array Nat}{i j:Nat}(h1:1<=j)(h:i<=j)(hp:p d[j]! = true):Sort.scanDown p d i j=Sort.scanDown p d i (j-1):=by
 obtain⟨k,rfl⟩:∃k,j=k+1:=⟨j-1,by omega⟩;rw[Sort.scanDown];simp[h,hp]
theorem Zd4 {p:Nat->Bool}{d:Array Nat}{i j:Nat}(h:¬(i<=j/\p d[j]! = true)):Sort.scanDown p d i j=j:=by
 cases j with
 |zero=>rfl
 |succ k=>rw[Sort.scanDown,if_neg (by simpa using h)]
theorem ZgP (p:Nat->Bool)(d:Array Nat)(i:Nat):∀j,Sort.scanDown p d i j<=j
 |0=>qg _
 |j+1=>by
  rw[Sort.scanDown];split
  .have:=ZgP p d i j
   omega
  .exact qg _
theorem Zsc {e:Array Nat}{l:List Nat}(h:Is e l){n:Nat}(hn:e.size=n)(a i j:Nat)(ha:a<n)(hj:j<n)(hl:n<=1073741824)(hi:i<=n+2):
 wp (K A) (.loop Zhy) (fun x s'=>x=.exit 0/\s'=⟨[(0,.sc (.arr 0 n)),(1,intV a),(10,intV ((Sort.scanUp (fun x=>ltN x e[a]!) e j i:Nat):Int)),(11,intV j),(43,Zaf false)],[(0,some (arrU l))]⟩) ⟨[(0,.sc (.arr 0 n)),(1,intV a),(10,intV i),(11,intV j)],[(0,some (arrU l))]⟩:=by
 generalize hp:(fun x=>ltN x e[a]!)=p;have hpe:∀x,p x=ltN x e[a]! := fun x=>by rw[<-hp]
 clear hp;refine Zad (fun r s=>∃i':Nat,Sort.scanUp p e j i'=Sort.scanUp p e j i/\i'=i+r/\s=⟨[(0,.sc (.arr 0 n)),(1,intV a),(10,intV i'),(11,intV j)],[(0,some (arrU l))]⟩) (j+1-i) ⟨i,rfl,rfl,rfl⟩ ?_ ?_
 .rintro r s hr ⟨i',hs,hi',rfl⟩
  have hij:i'<=j:=by omega
  have hy:=Zbf h (i:=a) (by omega);have hz:=Zbf h (i:=i') (by omega);have hll:=Za3 h;have hpz:=hpe e[i']!;rw[Zhj]at hpz;have hstop:=Zcv (p:=p) (d:=e) (i:=i') (j:=j);have hgo:=ZvF (p:=p) (d:=e) (i:=i') (j:=j) hij;generalize e[a]! = y at *
  generalize e[i']! = z at *
  have hless:=Zb9 (A:=A) z y;have hal:a<l.length:=by omega
  have hil:i'<l.length:=by omega
  unfold Zhy;by_cases hlt:z<y
  .have hpf:p z=true:=by rw [hpz];simp [hlt]
   rw[hgo hpf]at hs;simp(maxSteps:=4000000) (disch:=first|exact zd|fail) [hij,hy,hz,hll,hn,hless,hlt,<-hs,-getElem?_pos];exact⟨i'+1,rfl,by omega,by omega⟩
  .have hpf:¬(i'<=j/\p z=true):=by rw [hpz];simp [hlt]
   rw[hstop hpf]at hs;simp(maxSteps:=4000000) (disch:=first|exact zd|fail) [hij,hy,hz,hll,hn,hless,hlt,<-hs,-getElem?_pos]
 .rintro s ⟨i',hs,hi',rfl⟩
  have hij:¬i'<=j:=by omega
  have hijI:¬(i':Int)<=j:=by omega
  rw[Zcv (by omega)]at hs;unfold Zhy;simp(maxSteps:=4000000) (disch:=first|exact zd|fail) [hij,hijI,<-hs,-getElem?_pos]
theorem ZtW {e:Array Nat}{l:List Nat}(h:Is e l){n:Nat}(hn:e.size=n)(a i j:Nat)(ha:a<n)(hj:j<n)(hl:n<=1073741824)(hi:1<=i)(hi2:i<=n+2){xs:Env}(hx:xs=[]\/xs=[(43,Zaf false)]):
 wp (K A) (.loop Zh0) (fun x s'=>x=.exit 2/\s'=⟨[(0,.sc (.arr 0 n)),(1,intV a),(10,intV i),(11,intV ((Sort.scanDown (fun x=>!ltN x e[a]!) e i j:Nat):Int)),(60,Zaf false)],[(0,some (arrU l))]⟩) ⟨(0,.sc (.arr 0 n))::(1,intV a)::(10,intV i)::(11,intV j)::xs,[(0,some (arrU l))]⟩:=by
 generalize hp:(fun x=>!ltN x e[a]!)=p;have hpe:∀x,p x=!ltN x e[a]! := fun x=>by rw[<-hp]
 clear hp;refine Zad (fun r s=>∃(j':Nat) (xs:Env),(xs=[]\/xs=[(43,Zaf false)])/\Sort.scanDown p e i j'=Sort.scanDown p e i j/\j'+r=j/\s=⟨(0,.sc (.arr 0 n))::(1,intV a)::(10,intV i)::(11,intV j')::xs,[(0,some (arrU l))]⟩) (j+1-i) ⟨j,xs,hx,rfl,rfl,rfl⟩ ?_ ?_
 .clear hx
  rintro r s hr ⟨j',xs,hx,hs,hj',rfl⟩;have hij:i<=j':=by omega
  have hy:=Zbf h (i:=a) (by omega);have hz:=Zbf h (i:=j') (by omega);have hll:=Za3 h;have hpz:=hpe e[j']!;rw[Zhj]at hpz;have hstop:=Zd4 (p:=p) (d:=e) (i:=i) (j:=j');have hgo:=Zoa (p:=p) (d:=e) (i:=i) (j:=j') (by omega) hij;generalize e[a]! = y at *
  generalize e[j']! = z at *
  have hless:=Zb9 (A:=A) z y;have hal:a<l.length:=by omega
  have hjl:j'<l.length:=by omega
  have hj1:(j':Int)-1=((j'-1:Nat):Int):=by omega
  unfold Zh0;by_cases hlt:z<y
  .have hpf:¬(i<=j'/\p z=true):=by rw [hpz];simp [hlt]
   rw[hstop hpf]at hs;rcases hx with rfl|rfl<;>simp(maxSteps:=4000000) (disch:=first|exact zd|fail) [hij,hy,hz,hj1,hll,hn,hless,hlt,<-hs,-getElem?_pos]
  .have hpf:p z=true:=by rw [hpz];simp [hlt]
   rw[hgo hpf]at hs;have fin:∃j'' xs,(xs=[]\/xs=[(43,Zaf false)])/\Sort.scanDown p e i j''=Sort.scanDown p e i j/\j''+(r+1)=j/\(⟨[(0,.sc (.arr 0 n)),(1,intV a),(10,intV i),(11,intV ((j'-1:Nat):Int))],[(0,some (arrU l))]⟩:St)=⟨(0,.sc (.arr 0 n))::(1,intV a)::(10,intV i)::(11,intV j'')::xs,[(0,some (arrU l))]⟩:=
    ⟨j'-1,[],.inl rfl,hs,by omega,rfl⟩
   rcases hx with rfl|rfl<;>(simp(maxSteps:=4000000) (disch:=first|exact zd|fail) [hij,hy,hz,hj1,hll,hn,hless,hlt,-getElem?_pos];simpa using fin)
 .clear hx
  rintro s ⟨j',xs,hx,hs,hj',rfl⟩;have hij:¬i<=j':=by omega
  have hijI:¬(i:Int)<=j':=by omega
  rw[Zd4 (by omega)]at hs;unfold Zh0;rcases hx with rfl|rfl<;>simp(maxSteps:=4000000) (disch:=first|exact zd|fail) [hij,hijI,<-hs,-getElem?_pos]
theorem Zs6 {e:Array Nat}{l:List Nat}(h:Is e l){n:Nat}(hn:e.size=n)(a i j:Nat)(ha:a<n)(hj:j<n)(hl:n<=1073741824)(hi:i<=n+2):
 wp (K A) (.loop Zj5) (fun x s'=>x=.exit 6/\s'=⟨[(0,.sc (.arr 0 n)),(1,intV a),(10,intV ((Sort.scanUp (fun x=>ltN x e[a]!) e j i:Nat):Int)),(11,intV j),(112,Zaf false)],[(0,some (arrU l))]⟩) ⟨[(0,.sc (.arr 0 n)),(1,intV a),(10,intV i),(11,intV j)],[(0,some (arrU l))]⟩:=by
 generalize hp:(fun x=>ltN x e[a]!)=p;have hpe:∀x,p x=ltN x e[a]! := fun x=>by rw[<-hp]
 clear hp;refine Zad (fun r s=>∃i':Nat,Sort.scanUp p e j i'=Sort.scanUp p e j i/\i'=i+r/\s=⟨[(0,.sc (.arr 0 n)),(1,intV a),(10,intV i'),(11,intV j)],[(0,some (arrU l))]⟩) (j+1-i) ⟨i,rfl,rfl,rfl⟩ ?_ ?_
 .rintro r s hr ⟨i',hs,hi',rfl⟩
  have hij:i'<=j:=by omega
  have hy:=Zbf h (i:=a) (by omega);have hz:=Zbf h (i:=i') (by omega);have hll:=Za3 h;have hpz:=hpe e[i']!;rw[Zhj]at hpz;have hstop:=Zcv (p:=p) (d:=e) (i:=i') (j:=j);have hgo:=ZvF (p:=p) (d:=e) (i:=i') (j:=j) hij;generalize e[a]! = y at *
  generalize e[i']! = z at *
  have hless:=Zb9 (A:=A) z y;have hal:a<l.length:=by omega
  have hil:i'<l.length:=by omega
  unfold Zj5;by_cases hlt:z<y
  .have hpf:p z=true:=by rw [hpz];simp [hlt]
   rw[hgo hpf]at hs;simp(maxSteps:=4000000) (disch:=first|exact zd|fail) [hij,hy,hz,hll,hn,hless,hlt,<-hs,-getElem?_pos];exact⟨i'+1,rfl,by omega,by omega⟩
  .have hpf:¬(i'<=j/\p z=true):=by rw [hpz];simp [hlt]
   rw[hstop hpf]at hs;simp(maxSteps:=4000000) (disch:=first|exact zd|fail) [hij,hy,hz,hll,hn,hless,hlt,<-hs,-getElem?_pos]
 .rintro s ⟨i',hs,hi',rfl⟩
  have hij:¬i'<=j:=by omega
  have hijI:¬(i':Int)<=j:=by omega
  rw[Zcv (by omega)]at hs;unfold Zj5;simp(maxSteps:=4000000) (disch:=first|exact zd|fail) [hij,hijI,<-hs,-getElem?_pos]
theorem Zuo {e:Array Nat}{l:List Nat}(h:Is e l){n:Nat}(hn:e.size=n)(a i j:Nat)(ha:a<n)(hj:j<n)(hl:n<=1073741824)(hi:1<=i)(hi2:i<=n+2){xs:Env}(hx:xs=[]\/xs=[(112,Zaf false)]):
 wp (K A) (.loop ZmP) (fun x s'=>x=.exit 8/\s'=⟨[(0,.sc (.arr 0 n)),(1,intV a),(10,intV i),(11,intV ((Sort.scanDown (fun x=>!ltN x e[a]!) e i j:Nat):Int)),(129,Zaf false)],[(0,some (arrU l))]⟩) ⟨(0,.sc (.arr 0 n))::(1,intV a)::(10,intV i)::(11,intV j)::xs,[(0,some (arrU l))]⟩:=by
 generalize hp:(fun x=>!ltN x e[a]!)=p;have hpe:∀x,p x=!ltN x e[a]! := fun x=>by rw[<-hp]
 clear hp;refine Zad (fun r s=>∃(j':Nat) (xs:Env),(xs=[]\/xs=[(112,Zaf false)])/\Sort.scanDown p e i j'=Sort.scanDown p e i j/\j'+r=j/\s=⟨(0,.sc (.arr 0 n))::(1,intV a)::(10,intV i)::(11,intV j')::xs,[(0,some (arrU l))]⟩) (j+1-i) ⟨j,xs,hx,rfl,rfl,rfl⟩ ?_ ?_
 .clear hx
  rintro r s hr ⟨j',xs,hx,hs,hj',rfl⟩;have hij:i<=j':=by omega
  have hy:=Zbf h (i:=a) (by omega);have hz:=Zbf h (i:=j') (by omega);have hll:=Za3 h;have hpz:=hpe e[j']!;rw[Zhj]at hpz;have hstop:=Zd4 (p:=p) (d:=e) (i:=i) (j:=j');have hgo:=Zoa (p:=p) (d:=e) (i:=i) (j:=j') (by omega) hij;generalize e[a]! = y at *
  generalize e[j']! = z at *
  have hless:=Zb9 (A:=A) z y;have hal:a<l.length:=by omega
  have hjl:j'<l.length:=by omega
  have hj1:(j':Int)-1=((j'-1:Nat):Int):=by omega
  unfold ZmP;by_cases hlt:z<y
  .have hpf:¬(i<=j'/\p z=true):=by rw [hpz];simp [hlt]
   rw[hstop hpf]at hs;rcases hx with rfl|rfl<;>simp(maxSteps:=4000000) (disch:=first|exact zd|fail) [hij,hy,hz,hj1,hll,hn,hless,hlt,<-hs,-getElem?_pos]
  .have hpf:p z=true:=by rw [hpz];simp [hlt]
   rw[hgo hpf]at hs;have fin:∃j'' xs,(xs=[]\/xs=[(112,Zaf false)])/\Sort.scanDown p e i j''=Sort.scanDown p e i j/\j''+(r+1)=j/\(⟨[(0,.sc (.arr 0 n)),(1,intV a),(10,intV i),(11,intV ((j'-1:Nat):Int))],[(0,some (arrU l))]⟩:St)=⟨(0,.sc (.arr 0 n))::(1,intV a)::(10,intV i)::(11,intV j'')::xs,[(0,some (arrU l))]⟩:=
    ⟨j'-1,[],.inl rfl,hs,by omega,rfl⟩
   rcases hx with rfl|rfl<;>(simp(maxSteps:=4000000) (disch:=first|exact zd|fail) [hij,hy,hz,hj1,hll,hn,hless,hlt,-getElem?_pos];simpa using fin)
 .clear hx
  rintro s ⟨j',xs,hx,hs,hj',rfl⟩;have hij:¬i<=j':=by omega
  have hijI:¬(i:Int)<=j':=by omega
  rw[Zd4 (by omega)]at hs;unfold ZmP;rcases hx with rfl|rfl<;>simp(maxSteps:=4000000) (disch:=first|exact zd|fail) [hij,hijI,<-hs,-getElem?_pos]
theorem ZvK {e:Array Nat}{l:List Nat}(h:Is e l){n:Nat}(hn:e.size=n)(a i j:Nat)(ha:a<n)(hj:j<n)(hl:n<=1073741824)(hi:i<=n+2):
 wp (K A) (.loop ZjK) (fun x s'=>x=.exit 2/\s'=⟨[(0,.sc (.arr 0 n)),(1,intV a),(9,intV ((Sort.scanUp (fun x=>!ltN e[a]! x) e j i:Nat):Int)),(10,intV j),(43,Zaf false)],[(0,some (arrU l))]⟩) ⟨[(0,.sc (.arr 0 n)),(1,intV a),(9,intV i),(10,intV j)],[(0,some (arrU l))]⟩:=by
 generalize hp:(fun x=>!ltN e[a]! x)=p;have hpe:∀x,p x=!ltN e[a]! x:=fun x=>by rw[<-hp]
 clear hp;refine Zad (fun r s=>∃i':Nat,Sort.scanUp p e j i'=Sort.scanUp p e j i/\i'=i+r/\s=⟨[(0,.sc (.arr 0 n)),(1,intV a),(9,intV i'),(10,intV j)],[(0,some (arrU l))]⟩) (j+1-i) ⟨i,rfl,rfl,rfl⟩ ?_ ?_
 .rintro r s hr ⟨i',hs,hi',rfl⟩
  have hij:i'<=j:=by omega
  have hy:=Zbf h (i:=a) (by omega);have hz:=Zbf h (i:=i') (by omega);have hll:=Za3 h;have hpz:=hpe e[i']!;rw[Zhj]at hpz;have hstop:=Zcv (p:=p) (d:=e) (i:=i') (j:=j);have hgo:=ZvF (p:=p) (d:=e) (i:=i') (j:=j) hij;generalize e[a]! = y at *
  generalize e[i']! = z at *
  have hless:=Zb9 (A:=A) y z;have hal:a<l.length:=by omega
  have hil:i'<l.length:=by omega
  unfold ZjK;by_cases hlt:y<z
  .have hpf:¬(i'<=j/\p z=true):=by rw [hpz];simp [hlt]
   rw[hstop hpf]at hs;simp(maxSteps:=4000000) (disch:=first|exact zd|fail) [hij,hy,hz,hll,hn,hless,hlt,<-hs,-getElem?_pos]
  .have hpf:p z=true:=by rw [hpz];simp [hlt]
   rw[hgo hpf]at hs;simp(maxSteps:=4000000) (disch:=first|exact zd|fail) [hij,hy,hz,hll,hn,hless,hlt,<-hs,-getElem?_pos];exact⟨i'+1,rfl,by omega,by omega⟩
 .rintro s ⟨i',hs,hi',rfl⟩
  have hij:¬i'<=j:=by omega
  have hijI:¬(i':Int)<=j:=by omega
  rw[Zcv (by omega)]at hs;unfold ZjK;simp(maxSteps:=4000000) (disch:=first|exact zd|fail) [hij,hijI,<-hs,-getElem?_pos]
theorem Zss {e:Array Nat}{l:List Nat}(h:Is e l){n:Nat}(hn:e.size=n)(a i j:Nat)(ha:a<n)(hj:j<n)(hl:n<=1073741824)(hi:1<=i)(hi2:i<=n+2){xs:Env}(hx:xs=[]\/xs=[(43,Zaf false)]):
 wp (K A) (.loop ZmQ) (fun x s'=>x=.exit 4/\s'=⟨[(0,.sc (.arr 0 n)),(1,intV a),(9,intV i),(10,intV ((Sort.scanDown (fun x=>ltN e[a]! x) e i j:Nat):Int)),(59,Zaf false)],[(0,some (arrU l))]⟩) ⟨(0,.sc (.arr 0 n))::(1,intV a)::(9,intV i)::(10,intV j)::xs,[(0,some (arrU l))]⟩:=by
 generalize hp:(fun x=>ltN e[a]! x)=p;have hpe:∀x,p x=ltN e[a]! x:=fun x=>by rw[<-hp]
 clear hp;refine Zad (fun r s=>∃(j':Nat) (xs:Env),(xs=[]\/xs=[(43,Zaf false)])/\Sort.scanDown p e i j'=Sort.scanDown p e i j/\j'+r=j/\s=⟨(0,.sc (.arr 0 n))::(1,intV a)::(9,intV i)::(10,intV j')::xs,[(0,some (arrU l))]⟩) (j+1-i) ⟨j,xs,hx,rfl,rfl,rfl⟩ ?_ ?_
 .clear hx
  rintro r s hr ⟨j',xs,hx,hs,hj',rfl⟩;have hij:i<=j':=by omega
  have hy:=Zbf h (i:=a) (by omega);have hz:=Zbf h (i:=j') (by omega);have hll:=Za3 h;have hpz:=hpe e[j']!;rw[Zhj]at hpz;have hstop:=Zd4 (p:=p) (d:=e) (i:=i) (j:=j');have hgo:=Zoa (p:=p) (d:=e) (i:=i) (j:=j') (by omega) hij;generalize e[a]! = y at *
  generalize e[j']! = z at *
  have hless:=Zb9 (A:=A) y z;have hal:a<l.length:=by omega
  have hjl:j'<l.length:=by omega
  have hj1:(j':Int)-1=((j'-1:Nat):Int):=by omega
  unfold ZmQ;by_cases hlt:y<z
  .have hpf:p z=true:=by rw [hpz];simp [hlt]
   rw[hgo hpf]at hs;have fin:∃j'' xs,(xs=[]\/xs=[(43,Zaf false)])/\Sort.scanDown p e i j''=Sort.scanDown p e i j/\j''+(r+1)=j/\(⟨[(0,.sc (.arr 0 n)),(1,intV a),(9,intV i),(10,intV ((j'-1:Nat):Int))],[(0,some (arrU l))]⟩:St)=⟨(0,.sc (.arr 0 n))::(1,intV a)::(9,intV i)::(10,intV j'')::xs,[(0,some (arrU l))]⟩:=
    ⟨j'-1,[],.inl rfl,hs,by omega,rfl⟩
   rcases hx with rfl|rfl<;>(simp(maxSteps:=4000000) (disch:=first|exact zd|fail) [hij,hy,hz,hj1,hll,hn,hless,hlt,-getElem?_pos];simpa using fin)
  .have hpf:¬(i<=j'/\p z=true):=by rw [hpz];simp [hlt]
   rw[hstop hpf]at hs;rcases hx with rfl|rfl<;>simp(maxSteps:=4000000) (disch:=first|exact zd|fail) [hij,hy,hz,hj1,hll,hn,hless,hlt,<-hs,-getElem?_pos]
 .clear hx
  rintro s ⟨j',xs,hx,hs,hj',rfl⟩;have hij:¬i<=j':=by omega
  have hijI:¬(i:Int)<=j':=by omega
  rw[Zd4 (by omega)]at hs;unfold ZmQ;rcases hx with rfl|rfl<;>simp(maxSteps:=4000000) (disch:=first|exact zd|fail) [hij,hijI,<-hs,-getElem?_pos]
variable {A:Zab}
theorem Zod (a i j:Nat)(d:Array Nat):Sort.partLoop ltN a i j d=
 if Sort.scanUp (fun x=>ltN x d[a]!) d j i>Sort.scanDown (fun x=>!ltN x d[a]!) d (Sort.scanUp (fun x=>ltN x d[a]!) d j i) j then (Sort.scanDown (fun x=>!ltN x d[a]!) d (Sort.scanUp (fun x=>ltN x d[a]!) d j i) j,d)
 else if Sort.scanDown (fun x=>!ltN x d[a]!) d (Sort.scanUp (fun x=>ltN x d[a]!) d j i) j-1+1-(Sort.scanUp (fun x=>ltN x d[a]!) d j i+1)<j+1-i then
  Sort.partLoop ltN a (Sort.scanUp (fun x=>ltN x d[a]!) d j i+1) (Sort.scanDown (fun x=>!ltN x d[a]!) d (Sort.scanUp (fun x=>ltN x d[a]!) d j i) j-1) (Sort.swp d (Sort.scanUp (fun x=>ltN x d[a]!) d j i) (Sort.scanDown (fun x=>!ltN x d[a]!) d (Sort.scanUp (fun x=>ltN x d[a]!) d j i) j))
 else (Sort.scanDown (fun x=>!ltN x d[a]!) d (Sort.scanUp (fun x=>ltN x d[a]!) d j i) j,d):=by
 rw[Sort.partLoop];simp only[dite_eq_ite]
theorem Zo6 {e:Array Nat}{l:List Nat}(h:Is e l){n:Nat}(hn:e.size=n)(a i j:Nat)(ha:a<n)(hj:j<n)(hl:n<=1073741824)(hi:1<=i)(hi2:i<=j+2):
 wp (K A) ZoR (fun x s'=>
  (x=.normal/\∃(i' j':Nat) (e':Array Nat) (l':List Nat),Is e' l'/\e'.size=n/\Sort.partLoop ltN a i' j' e'=Sort.partLoop ltN a i j e/\i<i'/\i'<=j+1/\i'<=j'+2/\j'<=j/\s'=⟨[(0,.sc (.arr 0 n)),(1,intV a),(10,intV i'),(11,intV j')],[(0,some (arrU l'))]⟩)\/
  (x=.exit 4/\∃(i' j':Nat),Sort.partLoop ltN a i j e=(j',e)/\j'<=j/\i'<=j+2/\s'=⟨[(0,.sc (.arr 0 n)),(1,intV a),(10,intV i'),(11,intV j'),(134,Zaf true)],[(0,some (arrU l))]⟩)) ⟨[(0,.sc (.arr 0 n)),(1,intV a),(10,intV i),(11,intV j)],[(0,some (arrU l))]⟩:=by
 have hR:=Zod a i j e;unfold ZoR;simp only[wp_block,wp_seq];refine ZaW (Zs6 (A:=A) h hn a i j ha hj hl (by omega)) ?_;rintro _ _ ⟨rfl,rfl⟩;have g1:=Ztq (fun x=>ltN x e[a]!) e j _ i (qg _);have g2:i<=j+1->Sort.scanUp (fun x=>ltN x e[a]!) e j i<=j+1:=ZvU (fun x=>ltN x e[a]!) e j _ i (qg _);have g3:¬i<=j+1->Sort.scanUp (fun x=>ltN x e[a]!) e j i=i:=fun hc=>Zcv (by omega)
 generalize Sort.scanUp (fun x=>ltN x e[a]!) e j i=i2 at *
 simp only[blockQ_exit,beq_self_eq_true,cond_true,thenQ_normal,wp_block,wp_seq];refine ZaW (Zuo (A:=A) (xs:=[(112,Zaf false)]) h hn a i2 j ha hj hl (by omega) (by omega) (.inr rfl)) ?_;rintro _ _ ⟨rfl,rfl⟩;have g4:=ZgP (fun x=>!ltN x e[a]!) e i2 j;generalize Sort.scanDown (fun x=>!ltN x e[a]!) e i2 j=j2 at *
 simp only[blockQ_exit,beq_self_eq_true,cond_true,thenQ_normal,wp_block,wp_seq];by_cases hc:i2>j2
 .have hcI:((j2:Int)<(i2:Int)):=by omega
  rw[if_pos hc]at hR;rw[hR];have fin:∃(i' j':Nat),((j2,e):Nat×Array Nat)=(j',e)/\j'<=j/\i'<=j+2/\(⟨[(0,.sc (.arr 0 n)),(1,intV a),(10,intV i2),(11,intV j2),(134,Zaf true)],[(0,some (arrU l))]⟩:St)=⟨[(0,.sc (.arr 0 n)),(1,intV a),(10,intV i'),(11,intV j'),(134,Zaf true)],[(0,some (arrU l))]⟩:=
   ⟨i2,j2,rfl,by omega,by omega,rfl⟩
  simp(maxSteps:=4000000) (disch:=first|exact zd|fail) [hc,hcI,-getElem?_pos];simpa using fin
 .have hcN:¬j2<i2:=by omega
  have hcI:¬((j2:Int)<(i2:Int)):=by omega
  rw[if_neg hc,if_pos (by omega)]at hR;rw[hR];have hx:=Zbf h (i:=i2) (by omega);have hy:=Zbf h (i:=j2) (by omega);have hsw:=Ze2 h i2 j2;have hll:=Za3 h;have hil:i2<l.length:=by omega
  have hjl:j2<l.length:=by omega
  have hj1:(j2:Int)-1=((j2-1:Nat):Int):=by omega
  generalize e[i2]! = u at *
  generalize e[j2]! = v at *
  obtain⟨v2,hv2⟩:=Zaa (l:=l.set i2 v) (i:=j2) (by simp;omega)
  have fin:∃(i' j':Nat) (e':Array Nat) (l':List Nat),Is e' l'/\e'.size=n/\Sort.partLoop ltN a i' j' e'=Sort.partLoop ltN a (i2+1) (j2-1) (Sort.swp e i2 j2)/\i<i'/\i'<=j+1/\i'<=j'+2/\j'<=j/\(⟨[(0,.sc (.arr 0 n)),(1,intV a),(10,intV ((i2:Int)+1)),(11,intV ((j2-1:Nat):Int))],[(0,some (arrU ((l.set i2 v).set j2 u)))]⟩:St)=⟨[(0,.sc (.arr 0 n)),(1,intV a),(10,intV i'),(11,intV j')],[(0,some (arrU l'))]⟩:=
   ⟨i2+1,j2-1,_,_,hsw,by simp[hn],rfl,by omega,by omega,by omega,by omega,by simp⟩
  simp(maxSteps:=4000000) (disch:=first|exact zd|fail) [hcN,hcI,hx,hy,hv2,hj1,hll,hn,-getElem?_pos];simpa using fin
theorem Zv7 {e:Array Nat}{l:List Nat}(h:Is e l){n:Nat}(hn:e.size=n)(a i j:Nat)(ha:a<n)(hj:j<n)(hl:n<=1073741824)(hi:1<=i)(hi2:i<=j+2):
 wp (K A) (.loop ZoR) (fun x s'=>x=.exit 4/\∃(i' j':Nat) (e':Array Nat) (l':List Nat),Is e' l'/\e'.size=n/\Sort.partLoop ltN a i j e=(j',e')/\j'<n/\i'<=n+2/\s'=⟨[(0,.sc (.arr 0 n)),(1,intV a),(10,intV i'),(11,intV j'),(134,Zaf true)],[(0,some (arrU l'))]⟩) ⟨[(0,.sc (.arr 0 n)),(1,intV a),(10,intV i),(11,intV j)],[(0,some (arrU l))]⟩:=by
 refine Zad (fun r s=>∃(i' j':Nat) (e':Array Nat) (l':List Nat),Is e' l'/\e'.size=n/\Sort.partLoop ltN a i' j' e'=Sort.partLoop ltN a i j e/\i+r<=i'/\i'<=j'+2/\j'<=j/\s=⟨[(0,.sc (.arr 0 n)),(1,intV a),(10,intV i'),(11,intV j')],[(0,some (arrU l'))]⟩) (j+1) ⟨i,j,e,l,h,hn,rfl,qg _,hi2,qg _,rfl⟩ ?_ ?_
 .rintro r s hr ⟨i',j',e',l',h',hn',hR,h1,h2,h3,rfl⟩
  refine ZaW (Zo6 (A:=A) h' hn' a i' j' ha (by omega) hl (by omega) h2) ?_;rintro x s (⟨rfl,i2,j2,e2,l2,k1,k2,k3,k4,k5,k6,k7,rfl⟩|⟨rfl,i2,j2,k1,k2,k3,rfl⟩)
  .exact .inl ⟨rfl,i2,j2,e2,l2,k1,k2,k3.trans hR,by omega,k6,by omega,rfl⟩
  .exact .inr ⟨by simp,rfl,i2,j2,e',l',h',hn',by rw[<-hR,k1],by omega,by omega,rfl⟩
 .rintro s ⟨i',j',e',l',h',hn',hR,h1,h2,h3,rfl⟩
  refine ZaW (Zo6 (A:=A) h' hn' a i' j' ha (by omega) hl (by omega) h2) ?_;rintro x s (⟨rfl,i2,j2,e2,l2,k1,k2,k3,k4,k5,k6,k7,rfl⟩|⟨rfl,i2,j2,k1,k2,k3,rfl⟩)
  .exfalso
   omega
  .exact⟨by simp,rfl,i2,j2,e',l',h',hn',by rw[<-hR,k1],by omega,by omega,rfl⟩
theorem Zex (a i j:Nat)(d:Array Nat):Sort.partEqLoop ltN a i j d=
 if Sort.scanUp (fun x=>!ltN d[a]! x) d j i>Sort.scanDown (fun x=>ltN d[a]! x) d (Sort.scanUp (fun x=>!ltN d[a]! x) d j i) j then (Sort.scanUp (fun x=>!ltN d[a]! x) d j i,d)
 else if Sort.scanDown (fun x=>ltN d[a]! x) d (Sort.scanUp (fun x=>!ltN d[a]! x) d j i) j-1+1-(Sort.scanUp (fun x=>!ltN d[a]! x) d j i+1)<j+1-i then
  Sort.partEqLoop ltN a (Sort.scanUp (fun x=>!ltN d[a]! x) d j i+1) (Sort.scanDown (fun x=>ltN d[a]! x) d (Sort.scanUp (fun x=>!ltN d[a]! x) d j i) j-1) (Sort.swp d (Sort.scanUp (fun x=>!ltN d[a]! x) d j i) (Sort.scanDown (fun x=>ltN d[a]! x) d (Sort.scanUp (fun x=>!ltN d[a]! x) d j i) j))
 else (Sort.scanUp (fun x=>!ltN d[a]! x) d j i,d):=by
 rw[Sort.partEqLoop];simp only[dite_eq_ite]
theorem Zp9 {e:Array Nat}{l:List Nat}(h:Is e l){n:Nat}(hn:e.size=n)(a i j:Nat)(ha:a<n)(hj:j<n)(hl:n<=1073741824)(hi:1<=i)(hi2:i<=j+2):
 wp (K A) Zpm (fun x s'=>
  (x=.normal/\∃(i' j':Nat) (e':Array Nat) (l':List Nat),Is e' l'/\e'.size=n/\Sort.partEqLoop ltN a i' j' e'=Sort.partEqLoop ltN a i j e/\i<i'/\i'<=j+1/\i'<=j'+2/\j'<=j/\s'=⟨[(0,.sc (.arr 0 n)),(1,intV a),(9,intV i'),(10,intV j')],[(0,some (arrU l'))]⟩)\/
  (x=.exit 0/\∃(i' j':Nat),Sort.partEqLoop ltN a i j e=(i',e)/\j'<=j/\i'<=j+2/\s'=⟨[(0,.sc (.arr 0 n)),(1,intV a),(9,intV i'),(10,intV j'),(64,Zaf true)],[(0,some (arrU l))]⟩)) ⟨[(0,.sc (.arr 0 n)),(1,intV a),(9,intV i),(10,intV j)],[(0,some (arrU l))]⟩:=by
 have hR:=Zex a i j e;unfold Zpm;simp only[wp_block,wp_seq];refine ZaW (ZvK (A:=A) h hn a i j ha hj hl (by omega)) ?_;rintro _ _ ⟨rfl,rfl⟩;have g1:=Ztq (fun x=>!ltN e[a]! x) e j _ i (qg _);have g2:i<=j+1->Sort.scanUp (fun x=>!ltN e[a]! x) e j i<=j+1:=ZvU (fun x=>!ltN e[a]! x) e j _ i (qg _);have g3:¬i<=j+1->Sort.scanUp (fun x=>!ltN e[a]! x) e j i=i:=fun hc=>Zcv (by omega)
 generalize Sort.scanUp (fun x=>!ltN e[a]! x) e j i=i2 at *
 simp only[blockQ_exit,beq_self_eq_true,cond_true,thenQ_normal,wp_block,wp_seq];refine ZaW (Zss (A:=A) (xs:=[(43,Zaf false)]) h hn a i2 j ha hj hl (by omega) (by omega) (.inr rfl)) ?_;rintro _ _ ⟨rfl,rfl⟩;have g4:=ZgP (fun x=>ltN e[a]! x) e i2 j;generalize Sort.scanDown (fun x=>ltN e[a]! x) e i2 j=j2 at *
 simp only[blockQ_exit,beq_self_eq_true,cond_true,thenQ_normal,wp_block,wp_seq];by_cases hc:i2>j2
 .have hcI:((j2:Int)<(i2:Int)):=by omega
  rw[if_pos hc]at hR;rw[hR];have fin:∃(i' j':Nat),((i2,e):Nat×Array Nat)=(i',e)/\j'<=j/\i'<=j+2/\(⟨[(0,.sc (.arr 0 n)),(1,intV a),(9,intV i2),(10,intV j2),(64,Zaf true)],[(0,some (arrU l))]⟩:St)=⟨[(0,.sc (.arr 0 n)),(1,intV a),(9,intV i'),(10,intV j'),(64,Zaf true)],[(0,some (arrU l))]⟩:=
   ⟨i2,j2,rfl,by omega,by omega,rfl⟩
  simp(maxSteps:=4000000) (disch:=first|exact zd|fail) [hc,hcI,-getElem?_pos];simpa using fin
 .have hcN:¬j2<i2:=by omega
  have hcI:¬((j2:Int)<(i2:Int)):=by omega
  rw[if_neg hc,if_pos (by omega)]at hR;rw[hR];have hx:=Zbf h (i:=i2) (by omega);have hy:=Zbf h (i:=j2) (by omega);have hsw:=Ze2 h i2 j2;have hll:=Za3 h;have hil:i2<l.length:=by omega
  have hjl:j2<l.length:=by omega
  have hj1:(j2:Int)-1=((j2-1:Nat):Int):=by omega
  generalize e[i2]! = u at *
  generalize e[j2]! = v at *
  obtain⟨v2,hv2⟩:=Zaa (l:=l.set i2 v) (i:=j2) (by simp;omega)
  have fin:∃(i' j':Nat) (e':Array Nat) (l':List Nat),Is e' l'/\e'.size=n/\Sort.partEqLoop ltN a i' j' e'=Sort.partEqLoop ltN a (i2+1) (j2-1) (Sort.swp e i2 j2)/\i<i'/\i'<=j+1/\i'<=j'+2/\j'<=j/\(⟨[(0,.sc (.arr 0 n)),(1,intV a),(9,intV ((i2:Int)+1)),(10,intV ((j2-1:Nat):Int))],[(0,some (arrU ((l.set i2 v).set j2 u)))]⟩:St)=⟨[(0,.sc (.arr 0 n)),(1,intV a),(9,intV i'),(10,intV j')],[(0,some (arrU l'))]⟩:=
   ⟨i2+1,j2-1,_,_,hsw,by simp[hn],rfl,by omega,by omega,by omega,by omega,by simp⟩
  simp(maxSteps:=4000000) (disch:=first|exact zd|fail) [hcN,hcI,hx,hy,hv2,hj1,hll,hn,-getElem?_pos];simpa using fin
theorem Zxw {e:Array Nat}{l:List Nat}(h:Is e l){n:Nat}(hn:e.size=n)(a i j:Nat)(ha:a<n)(hj:j<n)(hl:n<=1073741824)(hi:1<=i)(hi2:i<=j+2):
 wp (K A) (.loop Zpm) (fun x s'=>x=.exit 0/\∃(i' j':Nat) (e':Array Nat) (l':List Nat),Is e' l'/\e'.size=n/\Sort.partEqLoop ltN a i j e=(i',e')/\j'<n/\i'<=n+2/\s'=⟨[(0,.sc (.arr 0 n)),(1,intV a),(9,intV i'),(10,intV j'),(64,Zaf true)],[(0,some (arrU l'))]⟩) ⟨[(0,.sc (.arr 0 n)),(1,intV a),(9,intV i),(10,intV j)],[(0,some (arrU l))]⟩:=by
 refine Zad (fun r s=>∃(i' j':Nat) (e':Array Nat) (l':List Nat),Is e' l'/\e'.size=n/\Sort.partEqLoop ltN a i' j' e'=Sort.partEqLoop ltN a i j e/\i+r<=i'/\i'<=j'+2/\j'<=j/\s=⟨[(0,.sc (.arr 0 n)),(1,intV a),(9,intV i'),(10,intV j')],[(0,some (arrU l'))]⟩) (j+1) ⟨i,j,e,l,h,hn,rfl,qg _,hi2,qg _,rfl⟩ ?_ ?_
 .rintro r s hr ⟨i',j',e',l',h',hn',hR,h1,h2,h3,rfl⟩
  refine ZaW (Zp9 (A:=A) h' hn' a i' j' ha (by omega) hl (by omega) h2) ?_;rintro x s (⟨rfl,i2,j2,e2,l2,k1,k2,k3,k4,k5,k6,k7,rfl⟩|⟨rfl,i2,j2,k1,k2,k3,rfl⟩)
  .exact .inl ⟨rfl,i2,j2,e2,l2,k1,k2,k3.trans hR,by omega,k6,by omega,rfl⟩
  .exact .inr ⟨by simp,rfl,i2,j2,e',l',h',hn',by rw[<-hR,k1],by omega,by omega,rfl⟩
 .rintro s ⟨i',j',e',l',h',hn',hR,h1,h2,h3,rfl⟩
  refine ZaW (Zp9 (A:=A) h' hn' a i' j' ha (by omega) hl (by omega) h2) ?_;rintro x s (⟨rfl,i2,j2,e2,l2,k1,k2,k3,k4,k5,k6,k7,rfl⟩|⟨rfl,i2,j2,k1,k2,k3,rfl⟩)
  .exfalso
   omega
  .exact⟨by simp,rfl,i2,j2,e',l',h',hn',by rw[<-hR,k1],by omega,by omega,rfl⟩
theorem ZAG {e:Array Nat}{l:List Nat}(h:Is e l){n:Nat}(hn:e.size=n)(a b p:Nat)(ha:a<=p)(hp:p<b)(hb:b<=n)(hl:n<=1073741824):
 (K A).call 277 [.sc (.arr 0 n),intV a,intV b,intV p] [arrU l]=some (intV (Sort.partitionEqual ltN e a b p).1,[arrU (Sort.partitionEqual ltN e a b p).2.toList]):=by
 generalize hR:Sort.partitionEqual ltN e a b p=R;unfold Sort.partitionEqual at hR;have hx:=Zbf h (i:=a) (by omega);have hy:=Zbf h (i:=p) (by omega);have hsw:=Ze2 h a p;have hll:=Za3 h;have hal:a<l.length:=by omega
 have hpl:p<l.length:=by omega
 have hsz:(Sort.swp e a p).size=n:=by simp[hn]
 generalize Sort.swp e a p=e1 at *
 generalize e[a]! = u at *
 generalize e[p]! = v at *
 obtain⟨v2,hv2⟩:=Zaa (l:=l.set a v) (i:=p) (by simp;omega);have hb1:(b:Int)-1=((b-1:Nat):Int):=by omega
 have ha1:(a:Int)+1=((a+1:Nat):Int):=by omega
 have hw:=Zxw (A:=A) hsw hsz a (a+1) (b-1) (by omega) (by omega) hl (by omega) (by omega);rw[hR]at hw;generalize b-1=b1 at *
 generalize a+1=a1 at *
 refine fnO v277 ?_;unfold v277;simp(maxSteps:=4000000) (disch:=first|exact zd|fail) [hx,hy,hv2,hb1,ha1,hll,hn,-getElem?_pos];refine ZaW hw ?_;rintro _ _ ⟨rfl,i',j',e',l',k1,k2,rfl,k4,k5,rfl⟩;have hll:=Za3 k1;simp(maxSteps:=4000000) (disch:=first|exact zd|fail) [hll,k2,isEq k1,-getElem?_pos]
variable {A:Zab}
theorem partA {e:Array Nat}{l:List Nat}(h:Is e l){n:Nat}(hn:e.size=n)(a b p:Nat)(ha:a<=p)(hp:p<b)(hb:b<=n)(hl:n<=1073741824):
 (K A).call 278 [.sc (.arr 0 n),intV a,intV b,intV p] [arrU l]=some (.tu [intV (Sort.partition ltN e a b p).1,Zaf (Sort.partition ltN e a b p).2.1],[arrU (Sort.partition ltN e a b p).2.2.toList]):=by
 generalize hR:Sort.partition ltN e a b p=R;dsimp only[Sort.partition]at hR;have hx:=Zbf h (i:=a) (by omega);have hy:=Zbf h (i:=p) (by omega);have hsw:=Ze2 h a p;have hll:=Za3 h;have hal:a<l.length:=by omega
 have hpl:p<l.length:=by omega
 have hsz:(Sort.swp e a p).size=n:=by simp[hn]
 generalize Sort.swp e a p=e1 at *
 generalize e[a]! = u at *
 generalize e[p]! = v at *
 obtain⟨v2,hv2⟩:=Zaa (l:=l.set a v) (i:=p) (by simp;omega);have hb1:(b:Int)-1=((b-1:Nat):Int):=by omega
 have ha1:(a:Int)+1=((a+1:Nat):Int):=by omega
 have hw1:=Zsc (A:=A) hsw hsz a (a+1) (b-1) (by omega) (by omega) hl (by omega);have g1:=Ztq (fun x=>ltN x e1[a]!) e1 (b-1) _ (a+1) (qg _);have g2:=ZvU (fun x=>ltN x e1[a]!) e1 (b-1) _ (a+1) (qg _) (by omega);generalize Sort.scanUp (fun x=>ltN x e1[a]!) e1 (b-1) (a+1)=i2 at *
 have hw2:=ZtW (A:=A) (xs:=[(43,Zaf false)]) hsw hsz a i2 (b-1) (by omega) (by omega) hl (by omega) (by omega) (.inr rfl);have g4:=ZgP (fun x=>!ltN x e1[a]!) e1 i2 (b-1);generalize Sort.scanDown (fun x=>!ltN x e1[a]!) e1 i2 (b-1)=j2 at *
 generalize hb1e:b-1=b1 at *
 generalize ha1e:a+1=a1 at *
 generalize hl1:(l.set a v).set p u=l1 at *
 have hll1:=Za3 hsw;have hx1:=Zbf hsw (i:=a) (by omega);have hy1:=Zbf hsw (i:=j2) (by omega);have hal1:a<l1.length:=by omega
 have hjl1:j2<l1.length:=by omega
 refine fnO v278 ?_;unfold v278;simp(maxSteps:=4000000) (disch:=first|exact zd|fail) [hx,hy,hv2,hb1,ha1,hll,hn,hl1,-getElem?_pos];refine ZaW hw1 ?_;rintro _ _ ⟨rfl,rfl⟩;simp only[blockQ_exit,beq_self_eq_true,cond_true,thenQ_normal,wp_block,wp_seq];refine ZaW hw2 ?_;rintro _ _ ⟨rfl,rfl⟩;by_cases hc:i2>j2
 .have hcI:(j2:Int)<(i2:Int):=by omega
  rw[if_pos hc]at hR;subst hR;have hsw2:=Ze2 hsw j2 a;generalize e1[a]! = u1 at *
  generalize e1[j2]! = w1 at *
  obtain⟨v3,hv3⟩:=Zaa (l:=l1.set j2 u1) (i:=a) (by simp;omega);have hsz2:=Za3 hsw2;simp(maxSteps:=4000000) (disch:=first|exact zd|fail) [hc,hcI,hx1,hy1,hv3,hll1,hsz,<-isEq hsw2,-getElem?_pos]
 .have hcN:¬j2<i2:=by omega
  have hcI:¬(j2:Int)<(i2:Int):=by omega
  rw[if_neg hc]at hR;have hz1:=Zbf hsw (i:=i2) (by omega);have hil1:i2<l1.length:=by omega
  have hsw2:=Ze2 hsw i2 j2;have hsz2:(Sort.swp e1 i2 j2).size=n:=by simp[hsz]
  have hj1:(j2:Int)-1=((j2-1:Nat):Int):=by omega
  have hi1:(i2:Int)+1=((i2+1:Nat):Int):=by omega
  have hw3:=Zv7 (A:=A) hsw2 hsz2 a (i2+1) (j2-1) (by omega) (by omega) hl (by omega) (by omega);generalize Sort.swp e1 i2 j2=e2 at *
  generalize e1[i2]! = u1 at *
  generalize e1[j2]! = w1 at *
  generalize hPL:Sort.partLoop ltN a (i2+1) (j2-1) e2=PL at *
  generalize i2+1=i3 at *
  generalize j2-1=j3 at *
  obtain⟨v3,hv3⟩:=Zaa (l:=l1.set i2 w1) (i:=j2) (by simp;omega);simp(maxSteps:=4000000) (disch:=first|exact zd|fail) [hcN,hcI,hz1,hy1,hv3,hj1,hi1,hll1,hsz,-getElem?_pos];refine ZaW hw3 ?_;rintro _ _ ⟨rfl,i',j',e',l',k1,k2,rfl,k4,k5,rfl⟩;subst hR;have hll2:=Za3 k1;have hx2:=Zbf k1 (i:=a) (by omega);have hy2:=Zbf k1 (i:=j') (by omega);have hsw3:=Ze2 k1 j' a;have hal2:a<l'.length:=by omega
  have hjl2:j'<l'.length:=by omega
  generalize e'[a]! = u2 at *
  generalize e'[j']! = w2 at *
  obtain⟨v4,hv4⟩:=Zaa (l:=l'.set j' u2) (i:=a) (by simp;omega);simp(maxSteps:=4000000) (disch:=first|exact zd|fail) [hx2,hy2,hv4,hll2,k2,<-isEq hsw3,-getElem?_pos]
end Go.Vs.Tryz
