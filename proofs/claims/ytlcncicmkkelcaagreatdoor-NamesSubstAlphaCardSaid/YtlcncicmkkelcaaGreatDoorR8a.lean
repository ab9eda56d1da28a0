/- The library's sort, walked (3): the median, the pivot, breaking patterns. (Parts of one proof, put together.) -/
import Derived.Test.YtlcncicmkkelcaaGreatDoorR7a
import Derived.Test.YtlcncicmkkelcaaGreatDoorR6a
import Derived.Test.YtlcncicmkkelcaaGreatDoorR1a
set_option linter.unusedSimpArgs false
set_option linter.unusedVariables false
set_option linter.deprecated false
set_option maxHeartbeats 4000000
namespace Go.Vs
open Go
def shlI (k:IntKind)(a b:Int):Int:=k.wrap (a*2 ^ (min b.toNat k.bits))
def xorI (k:IntKind)(a b:Int):Int:=k.wrap (BitVec.ofInt k.bits a ^^^ BitVec.ofInt k.bits b).toNat
@[simp] theorem b_shl {k k':IntKind} {a b:Int} (h:0≤b):binV .shl 0 (.sc (.c (.int k a))) (.sc (.c (.int k' b)))=some (.sc (.c (.int k (shlI k a b))),[]):=by
 simp [binV,binW,Za4,Zel,Int.not_lt.2 h,shlI]
@[simp] theorem b_xor {k:IntKind} {a b:Int}:binV .xor 0 (.sc (.c (.int k a))) (.sc (.c (.int k b)))=some (.sc (.c (.int k (xorI k a b))),[]):=by simp [binV,binW,Za4,Zcb,xorI]
theorem ZaP (n:Nat)(h:n<18446744073709551616):IntKind.u64.wrap (n:Int)=n:=by
 unfold IntKind.wrap
 simp [IntKind.bits,IntKind.signed]
 omega
theorem Zns (x:UInt64)(k:Nat)(hk:k<64)(y:UInt64)(hy:y.toNat=k):shlI .u64 x.toNat (k:Int)=((x <<< y).toNat:Int):=by
 unfold shlI
 rw [UInt64.toNat_shiftLeft,hy,Nat.mod_eq_of_lt hk,Nat.shiftLeft_eq,Int.toNat_natCast,show min k IntKind.u64.bits=k from Nat.min_eq_left (Nat.le_of_lt hk)]
 unfold IntKind.wrap
 simp [IntKind.bits,IntKind.signed]
theorem Zry (x:UInt64)(k:Nat)(hk:k<64)(y:UInt64)(hy:y.toNat=k):shrI .u64 x.toNat (k:Int)=((x >>> y).toNat:Int):=by
 unfold shrI
 rw [UInt64.toNat_shiftRight,hy,Nat.mod_eq_of_lt hk,Nat.shiftRight_eq_div_pow,Int.toNat_natCast,show min k IntKind.u64.bits=k from Nat.min_eq_left (Nat.le_of_lt hk)]
 rw [Int.fdiv_eq_ediv_of_nonneg _ (Int.le_of_lt (Int.pow_pos (by decide)))]
 simp
theorem Zr2 (x y:UInt64):xorI .u64 x.toNat y.toNat=((x ^^^ y).toNat:Int):=by
 unfold xorI
 have e:∀ z:UInt64,BitVec.ofInt IntKind.u64.bits (z.toNat:Int)=z.toBitVec:=fun z=>by
  rw [BitVec.ofInt_natCast]
  apply BitVec.eq_of_toNat_eq
  rw [BitVec.toNat_ofNat]
  exact Nat.mod_eq_of_lt z.toNat_lt
 rw [e,e]
 exact ZaP _ (x ^^^ y).toNat_lt
theorem Zsf (a b:Nat)(ha:a<18446744073709551616)(hb:b<18446744073709551616):andI .u64 a b=((a &&& b:Nat):Int):=by
 unfold andI
 rw [BitVec.ofInt_natCast,BitVec.ofInt_natCast,BitVec.toNat_and,BitVec.toNat_ofNat,BitVec.toNat_ofNat]
 rw [show 2 ^ IntKind.u64.bits=18446744073709551616 from rfl,Nat.mod_eq_of_lt ha,Nat.mod_eq_of_lt hb]
 exact ZaP _ (Nat.lt_of_le_of_lt Nat.and_le_left ha)
end Go.Vs
namespace Go.Vs.Tryz
open Go Go.Vs
variable {A:Zac}
abbrev boxI (s:Nat):Obj:=.box [.c (.int .i64 (s:Int))]
theorem ZkF {e:Array Nat}{l:List Nat}(h:Is e l){n:Nat}(hn:e.size=n)(a b s:Nat)(ha:a<n)(hb:b<n)(hs:s≤1000)(hl:n≤1073741824) :
 (K A).call 262 [.sc (.arr 0 n),intV a,intV b,.sc (.ptr 1 0)] [arrU l,boxI s] =
   some (.tu [intV (Sort.order2 ltN e a b s).1,intV (Sort.order2 ltN e a b s).2.1],[arrU l,boxI (Sort.order2 ltN e a b s).2.2]):=by
 have hx:=Za0 h (i:=a) (by omega)
 have hy:=Za0 h (i:=b) (by omega)
 have hll:=ZaK h
 have hless:=ZbG (A:=A) e[b]! e[a]!
 unfold Sort.order2
 generalize e[a]! = x at *
 generalize e[b]! = y at *
 rw [Zf8]
 have hal:a<l.length:=by omega
 have hbl:b<l.length:=by omega
 refine Zas (vf:=v262) (by kernel_rfl) rfl (by simp) ?_
 unfold v262
 by_cases hlt:y<x
 ·simp only [hlt,decide_true,if_true]
  simp (maxSteps:=4000000) (disch:=first|omega|(simp;done)|(simp;omega)) [hx,hy,hll,hn,hless,hlt,-getElem?_pos]
 ·simp only [hlt,decide_false,Bool.false_eq_true,if_false]
  simp (maxSteps:=4000000) (disch:=first|omega|(simp;done)|(simp;omega)) [hx,hy,hll,hn,hless,hlt,-getElem?_pos]
theorem Zhp (e:Array Nat){a b s n:Nat}(ha:a<n)(hb:b<n):(Sort.order2 ltN e a b s).1<n∧(Sort.order2 ltN e a b s).2.1<n∧(Sort.order2 ltN e a b s).2.2≤s+1:=by
 unfold Sort.order2
 split
 ·exact ⟨hb,ha,Nat.le_refl _⟩
 ·exact ⟨ha,hb,Nat.le_succ _⟩
theorem Zkr {e:Array Nat}{l:List Nat}(h:Is e l){n:Nat}(hn:e.size=n)(a b c s:Nat)(ha:a<n)(hb:b<n)(hc:c<n)(hs:s≤900)(hl:n≤1073741824) :
 (K A).call 244 [.sc (.arr 0 n),intV a,intV b,intV c,.sc (.ptr 1 0)] [arrU l,boxI s]=some (intV (Sort.median ltN e a b c s).1,[arrU l,boxI (Sort.median ltN e a b c s).2]) ∧
   (Sort.median ltN e a b c s).1<n∧(Sort.median ltN e a b c s).2≤s+3:=by
 unfold Sort.median
 have h1:=ZkF (A:=A) h hn a b s ha hb (by omega) hl
 obtain ⟨p1,p2,p3⟩:=Zhp (s:=s) e ha hb
 generalize Sort.order2 ltN e a b s=r1 at *
 obtain ⟨a1,b1,s1⟩:=r1
 simp only at *
 have h2:=ZkF (A:=A) h hn b1 c s1 p2 hc (by omega) hl
 obtain ⟨q1,q2,q3⟩:=Zhp (s:=s1) e p2 hc
 generalize Sort.order2 ltN e b1 c s1=r2 at *
 obtain ⟨b2,c2,s2⟩:=r2
 simp only at *
 have h3:=ZkF (A:=A) h hn a1 b2 s2 p1 q1 (by omega) hl
 obtain ⟨t1,t2,t3⟩:=Zhp (s:=s2) e p1 q1
 generalize Sort.order2 ltN e a1 b2 s2=r3 at *
 obtain ⟨a3,b3,s3⟩:=r3
 simp only at *
 have hll:=ZaK h
 refine ⟨?_,t2,by omega⟩
 refine Zas (vf:=v244) (by kernel_rfl) rfl (by simp) ?_
 unfold v244
 simp (maxSteps:=4000000) (disch:=first|omega|(simp;done)|(simp;omega)) [h1,h2,h3,hll,hn,V.ren,-getElem?_pos]
theorem ZfS {e:Array Nat}{l:List Nat}(h:Is e l){n:Nat}(hn:e.size=n)(a s:Nat)(ha1:1≤a)(ha:a+1<n)(hs:s≤900)(hl:n≤1073741824) :
 (K A).call 243 [.sc (.arr 0 n),intV a,.sc (.ptr 1 0)] [arrU l,boxI s]=some (intV (Sort.medianAdjacent ltN e a s).1,[arrU l,boxI (Sort.medianAdjacent ltN e a s).2]) ∧
   (Sort.medianAdjacent ltN e a s).1<n∧(Sort.medianAdjacent ltN e a s).2≤s+3:=by
 unfold Sort.medianAdjacent
 obtain ⟨h1,h2,h3⟩:=Zkr (A:=A) h hn (a-1) a (a+1) s (by omega) (by omega) ha hs hl
 refine ⟨?_,h2,h3⟩
 have e1:(a:Int)-1=((a-1:Nat):Int):=by omega
 have e2:(a:Int)+1=((a+1:Nat):Int):=by omega
 generalize hp:a-1=p at *
 generalize hq:a+1=q at *
 generalize Sort.median ltN e p a q s=r at *
 have hll:=ZaK h
 refine Zas (vf:=v243) (by kernel_rfl) rfl (by simp) ?_
 unfold v243
 simp (maxSteps:=4000000) (disch:=first|omega|(simp;done)|(simp;omega)) [h1,e1,e2,hll,hn,V.ren,-getElem?_pos]
def ZfY:Sort.Hint→Nat
 | .unknown=>0
 | .increasing=>1
 | .decreasing=>2
def pivR (e:Array Nat)(a b:Nat):Nat × Nat :=
 if b-a≥8 then
  if b-a≥50 then
   Sort.median ltN e (Sort.medianAdjacent ltN e (a+(b-a) / 4*1) 0).1 (Sort.medianAdjacent ltN e (a+(b-a) / 4*2) (Sort.medianAdjacent ltN e (a+(b-a) / 4*1) 0).2).1
    (Sort.medianAdjacent ltN e (a+(b-a) / 4*3) (Sort.medianAdjacent ltN e (a+(b-a) / 4*2) (Sort.medianAdjacent ltN e (a+(b-a) / 4*1) 0).2).2).1
    (Sort.medianAdjacent ltN e (a+(b-a) / 4*3) (Sort.medianAdjacent ltN e (a+(b-a) / 4*2) (Sort.medianAdjacent ltN e (a+(b-a) / 4*1) 0).2).2).2
  else Sort.median ltN e (a+(b-a) / 4*1) (a+(b-a) / 4*2) (a+(b-a) / 4*3) 0
 else (a+(b-a) / 4*2,0)
def ZmV (s:Nat):Sort.Hint:=if s=0 then .increasing else if s=12 then .decreasing else .unknown
theorem ZoF (e:Array Nat)(a b:Nat):Sort.choosePivot ltN e a b=((pivR e a b).1,ZmV (pivR e a b).2):=rfl
theorem Ztp (s:Nat):ZfY (ZmV s)=if s=0 then 1 else if s=12 then 2 else 0:=by
 unfold ZmV
 split
 ·rfl
 ·split<;>rfl
theorem pivotA {e:Array Nat}{l:List Nat}(h:Is e l){n:Nat}(hn:e.size=n)(a b:Nat)(hab:a<b)(hb:b≤n)(hl:n≤1073741824) :
 (K A).call 195 [.sc (.arr 0 n),intV a,intV b] [arrU l]=some (.tu [intV (Sort.choosePivot ltN e a b).1,intV (ZfY (Sort.choosePivot ltN e a b).2)],[arrU l]):=by
 rw [ZoF,Ztp]
 generalize hr:pivR e a b=r
 unfold pivR at hr
 generalize hL:b-a=L at *
 have hLI:(b:Int)-a=L:=by omega
 have hq:Int.tdiv (L:Int) 4=((L / 4:Nat):Int):=by
  rw [Int.tdiv_eq_ediv_of_nonneg (by omega)]
  omega
 generalize hQ:L / 4=Q at *
 generalize hi:a+Q*1=i at *
 generalize hj:a+Q*2=j at *
 generalize hk:a+Q*3=k at *
 have hiI:(a:Int)+Q=i:=by omega
 have hjI:(a:Int)+Q*2=j:=by omega
 have hkI:(a:Int)+Q*3=k:=by omega
 have hll:=ZaK h
 have h00:((0:Nat):Int)=0:=rfl
 refine Zas (vf:=v195) (by kernel_rfl) rfl (by simp) ?_
 unfold v195
 by_cases h8:L≥8
 ·have h8I:(8:Int)≤L:=by omega
  by_cases h50:L≥50
  ·have h50I:(50:Int)≤L:=by omega
   rw [if_pos h8,if_pos h50] at hr
   obtain ⟨u1,u2,u3⟩:=ZfS (A:=A) h hn i 0 (by omega) (by omega) (by omega) hl
   generalize Sort.medianAdjacent ltN e i 0=ri at *
   obtain ⟨v1,v2,v3⟩:=ZfS (A:=A) h hn j ri.2 (by omega) (by omega) (by omega) hl
   generalize Sort.medianAdjacent ltN e j ri.2=rj at *
   obtain ⟨w1,w2,w3⟩:=ZfS (A:=A) h hn k rj.2 (by omega) (by omega) (by omega) hl
   generalize Sort.medianAdjacent ltN e k rj.2=rk at *
   obtain ⟨x1,x2,x3⟩:=Zkr (A:=A) h hn ri.1 rj.1 rk.1 rk.2 u2 v2 w2 (by omega) hl
   rw [hr] at x1 x2 x3
   rw [boxI,h00] at u1
   by_cases z0:r.2=0
   ·simp (maxSteps:=4000000) (disch:=first|omega|(simp;done)|(simp;omega)) [u1,v1,w1,x1,hLI,hq,hiI,hjI,hkI,h8I,h50I,hll,hn,V.ren,z0,-getElem?_pos]
   ·by_cases z12:r.2=12
    ·simp (maxSteps:=4000000) (disch:=first|omega|(simp;done)|(simp;omega)) [u1,v1,w1,x1,hLI,hq,hiI,hjI,hkI,h8I,h50I,hll,hn,V.ren,z12,-getElem?_pos]
    ·have z0I:¬(r.2:Int)=0:=by omega
     have z12I:¬(r.2:Int)=12:=by omega
     simp (maxSteps:=4000000) (disch:=first|omega|(simp;done)|(simp;omega)) [u1,v1,w1,x1,hLI,hq,hiI,hjI,hkI,h8I,h50I,hll,hn,V.ren,z0,z12,z0I,z12I,-getElem?_pos]
  ·have h50I:¬(50:Int)≤L:=by omega
   rw [if_pos h8,if_neg h50] at hr
   obtain ⟨x1,x2,x3⟩:=Zkr (A:=A) h hn i j k 0 (by omega) (by omega) (by omega) (by omega) hl
   rw [hr] at x1 x2 x3
   rw [boxI,h00] at x1
   by_cases z0:r.2=0
   ·simp (maxSteps:=4000000) (disch:=first|omega|(simp;done)|(simp;omega)) [x1,hLI,hq,hiI,hjI,hkI,h8I,h50I,hll,hn,V.ren,z0,-getElem?_pos]
   ·have z0I:¬(r.2:Int)=0:=by omega
    have z12:¬r.2=12:=by omega
    have z12I:¬(r.2:Int)=12:=by omega
    simp (maxSteps:=4000000) (disch:=first|omega|(simp;done)|(simp;omega)) [x1,hLI,hq,hiI,hjI,hkI,h8I,h50I,hll,hn,V.ren,z0,z12,z0I,z12I,-getElem?_pos]
 ·have h8I:¬(8:Int)≤L:=by omega
  rw [if_neg h8] at hr
  subst hr
  simp (maxSteps:=4000000) (disch:=first|omega|(simp;done)|(simp;omega)) [hLI,hq,hiI,hjI,hkI,h8I,hll,hn,-getElem?_pos]
theorem xor242 (r:UInt64):(K A).call 242 [.sc (.ptr 0 0)] [.box [.c (.int .u64 r.toNat)]]=some (.sc (.c (.int .u64 (Sort.xorNext r).toNat)),[.box [.c (.int .u64 (Sort.xorNext r).toNat)]]):=by
 refine Zas (vf:=v242) (by kernel_rfl) rfl (by simp) ?_
 have h1:∀ x:UInt64,shlI .u64 x.toNat 13=((x <<< 13).toNat:Int):=fun x=>Zns x 13 (by omega) 13 rfl
 have h2:∀ x:UInt64,shrI .u64 x.toNat 7=((x >>> 7).toNat:Int):=fun x=>Zry x 7 (by omega) 7 rfl
 have h3:∀ x:UInt64,shlI .u64 x.toNat 17=((x <<< 17).toNat:Int):=fun x=>Zns x 17 (by omega) 17 rfl
 unfold v242 Sort.xorNext
 simp (maxSteps:=4000000) (disch:=first|omega|(simp;done)|(simp;omega)) [h1,h2,h3,Zr2,-UInt64.toNat_xor,-UInt64.toNat_shiftLeft,-UInt64.toNat_shiftRight]
theorem ZsY {n:Nat}(h:n≠0):Sort.bitsLen n=Sort.bitsLen (n / 2)+1:=by
 unfold Sort.bitsLen
 rw [if_neg h,Nat.log2_def]
 by_cases h2:n≥2
 ·rw [if_pos h2,if_neg (by omega)]
 ·rw [if_neg h2,if_pos (by omega)]
theorem Zb4:∀ (k n:Nat),n / 2 ^ k≠0→Sort.bitsLen n=Sort.bitsLen (n / 2 ^ k)+k
 | 0,n,_=>by simp
 | k+1,n,h=>by
  have h1:n / 2 ^ k / 2=n / 2 ^ (k+1):=by rw [Nat.div_div_eq_div_mul,Nat.pow_succ]
  have h2:n / 2 ^ k≠0:=fun h0=>h (by rw [←h1,h0])
  rw [Zb4 k n h2,ZsY h2,h1]
  omega
theorem bl_le {n:Nat}(h:1≤n):2 ^ Sort.bitsLen n≤2*n:=by
 unfold Sort.bitsLen
 rw [if_neg (by omega),Nat.pow_succ]
 have:=Nat.log2_self_le (show n≠0 by omega)
 omega
theorem Zfm {n k:Nat}(h:n<2 ^ k):Sort.bitsLen n≤k:=by
 unfold Sort.bitsLen
 split
 ·omega
 ·rename_i h0
  have:=(Nat.log2_lt h0).2 h
  omega
variable {A:Zac}
def isIntR (r:Option (V × List Obj)):Bool:=match r with
 | some (.sc (.c (.int .i64 _)),[])=>true
 | _=>false
def Znq (s:Str)(r:Option (V × List Obj)):Bool:=match r with
 | some (.sc (.c (.str t)),[])=>decide (t=s)
 | _=>false
theorem ZnJ {s:Str}{r:Option (V × List Obj)}(h:Znq s r=true):r=some (strV s,[]):=by
 unfold Znq at h
 split at h
 ·rw [of_decide_eq_true h]
 ·cases h
theorem ZhX {f:Nat→Bool}{n:Nat}(h:(List.range n).all f=true){k:Nat}(hk:k<n):f k=true:=List.all_eq_true.1 h k (List.mem_range.2 hk)
theorem SortR.len {a b:Nat}{d e:List Nat}(h:SortR a b d e):e.length=d.length:=h.1.length_eq
def dig2 (k:Nat):Str:=if k<10 then [UInt8.ofNat (48+k)] else [UInt8.ofNat (48+k / 10),UInt8.ofNat (48+k % 10)]
theorem Zqv {k:Nat}(h:k<100):dig2 k=numS k:=by
 unfold dig2
 split
 ·rename_i h1
  rw [Zcv h1]
 ·rename_i h1
  rw [Zc9 h1,Zcv (by omega)]
  rfl
theorem fmt75 (k:Nat)(h:k<100):(K A).call 75 [u64V k,intV 10] []=some (strV (numS k),[]):=by
 have h1:(List.range 100).all (fun k=>Znq (dig2 k) (ZbF T2 (X2 A) gl0 10 75 [u64V k,intV 10] []))=true:=by kernel_rfl
 have h2:=ZnJ (ZhX h1 h)
 rw [Zqv h] at h2
 exact Zgz h2
variable {A:Zac}
theorem tab8 (T:List UInt8)(hT:(d256:List UInt8)=T):T.length=256∧∀ i,i<256→T[i]?=some (UInt8.ofNat (Sort.bitsLen i)):=by
 subst hT
 refine ⟨by kernel_rfl,fun i hi => ?_⟩
 have h:(List.range 256).all (fun i=>(d256:List UInt8)[i]? == some (UInt8.ofNat (Sort.bitsLen i)))=true:=by kernel_rfl
 exact eq_of_beq (ZhX h hi)
theorem bl8 {i:Nat}(h:i<256):((UInt8.ofNat (Sort.bitsLen i)).toNat:Int)=Sort.bitsLen i:=by
 have:=Zfm (n:=i) (k:=8) h
 rw [UInt8.toNat_ofNat',Nat.mod_eq_of_lt (by omega)]
theorem Zdw (n k:Nat)(hk:k<64):shrI .u64 (n:Int) (k:Int)=((n / 2 ^ k:Nat):Int):=by
 unfold shrI
 rw [Int.toNat_natCast,show min k IntKind.u64.bits=k from Nat.min_eq_left (Nat.le_of_lt hk),Int.fdiv_eq_ediv_of_nonneg _ (Int.le_of_lt (Int.pow_pos (by decide)))]
 simp
theorem ZnL (n:Nat)(h:n<2147483648):(K A).call 202 [u64V n] []=some (intV (Sort.bitsLen n),[]):=by
 refine Zas (vf:=v202) (by kernel_rfl) rfl (by simp) ?_
 unfold v202
 generalize hT:(d256:List UInt8)=T
 obtain ⟨t1,t2⟩:=tab8 T hT
 clear hT
 have w8:∀ k:Nat,k<256→IntKind.u8.wrap (k:Int)=k:=fun k hk=>by
  unfold IntKind.wrap
  simp [IntKind.bits,IntKind.signed]
  omega
 have h0:¬(4294967296:Int)≤n:=by omega
 by_cases h1:65536≤n
 ·have h1I:(65536:Int)≤n:=by omega
  have s16:shrI .u64 (n:Int) 16=((n / 2 ^ 16:Nat):Int):=Zdw n 16 (by omega)
  have hb:=Zb4 16 n (by omega)
  generalize hm:n / 2 ^ 16=m at *
  by_cases h2:256≤m
  ·have h2I:(256:Int)≤m:=by omega
   have s8:shrI .u64 (m:Int) 8=((m / 2 ^ 8:Nat):Int):=Zdw m 8 (by omega)
   have hb2:=Zb4 8 m (by omega)
   generalize hk:m / 2 ^ 8=k at *
   have hk2:k<256:=by omega
   have e1:=t2 k hk2
   have e2:=bl8 hk2
   have e3:=Zfm (n:=k) (k:=8) hk2
   rw [hb2] at hb
   rw [hb]
   simp (maxSteps:=4000000) (disch:=first|omega|(simp;done)|(simp;omega)) [h0,h1I,h2I,s16,s8,t1,e1,e2,w8,-getElem?_pos]
   omega
  ·have h2I:¬(256:Int)≤m:=by omega
   have hk2:m<256:=by omega
   have e1:=t2 m hk2
   have e2:=bl8 hk2
   have e3:=Zfm (n:=m) (k:=8) hk2
   rw [hb]
   simp (maxSteps:=4000000) (disch:=first|omega|(simp;done)|(simp;omega)) [h0,h1I,h2I,s16,t1,e1,e2,w8,-getElem?_pos]
   omega
 ·have h1I:¬(65536:Int)≤n:=by omega
  by_cases h2:256≤n
  ·have h2I:(256:Int)≤n:=by omega
   have s8:shrI .u64 (n:Int) 8=((n / 2 ^ 8:Nat):Int):=Zdw n 8 (by omega)
   have hb2:=Zb4 8 n (by omega)
   generalize hk:n / 2 ^ 8=k at *
   have hk2:k<256:=by omega
   have e1:=t2 k hk2
   have e2:=bl8 hk2
   have e3:=Zfm (n:=k) (k:=8) hk2
   rw [hb2]
   simp (maxSteps:=4000000) (disch:=first|omega|(simp;done)|(simp;omega)) [h0,h1I,h2I,s8,t1,e1,e2,w8,-getElem?_pos]
   omega
  ·have h2I:¬(256:Int)≤n:=by omega
   have hk2:n<256:=by omega
   have e1:=t2 n hk2
   have e2:=bl8 hk2
   have e3:=Zfm (n:=n) (k:=8) hk2
   simp (maxSteps:=4000000) (disch:=first|omega|(simp;done)|(simp;omega)) [h0,h1I,h2I,t1,e1,e2,w8,-getElem?_pos]
   omega
theorem ZnW (n:Nat)(h:n<2147483648):(K A).call 139 [u64V n] []=some (intV (Sort.bitsLen n),[]):=by
 have hc:=ZnL (A:=A) n h
 refine Zas (vf:=v139) (by kernel_rfl) rfl (by simp) ?_
 unfold v139
 simp [hc]
theorem pow241 (n:Nat)(h:n<2147483648):(K A).call 241 [intV n] []=some (u64V (2 ^ Sort.bitsLen n),[]):=by
 have hc:=ZnW (A:=A) n h
 have hb:=Zfm (n:=n) (k:=31) h
 have hw:IntKind.u64.wrap (n:Int)=n:=ZaP n (by omega)
 have hp:2 ^ Sort.bitsLen n≤2 ^ 31:=Nat.pow_le_pow_right (by omega) hb
 have hs:shlI .u64 1 (Sort.bitsLen n:Int)=((2 ^ Sort.bitsLen n:Nat):Int):=by
  unfold shlI
  rw [Int.toNat_natCast,show min (Sort.bitsLen n) IntKind.u64.bits=Sort.bitsLen n from Nat.min_eq_left (Nat.le_trans hb (by decide)),Int.one_mul]
  have:=ZaP (2 ^ Sort.bitsLen n) (by omega)
  simpa using this
 refine Zas (vf:=v241) (by kernel_rfl) rfl (by simp) ?_
 unfold v241
 generalize Sort.bitsLen n=k at *
 simp (disch:=first|omega|(simp;done)|(simp;omega)) [hc,hw,hs]
theorem Zc4 (a len md:Nat)(st:UInt64 × Array Nat)(i:Nat):(Sort.breakStep a len md st i).2.size=st.2.size:=by simp [Sort.breakStep]
def stp (a len md idx:Nat):Nat→UInt64 × Array Nat→UInt64 × Array Nat
 | 0,st=>st
 | k+1,st=>stp a len md idx k (Sort.breakStep a len md st (idx+(2-k)))
theorem breakA {e:Array Nat}{l:List Nat}(h:Is e l){n:Nat}(hn:e.size=n)(a b:Nat)(hab:a≤b)(hb:b≤n)(hl:n≤1073741824) :
 (K A).call 194 [.sc (.arr 0 n),intV a,intV b] [arrU l]=some (retV,[arrU (Sort.breakPatterns e a b).toList]):=by
 generalize hR:Sort.breakPatterns e a b=R
 unfold Sort.breakPatterns at hR
 generalize hL:b-a=L at *
 have hLI:(b:Int)-a=L:=by omega
 have hll:=ZaK h
 refine Zas (vf:=v194) (by kernel_rfl) rfl (by simp) ?_
 unfold v194
 by_cases h8:L≥8
 ·have h8I:(8:Int)≤L:=by omega
  simp only [h8,if_true] at hR
  have hq:Int.tdiv (L:Int) 4=((L / 4:Nat):Int):=by
   rw [Int.tdiv_eq_ediv_of_nonneg (by omega)]
   omega
  have hpow:=pow241 (A:=A) L (by omega)
  have hbl:=bl_le (n:=L) (by omega)
  rw [Nat.shiftLeft_eq,Nat.one_mul] at hR
  have hM1:1≤2 ^ Sort.bitsLen L:=Nat.one_le_two_pow
  generalize hM:2 ^ Sort.bitsLen L=M at *
  generalize hQ:L / 4=Q at *
  generalize hi:a+Q*2-1=i0 at *
  have hiI:(a:Int)+Q*2-1=i0:=by omega
  have hw:IntKind.u64.wrap (L:Int)=((UInt64.ofNat L).toNat:Int):=by
   rw [ZaP L (by omega),UInt64.toNat_ofNat_of_lt' (by show L<18446744073709551616;omega)]
  have hR3:(stp a L M i0 3 (UInt64.ofNat L,e)).2=R:=hR
  generalize UInt64.ofNat L=x0 at *
  simp (maxSteps:=4000000) (disch:=first|omega|(simp;done)|(simp;omega)) [hLI,h8I,hq,hpow,hiI,hw]
  refine Zal (fun r s=>∃ (x:UInt64) (e:Array Nat) (l:List Nat),Is e l∧e.size=n∧(stp a L M i0 (3-r) (x,e)).2=R ∧
   s=⟨[(0,.sc (.arr 0 n)),(1,intV a),(6,intV L),(7,.sc (.ptr 576 0)),(8,u64V M),(9,intV ((i0+r:Nat):Int))],[(0,some (arrU l)),(576,some (.box [.c (.int .u64 x.toNat)]))]⟩) 3
   ⟨x0,e,l,h,hn,hR3,by simp⟩ ?_ ?_
  ·rintro r s hr ⟨x,e,l,hel,he,hR,rfl⟩
   obtain ⟨k,hk⟩:∃ k,3-r=k+1:=⟨2-r,by omega⟩
   rw [hk,stp,show 2-k=r by omega] at hR
   have hx242:=xor242 (A:=A) x
   unfold Sort.breakStep at hR
   simp only at hR
   generalize Sort.xorNext x=y at *
   have hylt:=y.toNat_lt
   have hand:andI .u64 (y.toNat:Int) ((M:Int)-1)=((y.toNat &&& (M-1):Nat):Int):=by
    rw [show (M:Int)-1=((M-1:Nat):Int) by omega]
    exact Zsf _ _ hylt (by omega)
   have hot:y.toNat &&& (M-1)<2*L:=Nat.lt_of_le_of_lt Nat.and_le_right (by omega)
   generalize y.toNat &&& (M-1)=o0 at *
   have hir:(i0:Int)+r≤a+Q*2+1:=by omega
   generalize hj:i0+r=j at *
   have hjI:(i0:Int)+r=j:=by omega
   have hcond:(j:Int)≤a+Q*2+1:=by omega
   have hx:=Za0 hel (i:=j) (by omega)
   have hjl:j<l.length:=by rw [ZaK hel];omega
   have hll:=ZaK hel
   by_cases ho:o0≥L
   ·have hoI:(L:Int)≤o0:=by omega
    rw [if_pos ho] at hR
    have hp:(a:Int)+((o0:Int)-L)=((a+(o0-L):Nat):Int):=by omega
    have hpo:(o0:Int)-L=((o0-L:Nat):Int):=by omega
    have hp2:(a:Int)+((o0-L:Nat):Int)=((a+(o0-L):Nat):Int):=by omega
    have hol:o0-L<L:=by omega
    generalize o0-L=o1 at *
    generalize hpp:a+o1=p at *
    have hy:=Za0 hel (i:=p) (by omega)
    have hpl:p<l.length:=by omega
    have hsw:=Zd4 hel j p
    generalize e[j]! = u at *
    generalize e[p]! = v at *
    obtain ⟨v2,hv2⟩:=Zaa (l:=l.set j v) (i:=p) (by simp;omega)
    unfold ZlJ
    simp (maxSteps:=4000000) (disch:=first|omega|(simp;done)|(simp;omega)) [hv2,hx242,hq,hand,hcond,hoI,ho,hp,hp2,hpo,hx,hy,hll,he,V.ren,-getElem?_pos]
    refine ⟨y,_,_,hsw,by simp [he],?_,?_⟩
    ·rw [show 2-r=k by omega]
     exact hR
    ·simp
     omega
   ·have hoI:¬(L:Int)≤o0:=by omega
    rw [if_neg ho] at hR
    have hp2:(a:Int)+(o0:Int)=((a+o0:Nat):Int):=by omega
    generalize hpp:a+o0=p at *
    have hy:=Za0 hel (i:=p) (by omega)
    have hpl:p<l.length:=by omega
    have hsw:=Zd4 hel j p
    generalize e[j]! = u at *
    generalize e[p]! = v at *
    obtain ⟨v2,hv2⟩:=Zaa (l:=l.set j v) (i:=p) (by simp;omega)
    unfold ZlJ
    simp (maxSteps:=4000000) (disch:=first|omega|(simp;done)|(simp;omega)) [hv2,hx242,hq,hand,hcond,hoI,ho,hp2,hx,hy,hll,he,V.ren,-getElem?_pos]
    refine ⟨y,_,_,hsw,by simp [he],?_,?_⟩
    ·rw [show 2-r=k by omega]
     exact hR
    ·simp
     omega
  ·rintro s ⟨x,e,l,hel,he,hR,rfl⟩
   rw [Nat.sub_self,stp] at hR
   subst hR
   have hcond:¬((i0+3:Nat):Int)≤a+Q*2+1:=by omega
   have hcond2:¬(i0:Int)+3≤a+Q*2+1:=by omega
   have hll:=ZaK hel
   unfold ZlJ
   simp (maxSteps:=4000000) (disch:=first|omega|(simp;done)|(simp;omega)) [hcond,hcond2,hq,hll,he,retV,isEq hel,-getElem?_pos]
 ·have h8I:¬(8:Int)≤L:=by omega
  simp only [h8,if_false] at hR
  subst hR
  simp (maxSteps:=4000000) (disch:=first|omega|(simp;done)|(simp;omega)) [hLI,h8I,hll,hn,retV,isEq h,-getElem?_pos]
end Go.Vs.Tryz
