/- The library's sort, walked (4): bit lengths, breaking patterns. (Parts of one proof, put together.) -/
import Derived.Test.YtlcncicmkkelcaaGreatDoorR6b
set_option linter.unusedSimpArgs false
set_option linter.unusedVariables false
set_option linter.deprecated false
set_option maxHeartbeats 4000000
namespace Go.Vs.Tryz
open Go Go.Vs
variable {A:Zac}
theorem tab8 (T:List UInt8)(hT:(d256:List UInt8)=T):T.length=256∧∀ i,i<256→T[i]?=some (UInt8.ofNat (Sort.bitsLen i)):=by
 subst hT
 refine ⟨by kernel_rfl,fun i hi => ?_⟩
 have h:(List.range 256).all (fun i=>(d256:List UInt8)[i]? == some (UInt8.ofNat (Sort.bitsLen i)))=true:=by kernel_rfl
 exact eq_of_beq (ZhA h hi)
theorem bl8 {i:Nat}(h:i<256):((UInt8.ofNat (Sort.bitsLen i)).toNat:Int)=Sort.bitsLen i:=by
 have:=ZeO (n:=i) (k:=8) h
 rw [UInt8.toNat_ofNat',Nat.mod_eq_of_lt (by omega)]
theorem Zdz (n k:Nat)(hk:k<64):shrI .u64 (n:Int) (k:Int)=((n / 2 ^ k:Nat):Int):=by
 unfold shrI
 rw [Int.toNat_natCast,show min k IntKind.u64.bits=k from Nat.min_eq_left (Nat.le_of_lt hk),Int.fdiv_eq_ediv_of_nonneg _ (Int.le_of_lt (Int.pow_pos (by decide)))]
 simp
theorem Zol (n:Nat)(h:n<2147483648):(K A).call 202 [u64V n] []=some (intV (Sort.bitsLen n),[]):=by
 refine Zan (vf:=v202) (by kernel_rfl) rfl (by simp) ?_
 unfold v202
 generalize hT:(d256:List UInt8)=T
 obtain ⟨t1,t2⟩:=tab8 T hT
 clear hT
 have w8:∀ k:Nat,k<256→IntKind.u8.wrap (k:Int)=k:=fun k hk=>by
  unfold IntKind.wrap
  simp [IntKind.bits,IntKind.signed]
  omega
 have h0:¬(4294967296:Int)≤n:=by omega
 by_cases h1:65536≤n
 ·have h1I:(65536:Int)≤n:=by omega
  have s16:shrI .u64 (n:Int) 16=((n / 2 ^ 16:Nat):Int):=Zdz n 16 (by omega)
  have hb:=ZbZ 16 n (by omega)
  generalize hm:n / 2 ^ 16=m at *
  by_cases h2:256≤m
  ·have h2I:(256:Int)≤m:=by omega
   have s8:shrI .u64 (m:Int) 8=((m / 2 ^ 8:Nat):Int):=Zdz m 8 (by omega)
   have hb2:=ZbZ 8 m (by omega)
   generalize hk:m / 2 ^ 8=k at *
   have hk2:k<256:=by omega
   have e1:=t2 k hk2
   have e2:=bl8 hk2
   have e3:=ZeO (n:=k) (k:=8) hk2
   rw [hb2] at hb
   rw [hb]
   simp (maxSteps:=4000000) (disch:=first|omega|(simp;done)|(simp;omega)) [h0,h1I,h2I,s16,s8,t1,e1,e2,w8,-getElem?_pos]
   omega
  ·have h2I:¬(256:Int)≤m:=by omega
   have hk2:m<256:=by omega
   have e1:=t2 m hk2
   have e2:=bl8 hk2
   have e3:=ZeO (n:=m) (k:=8) hk2
   rw [hb]
   simp (maxSteps:=4000000) (disch:=first|omega|(simp;done)|(simp;omega)) [h0,h1I,h2I,s16,t1,e1,e2,w8,-getElem?_pos]
   omega
 ·have h1I:¬(65536:Int)≤n:=by omega
  by_cases h2:256≤n
  ·have h2I:(256:Int)≤n:=by omega
   have s8:shrI .u64 (n:Int) 8=((n / 2 ^ 8:Nat):Int):=Zdz n 8 (by omega)
   have hb2:=ZbZ 8 n (by omega)
   generalize hk:n / 2 ^ 8=k at *
   have hk2:k<256:=by omega
   have e1:=t2 k hk2
   have e2:=bl8 hk2
   have e3:=ZeO (n:=k) (k:=8) hk2
   rw [hb2]
   simp (maxSteps:=4000000) (disch:=first|omega|(simp;done)|(simp;omega)) [h0,h1I,h2I,s8,t1,e1,e2,w8,-getElem?_pos]
   omega
  ·have h2I:¬(256:Int)≤n:=by omega
   have hk2:n<256:=by omega
   have e1:=t2 n hk2
   have e2:=bl8 hk2
   have e3:=ZeO (n:=n) (k:=8) hk2
   simp (maxSteps:=4000000) (disch:=first|omega|(simp;done)|(simp;omega)) [h0,h1I,h2I,t1,e1,e2,w8,-getElem?_pos]
   omega
theorem ZnT (n:Nat)(h:n<2147483648):(K A).call 139 [u64V n] []=some (intV (Sort.bitsLen n),[]):=by
 have hc:=Zol (A:=A) n h
 refine Zan (vf:=v139) (by kernel_rfl) rfl (by simp) ?_
 unfold v139
 simp [hc]
theorem pow241 (n:Nat)(h:n<2147483648):(K A).call 241 [intV n] []=some (u64V (2 ^ Sort.bitsLen n),[]):=by
 have hc:=ZnT (A:=A) n h
 have hb:=ZeO (n:=n) (k:=31) h
 have hw:IntKind.u64.wrap (n:Int)=n:=ZaO n (by omega)
 have hp:2 ^ Sort.bitsLen n≤2 ^ 31:=Nat.pow_le_pow_right (by omega) hb
 have hs:shlI .u64 1 (Sort.bitsLen n:Int)=((2 ^ Sort.bitsLen n:Nat):Int):=by
  unfold shlI
  rw [Int.toNat_natCast,show min (Sort.bitsLen n) IntKind.u64.bits=Sort.bitsLen n from Nat.min_eq_left (Nat.le_trans hb (by decide)),Int.one_mul]
  have:=ZaO (2 ^ Sort.bitsLen n) (by omega)
  simpa using this
 refine Zan (vf:=v241) (by kernel_rfl) rfl (by simp) ?_
 unfold v241
 generalize Sort.bitsLen n=k at *
 simp (disch:=first|omega|(simp;done)|(simp;omega)) [hc,hw,hs]
theorem ZcX (a len md:Nat)(st:UInt64 × Array Nat)(i:Nat):(Sort.breakStep a len md st i).2.size=st.2.size:=by simp [Sort.breakStep]
def stp (a len md idx:Nat):Nat→UInt64 × Array Nat→UInt64 × Array Nat
 | 0,st=>st
 | k+1,st=>stp a len md idx k (Sort.breakStep a len md st (idx+(2-k)))
theorem breakA {e:Array Nat}{l:List Nat}(h:Is e l){n:Nat}(hn:e.size=n)(a b:Nat)(hab:a≤b)(hb:b≤n)(hl:n≤1073741824) :
 (K A).call 194 [.sc (.arr 0 n),intV a,intV b] [arrU l]=some (retV,[arrU (Sort.breakPatterns e a b).toList]):=by
 generalize hR:Sort.breakPatterns e a b=R
 unfold Sort.breakPatterns at hR
 generalize hL:b-a=L at *
 have hLI:(b:Int)-a=L:=by omega
 have hll:=ZaL h
 refine Zan (vf:=v194) (by kernel_rfl) rfl (by simp) ?_
 unfold v194
 by_cases h8:L≥8
 ·have h8I:(8:Int)≤L:=by omega
  simp only [h8,if_true] at hR
  have hq:Int.tdiv (L:Int) 4=((L / 4:Nat):Int):=by
   rw [Int.tdiv_eq_ediv_of_nonneg (by omega)]
   omega
  have hpow:=pow241 (A:=A) L (by omega)
  have hbl:=bl_le (n:=L) (by omega)
  rw [Nat.shiftLeft_eq,Nat.one_mul] at hR
  have hM1:1≤2 ^ Sort.bitsLen L:=Nat.one_le_two_pow
  generalize hM:2 ^ Sort.bitsLen L=M at *
  generalize hQ:L / 4=Q at *
  generalize hi:a+Q*2-1=i0 at *
  have hiI:(a:Int)+Q*2-1=i0:=by omega
  have hw:IntKind.u64.wrap (L:Int)=((UInt64.ofNat L).toNat:Int):=by
   rw [ZaO L (by omega),UInt64.toNat_ofNat_of_lt' (by show L<18446744073709551616;omega)]
  have hR3:(stp a L M i0 3 (UInt64.ofNat L,e)).2=R:=hR
  generalize UInt64.ofNat L=x0 at *
  simp (maxSteps:=4000000) (disch:=first|omega|(simp;done)|(simp;omega)) [hLI,h8I,hq,hpow,hiI,hw]
  refine Zam (fun r s=>∃ (x:UInt64) (e:Array Nat) (l:List Nat),Is e l∧e.size=n∧(stp a L M i0 (3-r) (x,e)).2=R ∧
   s=⟨[(0,.sc (.arr 0 n)),(1,intV a),(6,intV L),(7,.sc (.ptr 576 0)),(8,u64V M),(9,intV ((i0+r:Nat):Int))],[(0,some (arrU l)),(576,some (.box [.c (.int .u64 x.toNat)]))]⟩) 3
   ⟨x0,e,l,h,hn,hR3,by simp⟩ ?_ ?_
  ·rintro r s hr ⟨x,e,l,hel,he,hR,rfl⟩
   obtain ⟨k,hk⟩:∃ k,3-r=k+1:=⟨2-r,by omega⟩
   rw [hk,stp,show 2-k=r by omega] at hR
   have hx242:=xor242 (A:=A) x
   unfold Sort.breakStep at hR
   simp only at hR
   generalize Sort.xorNext x=y at *
   have hylt:=y.toNat_lt
   have hand:andI .u64 (y.toNat:Int) ((M:Int)-1)=((y.toNat &&& (M-1):Nat):Int):=by
    rw [show (M:Int)-1=((M-1:Nat):Int) by omega]
    exact ZsO _ _ hylt (by omega)
   have hot:y.toNat &&& (M-1)<2*L:=Nat.lt_of_le_of_lt Nat.and_le_right (by omega)
   generalize y.toNat &&& (M-1)=o0 at *
   have hir:(i0:Int)+r≤a+Q*2+1:=by omega
   generalize hj:i0+r=j at *
   have hjI:(i0:Int)+r=j:=by omega
   have hcond:(j:Int)≤a+Q*2+1:=by omega
   have hx:=ZaY hel (i:=j) (by omega)
   have hjl:j<l.length:=by rw [ZaL hel];omega
   have hll:=ZaL hel
   by_cases ho:o0≥L
   ·have hoI:(L:Int)≤o0:=by omega
    rw [if_pos ho] at hR
    have hp:(a:Int)+((o0:Int)-L)=((a+(o0-L):Nat):Int):=by omega
    have hpo:(o0:Int)-L=((o0-L:Nat):Int):=by omega
    have hp2:(a:Int)+((o0-L:Nat):Int)=((a+(o0-L):Nat):Int):=by omega
    have hol:o0-L<L:=by omega
    generalize o0-L=o1 at *
    generalize hpp:a+o1=p at *
    have hy:=ZaY hel (i:=p) (by omega)
    have hpl:p<l.length:=by omega
    have hsw:=ZdF hel j p
    generalize e[j]! = u at *
    generalize e[p]! = v at *
    obtain ⟨v2,hv2⟩:=Zaa (l:=l.set j v) (i:=p) (by simp;omega)
    unfold ZlX
    simp (maxSteps:=4000000) (disch:=first|omega|(simp;done)|(simp;omega)) [hv2,hx242,hq,hand,hcond,hoI,ho,hp,hp2,hpo,hx,hy,hll,he,V.ren,-getElem?_pos]
    refine ⟨y,_,_,hsw,by simp [he],?_,?_⟩
    ·rw [show 2-r=k by omega]
     exact hR
    ·simp
     omega
   ·have hoI:¬(L:Int)≤o0:=by omega
    rw [if_neg ho] at hR
    have hp2:(a:Int)+(o0:Int)=((a+o0:Nat):Int):=by omega
    generalize hpp:a+o0=p at *
    have hy:=ZaY hel (i:=p) (by omega)
    have hpl:p<l.length:=by omega
    have hsw:=ZdF hel j p
    generalize e[j]! = u at *
    generalize e[p]! = v at *
    obtain ⟨v2,hv2⟩:=Zaa (l:=l.set j v) (i:=p) (by simp;omega)
    unfold ZlX
    simp (maxSteps:=4000000) (disch:=first|omega|(simp;done)|(simp;omega)) [hv2,hx242,hq,hand,hcond,hoI,ho,hp2,hx,hy,hll,he,V.ren,-getElem?_pos]
    refine ⟨y,_,_,hsw,by simp [he],?_,?_⟩
    ·rw [show 2-r=k by omega]
     exact hR
    ·simp
     omega
  ·rintro s ⟨x,e,l,hel,he,hR,rfl⟩
   rw [Nat.sub_self,stp] at hR
   subst hR
   have hcond:¬((i0+3:Nat):Int)≤a+Q*2+1:=by omega
   have hcond2:¬(i0:Int)+3≤a+Q*2+1:=by omega
   have hll:=ZaL hel
   unfold ZlX
   simp (maxSteps:=4000000) (disch:=first|omega|(simp;done)|(simp;omega)) [hcond,hcond2,hq,hll,he,retV,isEq hel,-getElem?_pos]
 ·have h8I:¬(8:Int)≤L:=by omega
  simp only [h8,if_false] at hR
  subst hR
  simp (maxSteps:=4000000) (disch:=first|omega|(simp;done)|(simp;omega)) [hLI,h8I,hll,hn,retV,isEq h,-getElem?_pos]
variable {A:Zac}
theorem Zpl {p:Nat→Bool}{d:Array Nat}{i j:Nat}(h:i≤j)(hp:p d[i]! = true):Sort.scanUp p d j i=Sort.scanUp p d j (i+1):=by
 rw [Sort.scanUp]
 simp [h,hp]
theorem Zb5 {p:Nat→Bool}{d:Array Nat}{i j:Nat}(h:¬(i≤j∧p d[i]! = true)):Sort.scanUp p d j i=i:=by
 rw [Sort.scanUp,if_neg (by simpa using h)]
theorem Zop (p:Nat→Bool)(d:Array Nat)(j:Nat):∀ (k i:Nat),j+1-i≤k→i≤Sort.scanUp p d j i
 | 0,i,h=>by rw [Zb5 (by omega)];exact Nat.le_refl _
 | k+1,i,h=>by
  by_cases hc:i≤j∧p d[i]! = true
  ·rw [Zpl hc.1 hc.2]
   have:=Zop p d j k (i+1) (by omega)
   omega
  ·rw [Zb5 hc]
   exact Nat.le_refl _
theorem ZmU (p:Nat→Bool)(d:Array Nat)(j:Nat):∀ (k i:Nat),j+1-i≤k→i≤j+1→Sort.scanUp p d j i≤j+1
 | 0,i,h,h2=>by rw [Zb5 (by omega)];exact h2
 | k+1,i,h,h2=>by
  by_cases hc:i≤j∧p d[i]! = true
  ·rw [Zpl hc.1 hc.2]
   exact ZmU p d j k (i+1) (by omega) (by omega)
  ·rw [Zb5 hc]
   exact h2
theorem ZkH {p:Nat→Bool}{d:Array Nat}{i j:Nat}(h1:1≤j)(h:i≤j)(hp:p d[j]! = true):Sort.scanDown p d i j=Sort.scanDown p d i (j-1):=by
 obtain ⟨k,rfl⟩:∃ k,j=k+1:=⟨j-1,by omega⟩
 rw [Sort.scanDown]
 simp [h,hp]
theorem Zc6 {p:Nat→Bool}{d:Array Nat}{i j:Nat}(h:¬(i≤j∧p d[j]! = true)):Sort.scanDown p d i j=j:=by
 cases j with
 | zero=>rfl
 | succ k=>rw [Sort.scanDown,if_neg (by simpa using h)]
theorem ZfH (p:Nat→Bool)(d:Array Nat)(i:Nat):∀ j,Sort.scanDown p d i j≤j
 | 0=>Nat.le_refl _
 | j+1=>by
  rw [Sort.scanDown]
  split
  ·have:=ZfH p d i j
   omega
  ·exact Nat.le_refl _
theorem Zoj {e:Array Nat}{l:List Nat}(h:Is e l){n:Nat}(hn:e.size=n)(a i j:Nat)(ha:a<n)(hj:j<n)(hl:n≤1073741824)(hi:i≤n+2) :
 wp (K A) (.loop ZkX) (fun x s'=>x=.exit 0∧s'=⟨[(0,.sc (.arr 0 n)),(1,intV a),(10,intV ((Sort.scanUp (fun x=>ltN x e[a]!) e j i:Nat):Int)),(11,intV j),(43,Zah false)],[(0,some (arrU l))]⟩) ⟨[(0,.sc (.arr 0 n)),(1,intV a),(10,intV i),(11,intV j)],[(0,some (arrU l))]⟩:=by
 generalize hp:(fun x=>ltN x e[a]!)=p
 have hpe:∀ x,p x=ltN x e[a]! := fun x=>by rw [←hp]
 clear hp
 refine Zam (fun r s=>∃ i':Nat,Sort.scanUp p e j i'=Sort.scanUp p e j i∧i'=i+r∧s=⟨[(0,.sc (.arr 0 n)),(1,intV a),(10,intV i'),(11,intV j)],[(0,some (arrU l))]⟩) (j+1-i) ⟨i,rfl,rfl,rfl⟩ ?_ ?_
 ·rintro r s hr ⟨i',hs,hi',rfl⟩
  have hij:i'≤j:=by omega
  have hy:=ZaY h (i:=a) (by omega)
  have hz:=ZaY h (i:=i') (by omega)
  have hll:=ZaL h
  have hpz:=hpe e[i']!
  rw [ZfX] at hpz
  have hstop:=Zb5 (p:=p) (d:=e) (i:=i') (j:=j)
  have hgo:=Zpl (p:=p) (d:=e) (i:=i') (j:=j) hij
  generalize e[a]! = y at *
  generalize e[i']! = z at *
  have hless:=ZbB (A:=A) z y
  have hal:a<l.length:=by omega
  have hil:i'<l.length:=by omega
  unfold ZkX
  by_cases hlt:z<y
  ·have hpf:p z=true:=by rw [hpz];simp [hlt]
   rw [hgo hpf] at hs
   simp (maxSteps:=4000000) (disch:=first|omega|(simp;done)|(simp;omega)) [hij,hy,hz,hll,hn,hless,hlt,←hs,-getElem?_pos]
   exact ⟨i'+1,rfl,by omega,by omega⟩
  ·have hpf:¬(i'≤j∧p z=true):=by rw [hpz];simp [hlt]
   rw [hstop hpf] at hs
   simp (maxSteps:=4000000) (disch:=first|omega|(simp;done)|(simp;omega)) [hij,hy,hz,hll,hn,hless,hlt,←hs,-getElem?_pos]
 ·rintro s ⟨i',hs,hi',rfl⟩
  have hij:¬i'≤j:=by omega
  have hijI:¬(i':Int)≤j:=by omega
  rw [Zb5 (by omega)] at hs
  unfold ZkX
  simp (maxSteps:=4000000) (disch:=first|omega|(simp;done)|(simp;omega)) [hij,hijI,←hs,-getElem?_pos]
theorem ZmV {e:Array Nat}{l:List Nat}(h:Is e l){n:Nat}(hn:e.size=n)(a i j:Nat)(ha:a<n)(hj:j<n)(hl:n≤1073741824)(hi:1≤i)(hi2:i≤n+2){xs:Env}(hx:xs=[]∨xs=[(43,Zah false)]) :
 wp (K A) (.loop Zl1) (fun x s'=>x=.exit 2∧s'=⟨[(0,.sc (.arr 0 n)),(1,intV a),(10,intV i),(11,intV ((Sort.scanDown (fun x=>!ltN x e[a]!) e i j:Nat):Int)),(60,Zah false)],[(0,some (arrU l))]⟩) ⟨(0,.sc (.arr 0 n))::(1,intV a)::(10,intV i)::(11,intV j)::xs,[(0,some (arrU l))]⟩:=by
 generalize hp:(fun x=>!ltN x e[a]!)=p
 have hpe:∀ x,p x=!ltN x e[a]! := fun x=>by rw [←hp]
 clear hp
 refine Zam (fun r s=>∃ (j':Nat) (xs:Env),(xs=[]∨xs=[(43,Zah false)])∧Sort.scanDown p e i j'=Sort.scanDown p e i j∧j'+r=j∧s=⟨(0,.sc (.arr 0 n))::(1,intV a)::(10,intV i)::(11,intV j')::xs,[(0,some (arrU l))]⟩) (j+1-i) ⟨j,xs,hx,rfl,rfl,rfl⟩ ?_ ?_
 ·clear hx
  rintro r s hr ⟨j',xs,hx,hs,hj',rfl⟩
  have hij:i≤j':=by omega
  have hy:=ZaY h (i:=a) (by omega)
  have hz:=ZaY h (i:=j') (by omega)
  have hll:=ZaL h
  have hpz:=hpe e[j']!
  rw [ZfX] at hpz
  have hstop:=Zc6 (p:=p) (d:=e) (i:=i) (j:=j')
  have hgo:=ZkH (p:=p) (d:=e) (i:=i) (j:=j') (by omega) hij
  generalize e[a]! = y at *
  generalize e[j']! = z at *
  have hless:=ZbB (A:=A) z y
  have hal:a<l.length:=by omega
  have hjl:j'<l.length:=by omega
  have hj1:(j':Int)-1=((j'-1:Nat):Int):=by omega
  unfold Zl1
  by_cases hlt:z<y
  ·have hpf:¬(i≤j'∧p z=true):=by rw [hpz];simp [hlt]
   rw [hstop hpf] at hs
   rcases hx with rfl|rfl<;>simp (maxSteps:=4000000) (disch:=first|omega|(simp;done)|(simp;omega)) [hij,hy,hz,hj1,hll,hn,hless,hlt,←hs,-getElem?_pos]
  ·have hpf:p z=true:=by rw [hpz];simp [hlt]
   rw [hgo hpf] at hs
   have fin:∃ j'' xs,(xs=[]∨xs=[(43,Zah false)])∧Sort.scanDown p e i j''=Sort.scanDown p e i j∧j''+(r+1)=j∧(⟨[(0,.sc (.arr 0 n)),(1,intV a),(10,intV i),(11,intV ((j'-1:Nat):Int))],[(0,some (arrU l))]⟩:St)=⟨(0,.sc (.arr 0 n))::(1,intV a)::(10,intV i)::(11,intV j'')::xs,[(0,some (arrU l))]⟩ :=
    ⟨j'-1,[],.inl rfl,hs,by omega,rfl⟩
   rcases hx with rfl|rfl<;>(simp (maxSteps:=4000000) (disch:=first|omega|(simp;done)|(simp;omega)) [hij,hy,hz,hj1,hll,hn,hless,hlt,-getElem?_pos];simpa using fin)
 ·clear hx
  rintro s ⟨j',xs,hx,hs,hj',rfl⟩
  have hij:¬i≤j':=by omega
  have hijI:¬(i:Int)≤j':=by omega
  rw [Zc6 (by omega)] at hs
  unfold Zl1
  rcases hx with rfl|rfl<;>simp (maxSteps:=4000000) (disch:=first|omega|(simp;done)|(simp;omega)) [hij,hijI,←hs,-getElem?_pos]
theorem Znh {e:Array Nat}{l:List Nat}(h:Is e l){n:Nat}(hn:e.size=n)(a i j:Nat)(ha:a<n)(hj:j<n)(hl:n≤1073741824)(hi:i≤n+2) :
 wp (K A) (.loop ZkZ) (fun x s'=>x=.exit 6∧s'=⟨[(0,.sc (.arr 0 n)),(1,intV a),(10,intV ((Sort.scanUp (fun x=>ltN x e[a]!) e j i:Nat):Int)),(11,intV j),(112,Zah false)],[(0,some (arrU l))]⟩) ⟨[(0,.sc (.arr 0 n)),(1,intV a),(10,intV i),(11,intV j)],[(0,some (arrU l))]⟩:=by
 generalize hp:(fun x=>ltN x e[a]!)=p
 have hpe:∀ x,p x=ltN x e[a]! := fun x=>by rw [←hp]
 clear hp
 refine Zam (fun r s=>∃ i':Nat,Sort.scanUp p e j i'=Sort.scanUp p e j i∧i'=i+r∧s=⟨[(0,.sc (.arr 0 n)),(1,intV a),(10,intV i'),(11,intV j)],[(0,some (arrU l))]⟩) (j+1-i) ⟨i,rfl,rfl,rfl⟩ ?_ ?_
 ·rintro r s hr ⟨i',hs,hi',rfl⟩
  have hij:i'≤j:=by omega
  have hy:=ZaY h (i:=a) (by omega)
  have hz:=ZaY h (i:=i') (by omega)
  have hll:=ZaL h
  have hpz:=hpe e[i']!
  rw [ZfX] at hpz
  have hstop:=Zb5 (p:=p) (d:=e) (i:=i') (j:=j)
  have hgo:=Zpl (p:=p) (d:=e) (i:=i') (j:=j) hij
  generalize e[a]! = y at *
  generalize e[i']! = z at *
  have hless:=ZbB (A:=A) z y
  have hal:a<l.length:=by omega
  have hil:i'<l.length:=by omega
  unfold ZkZ
  by_cases hlt:z<y
  ·have hpf:p z=true:=by rw [hpz];simp [hlt]
   rw [hgo hpf] at hs
   simp (maxSteps:=4000000) (disch:=first|omega|(simp;done)|(simp;omega)) [hij,hy,hz,hll,hn,hless,hlt,←hs,-getElem?_pos]
   exact ⟨i'+1,rfl,by omega,by omega⟩
  ·have hpf:¬(i'≤j∧p z=true):=by rw [hpz];simp [hlt]
   rw [hstop hpf] at hs
   simp (maxSteps:=4000000) (disch:=first|omega|(simp;done)|(simp;omega)) [hij,hy,hz,hll,hn,hless,hlt,←hs,-getElem?_pos]
 ·rintro s ⟨i',hs,hi',rfl⟩
  have hij:¬i'≤j:=by omega
  have hijI:¬(i':Int)≤j:=by omega
  rw [Zb5 (by omega)] at hs
  unfold ZkZ
  simp (maxSteps:=4000000) (disch:=first|omega|(simp;done)|(simp;omega)) [hij,hijI,←hs,-getElem?_pos]
theorem Zn5 {e:Array Nat}{l:List Nat}(h:Is e l){n:Nat}(hn:e.size=n)(a i j:Nat)(ha:a<n)(hj:j<n)(hl:n≤1073741824)(hi:1≤i)(hi2:i≤n+2){xs:Env}(hx:xs=[]∨xs=[(112,Zah false)]) :
 wp (K A) (.loop Zlf) (fun x s'=>x=.exit 8∧s'=⟨[(0,.sc (.arr 0 n)),(1,intV a),(10,intV i),(11,intV ((Sort.scanDown (fun x=>!ltN x e[a]!) e i j:Nat):Int)),(129,Zah false)],[(0,some (arrU l))]⟩) ⟨(0,.sc (.arr 0 n))::(1,intV a)::(10,intV i)::(11,intV j)::xs,[(0,some (arrU l))]⟩:=by
 generalize hp:(fun x=>!ltN x e[a]!)=p
 have hpe:∀ x,p x=!ltN x e[a]! := fun x=>by rw [←hp]
 clear hp
 refine Zam (fun r s=>∃ (j':Nat) (xs:Env),(xs=[]∨xs=[(112,Zah false)])∧Sort.scanDown p e i j'=Sort.scanDown p e i j∧j'+r=j∧s=⟨(0,.sc (.arr 0 n))::(1,intV a)::(10,intV i)::(11,intV j')::xs,[(0,some (arrU l))]⟩) (j+1-i) ⟨j,xs,hx,rfl,rfl,rfl⟩ ?_ ?_
 ·clear hx
  rintro r s hr ⟨j',xs,hx,hs,hj',rfl⟩
  have hij:i≤j':=by omega
  have hy:=ZaY h (i:=a) (by omega)
  have hz:=ZaY h (i:=j') (by omega)
  have hll:=ZaL h
  have hpz:=hpe e[j']!
  rw [ZfX] at hpz
  have hstop:=Zc6 (p:=p) (d:=e) (i:=i) (j:=j')
  have hgo:=ZkH (p:=p) (d:=e) (i:=i) (j:=j') (by omega) hij
  generalize e[a]! = y at *
  generalize e[j']! = z at *
  have hless:=ZbB (A:=A) z y
  have hal:a<l.length:=by omega
  have hjl:j'<l.length:=by omega
  have hj1:(j':Int)-1=((j'-1:Nat):Int):=by omega
  unfold Zlf
  by_cases hlt:z<y
  ·have hpf:¬(i≤j'∧p z=true):=by rw [hpz];simp [hlt]
   rw [hstop hpf] at hs
   rcases hx with rfl|rfl<;>simp (maxSteps:=4000000) (disch:=first|omega|(simp;done)|(simp;omega)) [hij,hy,hz,hj1,hll,hn,hless,hlt,←hs,-getElem?_pos]
  ·have hpf:p z=true:=by rw [hpz];simp [hlt]
   rw [hgo hpf] at hs
   have fin:∃ j'' xs,(xs=[]∨xs=[(112,Zah false)])∧Sort.scanDown p e i j''=Sort.scanDown p e i j∧j''+(r+1)=j∧(⟨[(0,.sc (.arr 0 n)),(1,intV a),(10,intV i),(11,intV ((j'-1:Nat):Int))],[(0,some (arrU l))]⟩:St)=⟨(0,.sc (.arr 0 n))::(1,intV a)::(10,intV i)::(11,intV j'')::xs,[(0,some (arrU l))]⟩ :=
    ⟨j'-1,[],.inl rfl,hs,by omega,rfl⟩
   rcases hx with rfl|rfl<;>(simp (maxSteps:=4000000) (disch:=first|omega|(simp;done)|(simp;omega)) [hij,hy,hz,hj1,hll,hn,hless,hlt,-getElem?_pos];simpa using fin)
 ·clear hx
  rintro s ⟨j',xs,hx,hs,hj',rfl⟩
  have hij:¬i≤j':=by omega
  have hijI:¬(i:Int)≤j':=by omega
  rw [Zc6 (by omega)] at hs
  unfold Zlf
  rcases hx with rfl|rfl<;>simp (maxSteps:=4000000) (disch:=first|omega|(simp;done)|(simp;omega)) [hij,hijI,←hs,-getElem?_pos]
theorem Zor {e:Array Nat}{l:List Nat}(h:Is e l){n:Nat}(hn:e.size=n)(a i j:Nat)(ha:a<n)(hj:j<n)(hl:n≤1073741824)(hi:i≤n+2) :
 wp (K A) (.loop ZkQ) (fun x s'=>x=.exit 2∧s'=⟨[(0,.sc (.arr 0 n)),(1,intV a),(9,intV ((Sort.scanUp (fun x=>!ltN e[a]! x) e j i:Nat):Int)),(10,intV j),(43,Zah false)],[(0,some (arrU l))]⟩) ⟨[(0,.sc (.arr 0 n)),(1,intV a),(9,intV i),(10,intV j)],[(0,some (arrU l))]⟩:=by
 generalize hp:(fun x=>!ltN e[a]! x)=p
 have hpe:∀ x,p x=!ltN e[a]! x:=fun x=>by rw [←hp]
 clear hp
 refine Zam (fun r s=>∃ i':Nat,Sort.scanUp p e j i'=Sort.scanUp p e j i∧i'=i+r∧s=⟨[(0,.sc (.arr 0 n)),(1,intV a),(9,intV i'),(10,intV j)],[(0,some (arrU l))]⟩) (j+1-i) ⟨i,rfl,rfl,rfl⟩ ?_ ?_
 ·rintro r s hr ⟨i',hs,hi',rfl⟩
  have hij:i'≤j:=by omega
  have hy:=ZaY h (i:=a) (by omega)
  have hz:=ZaY h (i:=i') (by omega)
  have hll:=ZaL h
  have hpz:=hpe e[i']!
  rw [ZfX] at hpz
  have hstop:=Zb5 (p:=p) (d:=e) (i:=i') (j:=j)
  have hgo:=Zpl (p:=p) (d:=e) (i:=i') (j:=j) hij
  generalize e[a]! = y at *
  generalize e[i']! = z at *
  have hless:=ZbB (A:=A) y z
  have hal:a<l.length:=by omega
  have hil:i'<l.length:=by omega
  unfold ZkQ
  by_cases hlt:y<z
  ·have hpf:¬(i'≤j∧p z=true):=by rw [hpz];simp [hlt]
   rw [hstop hpf] at hs
   simp (maxSteps:=4000000) (disch:=first|omega|(simp;done)|(simp;omega)) [hij,hy,hz,hll,hn,hless,hlt,←hs,-getElem?_pos]
  ·have hpf:p z=true:=by rw [hpz];simp [hlt]
   rw [hgo hpf] at hs
   simp (maxSteps:=4000000) (disch:=first|omega|(simp;done)|(simp;omega)) [hij,hy,hz,hll,hn,hless,hlt,←hs,-getElem?_pos]
   exact ⟨i'+1,rfl,by omega,by omega⟩
 ·rintro s ⟨i',hs,hi',rfl⟩
  have hij:¬i'≤j:=by omega
  have hijI:¬(i':Int)≤j:=by omega
  rw [Zb5 (by omega)] at hs
  unfold ZkQ
  simp (maxSteps:=4000000) (disch:=first|omega|(simp;done)|(simp;omega)) [hij,hijI,←hs,-getElem?_pos]
theorem Znx {e:Array Nat}{l:List Nat}(h:Is e l){n:Nat}(hn:e.size=n)(a i j:Nat)(ha:a<n)(hj:j<n)(hl:n≤1073741824)(hi:1≤i)(hi2:i≤n+2){xs:Env}(hx:xs=[]∨xs=[(43,Zah false)]) :
 wp (K A) (.loop ZkT) (fun x s'=>x=.exit 4∧s'=⟨[(0,.sc (.arr 0 n)),(1,intV a),(9,intV i),(10,intV ((Sort.scanDown (fun x=>ltN e[a]! x) e i j:Nat):Int)),(59,Zah false)],[(0,some (arrU l))]⟩) ⟨(0,.sc (.arr 0 n))::(1,intV a)::(9,intV i)::(10,intV j)::xs,[(0,some (arrU l))]⟩:=by
 generalize hp:(fun x=>ltN e[a]! x)=p
 have hpe:∀ x,p x=ltN e[a]! x:=fun x=>by rw [←hp]
 clear hp
 refine Zam (fun r s=>∃ (j':Nat) (xs:Env),(xs=[]∨xs=[(43,Zah false)])∧Sort.scanDown p e i j'=Sort.scanDown p e i j∧j'+r=j∧s=⟨(0,.sc (.arr 0 n))::(1,intV a)::(9,intV i)::(10,intV j')::xs,[(0,some (arrU l))]⟩) (j+1-i) ⟨j,xs,hx,rfl,rfl,rfl⟩ ?_ ?_
 ·clear hx
  rintro r s hr ⟨j',xs,hx,hs,hj',rfl⟩
  have hij:i≤j':=by omega
  have hy:=ZaY h (i:=a) (by omega)
  have hz:=ZaY h (i:=j') (by omega)
  have hll:=ZaL h
  have hpz:=hpe e[j']!
  rw [ZfX] at hpz
  have hstop:=Zc6 (p:=p) (d:=e) (i:=i) (j:=j')
  have hgo:=ZkH (p:=p) (d:=e) (i:=i) (j:=j') (by omega) hij
  generalize e[a]! = y at *
  generalize e[j']! = z at *
  have hless:=ZbB (A:=A) y z
  have hal:a<l.length:=by omega
  have hjl:j'<l.length:=by omega
  have hj1:(j':Int)-1=((j'-1:Nat):Int):=by omega
  unfold ZkT
  by_cases hlt:y<z
  ·have hpf:p z=true:=by rw [hpz];simp [hlt]
   rw [hgo hpf] at hs
   have fin:∃ j'' xs,(xs=[]∨xs=[(43,Zah false)])∧Sort.scanDown p e i j''=Sort.scanDown p e i j∧j''+(r+1)=j∧(⟨[(0,.sc (.arr 0 n)),(1,intV a),(9,intV i),(10,intV ((j'-1:Nat):Int))],[(0,some (arrU l))]⟩:St)=⟨(0,.sc (.arr 0 n))::(1,intV a)::(9,intV i)::(10,intV j'')::xs,[(0,some (arrU l))]⟩ :=
    ⟨j'-1,[],.inl rfl,hs,by omega,rfl⟩
   rcases hx with rfl|rfl<;>(simp (maxSteps:=4000000) (disch:=first|omega|(simp;done)|(simp;omega)) [hij,hy,hz,hj1,hll,hn,hless,hlt,-getElem?_pos];simpa using fin)
  ·have hpf:¬(i≤j'∧p z=true):=by rw [hpz];simp [hlt]
   rw [hstop hpf] at hs
   rcases hx with rfl|rfl<;>simp (maxSteps:=4000000) (disch:=first|omega|(simp;done)|(simp;omega)) [hij,hy,hz,hj1,hll,hn,hless,hlt,←hs,-getElem?_pos]
 ·clear hx
  rintro s ⟨j',xs,hx,hs,hj',rfl⟩
  have hij:¬i≤j':=by omega
  have hijI:¬(i:Int)≤j':=by omega
  rw [Zc6 (by omega)] at hs
  unfold ZkT
  rcases hx with rfl|rfl<;>simp (maxSteps:=4000000) (disch:=first|omega|(simp;done)|(simp;omega)) [hij,hijI,←hs,-getElem?_pos]
end Go.Vs.Tryz
