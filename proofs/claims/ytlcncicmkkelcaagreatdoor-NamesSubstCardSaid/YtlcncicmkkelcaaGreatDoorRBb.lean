/- Numbers as text, walked: formatBase10, FormatUint (written by wip/gen/mkQ7.py). (Parts of one proof, put together.) -/
import Derived.Test.YtlcncicmkkelcaaGreatDoorRAb
set_option linter.unusedSimpArgs false
set_option linter.unusedVariables false
set_option linter.deprecated false
set_option maxHeartbeats 16000000
namespace Go.Vs.Tryz
open Go Go.Vs
variable {A:Zac}
abbrev arrB (w:Str):Obj:=.arr 1 (wr (Zdr w)) 0
theorem tab2 (T:List UInt8)(hT:(d200:List UInt8)=T):T.length=200∧∀ x,x<100→T[x*2]?=some (dg (x / 10))∧T[x*2+1]?=some (dg x):=by
 subst hT
 refine ⟨by kernel_rfl,fun x hx => ?_⟩
 have h:(List.range 100).all (fun x=>((d200:List UInt8)[x*2]? == some (dg (x / 10))) && ((d200:List UInt8)[x*2+1]? == some (dg x)))=true:=by kernel_rfl
 have h1:=ZhA h hx
 simp only [Bool.and_eq_true,beq_iff_eq] at h1
 exact h1
theorem Zfl {x y:Nat}(h:x % 10=y % 10):dg x=dg y:=by unfold dg;rw [h]
theorem vset {w:Str}{n i:Nat}{x:UInt8}(hi:i<n)(hn:n≤w.length):((w.set i x).take n).drop i=x::(w.take n).drop (i+1):=by
 apply List.ext_getElem?
 intro j
 cases j with
 | zero=>simp [List.getElem?_drop,List.getElem?_take,List.getElem?_set,hi];omega
 | succ j =>
  simp only [List.getElem?_drop,List.getElem?_take,List.getElem?_cons_succ]
  rw [List.getElem?_set_ne (by omega),show i+(j+1)=i+1+j by omega]
theorem ZhH (k m j:Nat):k / 10 ^ (m+j)=k / 10 ^ m / 10 ^ j:=by rw [Nat.pow_add,Nat.div_div_eq_div_mul]
theorem ZrE (m k:Nat):pd (m+1) k=dg (k / 10 ^ m)::pd m k:=rfl
theorem Zqh (m k:Nat):pd (m+8) k=dg (k / 10 ^ m / 10 ^ 7)::dg (k / 10 ^ m / 10 ^ 6)::dg (k / 10 ^ m / 10 ^ 5)::dg (k / 10 ^ m / 10 ^ 4)::dg (k / 10 ^ m / 10 ^ 3)::dg (k / 10 ^ m / 10 ^ 2)::dg (k / 10 ^ m / 10 ^ 1)::dg (k / 10 ^ m)::pd m k:=by
 simp only [←ZhH]
 rfl
theorem ZpH (m k:Nat):pd (m+4) k=dg (k / 10 ^ m / 10 ^ 3)::dg (k / 10 ^ m / 10 ^ 2)::dg (k / 10 ^ m / 10 ^ 1)::dg (k / 10 ^ m)::pd m k:=by
 simp only [←ZhH]
 rfl
theorem ZpE (m k:Nat):pd (m+2) k=dg (k / 10 ^ m / 10 ^ 1)::dg (k / 10 ^ m)::pd m k:=by
 simp only [←ZhH]
 rfl
theorem vset8 {w:Str}{n i:Nat}{x1 x2 x3 x4 x5 x6 x7 x8:UInt8}(hp:8≤i)(hi:i≤n)(hn:n≤w.length):(((((((((w.set (i-1) (x1)).set (i-2) (x2)).set (i-3) (x3)).set (i-4) (x4)).set (i-5) (x5)).set (i-6) (x6)).set (i-7) (x7)).set (i-8) (x8)).take n).drop (i-8)=x8::x7::x6::x5::x4::x3::x2::x1::(w.take n).drop i:=by
 have h0:(w.take n).drop i=(w.take n).drop i:=rfl
 have h1:=vset (w:=w) (n:=n) (i:=i-1) (x:=x1) (by omega) (by first | omega | (simp;omega))
 rw [show i-1+1=i-0 by omega,Nat.sub_zero] at h1
 have h2:=vset (w:=(w.set (i-1) (x1))) (n:=n) (i:=i-2) (x:=x2) (by omega) (by first | omega | (simp;omega))
 rw [show i-2+1=i-1 by omega,h1] at h2
 have h3:=vset (w:=((w.set (i-1) (x1)).set (i-2) (x2))) (n:=n) (i:=i-3) (x:=x3) (by omega) (by first | omega | (simp;omega))
 rw [show i-3+1=i-2 by omega,h2] at h3
 have h4:=vset (w:=(((w.set (i-1) (x1)).set (i-2) (x2)).set (i-3) (x3))) (n:=n) (i:=i-4) (x:=x4) (by omega) (by first | omega | (simp;omega))
 rw [show i-4+1=i-3 by omega,h3] at h4
 have h5:=vset (w:=((((w.set (i-1) (x1)).set (i-2) (x2)).set (i-3) (x3)).set (i-4) (x4))) (n:=n) (i:=i-5) (x:=x5) (by omega) (by first | omega | (simp;omega))
 rw [show i-5+1=i-4 by omega,h4] at h5
 have h6:=vset (w:=(((((w.set (i-1) (x1)).set (i-2) (x2)).set (i-3) (x3)).set (i-4) (x4)).set (i-5) (x5))) (n:=n) (i:=i-6) (x:=x6) (by omega) (by first | omega | (simp;omega))
 rw [show i-6+1=i-5 by omega,h5] at h6
 have h7:=vset (w:=((((((w.set (i-1) (x1)).set (i-2) (x2)).set (i-3) (x3)).set (i-4) (x4)).set (i-5) (x5)).set (i-6) (x6))) (n:=n) (i:=i-7) (x:=x7) (by omega) (by first | omega | (simp;omega))
 rw [show i-7+1=i-6 by omega,h6] at h7
 have h8:=vset (w:=(((((((w.set (i-1) (x1)).set (i-2) (x2)).set (i-3) (x3)).set (i-4) (x4)).set (i-5) (x5)).set (i-6) (x6)).set (i-7) (x7))) (n:=n) (i:=i-8) (x:=x8) (by omega) (by first | omega | (simp;omega))
 rw [show i-8+1=i-7 by omega,h7] at h8
 exact h8
theorem vset4 {w:Str}{n i:Nat}{x1 x2 x3 x4:UInt8}(hp:4≤i)(hi:i≤n)(hn:n≤w.length):(((((w.set (i-1) (x1)).set (i-2) (x2)).set (i-3) (x3)).set (i-4) (x4)).take n).drop (i-4)=x4::x3::x2::x1::(w.take n).drop i:=by
 have h0:(w.take n).drop i=(w.take n).drop i:=rfl
 have h1:=vset (w:=w) (n:=n) (i:=i-1) (x:=x1) (by omega) (by first | omega | (simp;omega))
 rw [show i-1+1=i-0 by omega,Nat.sub_zero] at h1
 have h2:=vset (w:=(w.set (i-1) (x1))) (n:=n) (i:=i-2) (x:=x2) (by omega) (by first | omega | (simp;omega))
 rw [show i-2+1=i-1 by omega,h1] at h2
 have h3:=vset (w:=((w.set (i-1) (x1)).set (i-2) (x2))) (n:=n) (i:=i-3) (x:=x3) (by omega) (by first | omega | (simp;omega))
 rw [show i-3+1=i-2 by omega,h2] at h3
 have h4:=vset (w:=(((w.set (i-1) (x1)).set (i-2) (x2)).set (i-3) (x3))) (n:=n) (i:=i-4) (x:=x4) (by omega) (by first | omega | (simp;omega))
 rw [show i-4+1=i-3 by omega,h3] at h4
 exact h4
theorem vset2 {w:Str}{n i:Nat}{x1 x2:UInt8}(hp:2≤i)(hi:i≤n)(hn:n≤w.length):(((w.set (i-1) (x1)).set (i-2) (x2)).take n).drop (i-2)=x2::x1::(w.take n).drop i:=by
 have h0:(w.take n).drop i=(w.take n).drop i:=rfl
 have h1:=vset (w:=w) (n:=n) (i:=i-1) (x:=x1) (by omega) (by first | omega | (simp;omega))
 rw [show i-1+1=i-0 by omega,Nat.sub_zero] at h1
 have h2:=vset (w:=(w.set (i-1) (x1))) (n:=n) (i:=i-2) (x:=x2) (by omega) (by first | omega | (simp;omega))
 rw [show i-2+1=i-1 by omega,h1] at h2
 exact h2
def FB (n k i:Nat)(w:Str):Prop:=w.length=24∧i≤n∧(w.take n).drop i=pd (n-i) k
theorem Zqj (n k:Nat)(hn:n≤24)(hk:k<18446744073709551616){i:Nat}{w:Str}(hw:FB n k i w)(hi:8≤i)(Q:Ex→St→Prop)
 (hQ:∀ w',FB n k (i-8) w'→Q .normal ⟨[(0,.sc (.vw 0 24 0 n)),(1,u64V (k / 10 ^ (n-(i-8)))),(4,intV ((i-8:Nat):Int))],[(0,some (arrB w'))]⟩) :
 wp (K A) Zi1 Q ⟨[(0,.sc (.vw 0 24 0 n)),(1,u64V (k / 10 ^ (n-i))),(4,intV i)],[(0,some (arrB w))]⟩:=by
 obtain ⟨h1,h2,h3⟩:=hw
 have hul:k / 10 ^ (n-i)≤k:=Nat.div_le_self ..
 have hnext:k / 10 ^ (n-(i-8))=k / 10 ^ (n-i) / 100000000:=by
  rw [show n-(i-8)=n-i+8 by omega,ZhH]
 have hpd:=Zqh (n-i) k
 rw [←h3] at hpd
 generalize hu:k / 10 ^ (n-i)=u at *
 rw [hnext] at hQ
 have t1:Int.tmod (u:Int) 100000000=((u % 100000000:Nat):Int):=by rw [Int.tmod_eq_emod_of_nonneg (by omega)];omega
 have t2:Int.tdiv (u:Int) 100000000=((u / 100000000:Nat):Int):=by rw [Int.tdiv_eq_ediv_of_nonneg (by omega)];omega
 have x1:u / 100000000≤u:=Nat.div_le_self ..
 generalize hun:u / 100000000=un at *
 generalize huh:u % 100000000=uh at *
 have t3:Int.tdiv (uh:Int) 10000=((uh / 10000:Nat):Int):=by rw [Int.tdiv_eq_ediv_of_nonneg (by omega)];omega
 have t4:Int.tmod (uh:Int) 10000=((uh % 10000:Nat):Int):=by rw [Int.tmod_eq_emod_of_nonneg (by omega)];omega
 generalize hd0:uh / 10000=d0 at *
 generalize hd1:uh % 10000=d1 at *
 have t5:Int.tdiv (d1:Int) 100=((d1 / 100:Nat):Int):=by rw [Int.tdiv_eq_ediv_of_nonneg (by omega)];omega
 have t6:Int.tmod (d1:Int) 100=((d1 % 100:Nat):Int):=by rw [Int.tmod_eq_emod_of_nonneg (by omega)];omega
 have t7:Int.tdiv (d0:Int) 100=((d0 / 100:Nat):Int):=by rw [Int.tdiv_eq_ediv_of_nonneg (by omega)];omega
 have t8:Int.tmod (d0:Int) 100=((d0 % 100:Nat):Int):=by rw [Int.tmod_eq_emod_of_nonneg (by omega)];omega
 generalize ha1:d1 / 100=a1 at *
 generalize ha0:d1 % 100=a0 at *
 generalize hb1:d0 / 100=b1 at *
 generalize hb0:d0 % 100=b0 at *
 have hfin:FB n k (i-8) ((((((((w.set (i-1) (dg a0)).set (i-2) (dg (a0 / 10))).set (i-3) (dg a1)).set (i-4) (dg (a1 / 10))).set (i-5) (dg b0)).set (i-6) (dg (b0 / 10))).set (i-7) (dg b1)).set (i-8) (dg (b1 / 10))):=by
  refine ⟨by simp [h1],by omega,?_⟩
  rw [vset8 hi h2 (by omega),show n-(i-8)=n-i+8 by omega,hpd]
  rw [Zfl (x:=b1 / 10) (y:=u / 10 ^ 7) (by omega),Zfl (x:=b1) (y:=u / 10 ^ 6) (by omega),Zfl (x:=b0 / 10) (y:=u / 10 ^ 5) (by omega),Zfl (x:=b0) (y:=u / 10 ^ 4) (by omega),
   Zfl (x:=a1 / 10) (y:=u / 10 ^ 3) (by omega),Zfl (x:=a1) (y:=u / 10 ^ 2) (by omega),Zfl (x:=a0 / 10) (y:=u / 10 ^ 1) (by omega),Zfl (x:=a0) (y:=u) (by omega)]
 have fin:=hQ _ hfin
 unfold Zi1
 generalize hT:(d200:List UInt8)=T
 obtain ⟨y1,y2⟩:=tab2 T hT
 clear hT
 obtain ⟨ya0,ya1⟩:=y2 a0 (by omega)
 obtain ⟨yb0,yb1⟩:=y2 a1 (by omega)
 obtain ⟨yc0,yc1⟩:=y2 b0 (by omega)
 obtain ⟨yd0,yd1⟩:=y2 b1 (by omega)
 have z0:(a0:Int)*2=((a0*2:Nat):Int):=by omega
 have z1:(a1:Int)*2=((a1*2:Nat):Int):=by omega
 have z2:(b0:Int)*2=((b0*2:Nat):Int):=by omega
 have z3:(b1:Int)*2=((b1*2:Nat):Int):=by omega
 have q0:a0*2<199:=by omega
 have q1:a1*2<199:=by omega
 have q2:b0*2<199:=by omega
 have q3:b1*2<199:=by omega
 generalize a0*2=e0 at *
 generalize a1*2=e1 at *
 generalize b0*2=e2 at *
 generalize b1*2=e3 at *
 have w0:(e0:Int)+1=((e0+1:Nat):Int):=by omega
 have w1:(e1:Int)+1=((e1+1:Nat):Int):=by omega
 have w2:(e2:Int)+1=((e2+1:Nat):Int):=by omega
 have w3:(e3:Int)+1=((e3+1:Nat):Int):=by omega
 have q10:e0+1<200:=by omega
 have q11:e1+1<200:=by omega
 have q12:e2+1<200:=by omega
 have q13:e3+1<200:=by omega
 generalize e0+1=f0 at *
 generalize e1+1=f1 at *
 generalize e2+1=f2 at *
 generalize e3+1=f3 at *
 obtain ⟨v0,hv0⟩:=Zaa (l:=w) (i:=i-1) (by first|omega|(simp;omega))
 obtain ⟨v1,hv1⟩:=Zaa (l:=(w.set (i-1) (dg a0))) (i:=i-2) (by first|omega|(simp;omega))
 obtain ⟨v2,hv2⟩:=Zaa (l:=((w.set (i-1) (dg a0)).set (i-2) (dg (a0 / 10)))) (i:=i-3) (by first|omega|(simp;omega))
 obtain ⟨v3,hv3⟩:=Zaa (l:=(((w.set (i-1) (dg a0)).set (i-2) (dg (a0 / 10))).set (i-3) (dg a1))) (i:=i-4) (by first|omega|(simp;omega))
 obtain ⟨v4,hv4⟩:=Zaa (l:=((((w.set (i-1) (dg a0)).set (i-2) (dg (a0 / 10))).set (i-3) (dg a1)).set (i-4) (dg (a1 / 10)))) (i:=i-5) (by first|omega|(simp;omega))
 obtain ⟨v5,hv5⟩:=Zaa (l:=(((((w.set (i-1) (dg a0)).set (i-2) (dg (a0 / 10))).set (i-3) (dg a1)).set (i-4) (dg (a1 / 10))).set (i-5) (dg b0))) (i:=i-6) (by first|omega|(simp;omega))
 obtain ⟨v6,hv6⟩:=Zaa (l:=((((((w.set (i-1) (dg a0)).set (i-2) (dg (a0 / 10))).set (i-3) (dg a1)).set (i-4) (dg (a1 / 10))).set (i-5) (dg b0)).set (i-6) (dg (b0 / 10)))) (i:=i-7) (by first|omega|(simp;omega))
 obtain ⟨v7,hv7⟩:=Zaa (l:=(((((((w.set (i-1) (dg a0)).set (i-2) (dg (a0 / 10))).set (i-3) (dg a1)).set (i-4) (dg (a1 / 10))).set (i-5) (dg b0)).set (i-6) (dg (b0 / 10))).set (i-7) (dg b1))) (i:=i-8) (by first|omega|(simp;omega))
 have iI1:(i:Int)-1=((i-1:Nat):Int):=by omega
 have iI2:(i:Int)-2=((i-2:Nat):Int):=by omega
 have iI3:(i:Int)-3=((i-3:Nat):Int):=by omega
 have iI4:(i:Int)-4=((i-4:Nat):Int):=by omega
 have iI5:(i:Int)-5=((i-5:Nat):Int):=by omega
 have iI6:(i:Int)-6=((i-6:Nat):Int):=by omega
 have iI7:(i:Int)-7=((i-7:Nat):Int):=by omega
 have iI8:(i:Int)-8=((i-8:Nat):Int):=by omega
 have hiI:(8:Int)≤i:=by omega
 have hun64:un<18446744073709551616:=by omega
 have hw64:=fun h=>ZaO un h
 simp (maxSteps:=8000000) (disch:=first|omega|(simp;done)|(simp;omega)) [hiI,t1,t2,t3,t4,t5,t6,t7,t8,z0,z1,z2,z3,w0,w1,w2,w3,y1,ya0,ya1,yb0,yb1,yc0,yc1,yd0,yd1,hv0,hv1,hv2,hv3,hv4,hv5,hv6,hv7,iI1,iI2,iI3,iI4,iI5,iI6,iI7,iI8,hn,h1,hw64 hun64,-getElem?_pos]
 exact fin
theorem FB4 {n k i:Nat}{w:Str}(hn:n≤24)(hw:FB n k i w)(hi:4≤i){u a0 a1:Nat}(hu:k / 10 ^ (n-i)=u)(h1:a1=u % 10000 / 100)(h0:a0=u % 10000 % 100) :
 FB n k (i-4) ((((w.set (i-1) (dg a0)).set (i-2) (dg (a0 / 10))).set (i-3) (dg a1)).set (i-4) (dg (a1 / 10)))∧k / 10 ^ (n-(i-4))=u / 10000:=by
 obtain ⟨k1,k2,k3⟩:=hw
 have hpd:=ZpH (n-i) k
 rw [←k3,hu] at hpd
 refine ⟨⟨by simp [k1],by omega,?_⟩,by rw [show n-(i-4)=n-i+4 by omega,ZhH,hu]⟩
 rw [vset4 hi k2 (by omega),show n-(i-4)=n-i+4 by omega,hpd]
 rw [Zfl (x:=a1 / 10) (y:=u / 10 ^ 3) (by omega),Zfl (x:=a1) (y:=u / 10 ^ 2) (by omega),Zfl (x:=a0 / 10) (y:=u / 10 ^ 1) (by omega),Zfl (x:=a0) (y:=u) (by omega)]
theorem FB2 {n k i:Nat}{w:Str}(hn:n≤24)(hw:FB n k i w)(hi:2≤i){u a0:Nat}(hu:k / 10 ^ (n-i)=u)(h0:a0=u % 100) :
 FB n k (i-2) ((w.set (i-1) (dg a0)).set (i-2) (dg (a0 / 10)))∧k / 10 ^ (n-(i-2))=u / 100:=by
 obtain ⟨k1,k2,k3⟩:=hw
 have hpd:=ZpE (n-i) k
 rw [←k3,hu] at hpd
 refine ⟨⟨by simp [k1],by omega,?_⟩,by rw [show n-(i-2)=n-i+2 by omega,ZhH,hu]⟩
 rw [vset2 hi k2 (by omega),show n-(i-2)=n-i+2 by omega,hpd]
 rw [Zfl (x:=a0 / 10) (y:=u / 10 ^ 1) (by omega),Zfl (x:=a0) (y:=u) (by omega)]
theorem FB1 {n k:Nat}{w:Str}(hn:n≤24)(hw:FB n k 1 w){u:Nat}(hu:k / 10 ^ (n-1)=u):FB n k 0 (w.set 0 (dg u)):=by
 obtain ⟨k1,k2,k3⟩:=hw
 have hv:=vset (w:=w) (n:=n) (i:=0) (x:=dg u) (by omega) (by omega)
 refine ⟨by simp [k1],by omega,?_⟩
 rw [hv,k3,Nat.sub_zero,show n=n-1+1 by omega,ZrE,show n-1+1-1=n-1 by omega,hu]
theorem FB0 {n k:Nat}{w:Str}(hw:FB n k 0 w):w.take n=pd n k:=by
 obtain ⟨_,_,h⟩:=hw
 simpa using h
end Go.Vs.Tryz
