/- Numbers as text, walked: FormatUint (written by wip/gen/mkQ8.py). (Parts of one proof, put together.) -/
import Derived.Test.YtlcncicmkkelcaaGreatDoorRBb
import Derived.Test.YtlcncicmkkelcaaGreatDoorR6b
set_option linter.unusedSimpArgs false
set_option linter.unusedVariables false
set_option linter.deprecated false
set_option maxHeartbeats 32000000
namespace Go.Vs.Tryz
open Go Go.Vs
variable {A:Zac}
theorem Zf2 {n k i:Nat}(hk:k<10 ^ n)(hi:i≤n):k / 10 ^ (n-i)<10 ^ i:=by
 have h:10 ^ n=10 ^ (n-i)*10 ^ i:=by rw [←Nat.pow_add,show n-i+i=n by omega]
 rw [h] at hk
 exact Nat.div_lt_of_lt_mul hk
def q190:VCode:=(sq [oM 96 1,o 97 (.cvI .u32 (tv 96)),oM 12 97] [0,4,12] (.seq (sq [oM 98 4,oK 99 .geq 98 4] [0,4,12,99] (cd 99 (sq [oM 100 12,o 101 (.bin .rem 0 (tv 100) (.k (.sc (.c (.int .u32 10000))))),oM 13 101] [0,4,12,13] (sq [oM 102 12,o 103 (.bin .quo 0 (tv 102) (.k (.sc (.c (.int .u32 10000))))),oM 12 103] [0,4,12,13] (sq [oM 104 13,o 105 (.bin .quo 0 (tv 104) (.k (.sc (.c (.int .u32 100))))),o 106 (.bin .mul 0 (tv 105) (.k (.sc (.c (.int .u32 2))))),oM 107 13,o 108 (.bin .rem 0 (tv 107) (.k (.sc (.c (.int .u32 100))))),o 109 (.bin .mul 0 (tv 108) (.k (.sc (.c (.int .u32 2))))),oM 14 106,oM 15 109] [0,4,12,14,15] (sq [oM 110 0,oM 111 4,oK 112 .sub 111 1,oM 113 0,oM 114 4,oK 115 .sub 114 2,oM 116 15,o 117 (.bin .add 0 (tv 116) (.k (.sc (.c (.int .u32 1))))),o 118 (.idxS (.k (.sc (.c (.str d200)))) (tv 117)),oM 119 15,o 120 (.idxS (.k (.sc (.c (.str d200)))) (tv 119)),oX 121 1 110 112,oW 1 121 118,oX 122 1 113 115,oW 1 122 120] [0,4,12,14] (sq [oM 123 0,oM 124 4,oK 125 .sub 124 3,oM 126 0,oM 127 4,oK 128 .sub 127 4,oM 129 14,o 130 (.bin .add 0 (tv 129) (.k (.sc (.c (.int .u32 1))))),o 131 (.idxS (.k (.sc (.c (.str d200)))) (tv 130)),oM 132 14,o 133 (.idxS (.k (.sc (.c (.str d200)))) (tv 132)),oX 134 1 123 125,oW 1 134 131,oX 135 1 126 128,oW 1 135 133] [0,4,12] (rg [oM 136 4,oK 137 .sub 136 4,oM 4 137] [0,4,12])))))) .skip)) (.seq (sq [oM 138 4,oK 139 .geq 138 2] [0,4,12,139] (cd 139 (sq [oM 140 12,o 141 (.bin .rem 0 (tv 140) (.k (.sc (.c (.int .u32 100))))),o 142 (.bin .mul 0 (tv 141) (.k (.sc (.c (.int .u32 2))))),oM 16 142] [0,4,12,16] (sq [oM 143 12,o 144 (.bin .quo 0 (tv 143) (.k (.sc (.c (.int .u32 100))))),oM 12 144] [0,4,12,16] (sq [oM 145 0,oM 146 4,oK 147 .sub 146 1,oM 148 0,oM 149 4,oK 150 .sub 149 2,oM 151 16,o 152 (.bin .add 0 (tv 151) (.k (.sc (.c (.int .u32 1))))),o 153 (.idxS (.k (.sc (.c (.str d200)))) (tv 152)),oM 154 16,o 155 (.idxS (.k (.sc (.c (.str d200)))) (tv 154)),oX 156 1 145 147,oW 1 156 153,oX 157 1 148 150,oW 1 157 155] [0,4,12] (rg [oM 158 4,oK 159 .sub 158 2,oM 4 159] [0,4,12])))) .skip)) (sq [oM 160 4,oK 161 .gtr 160 0] [0,12,161] (cd 161 (rg [oM 162 0,oM 163 12,o 164 (.bin .add 0 (.k (.sc (.c (.int .u32 48)))) (tv 163)),o 165 (.cvI .u8 (tv 164)),o 166 (.idxA 1 (tv 162) (ki 0)),oW 1 166 165] [1000000]) .skip)))))
theorem ZrT:v190=⟨2,(.seq (.region [] [o 17 (.mv (tv 0)),
 o 18 (.len false (tv 17)),
 o 4 (.mv (tv 18))] [] [0,1,4])
 (.seq (.block 0 (.loop Zi1))
 q190)),[],false⟩:=rfl
theorem ZrW (n k:Nat)(hn:n≤24)(hk:k<10 ^ n){i:Nat}{w:Str}(hw:FB n k i w)(hi:i<8){xs:Env}(hx:xs=[]∨xs=[(20,Zah false)])(Q:Ex→St→Prop)
 (hQ:∀ env w',FB n k 0 w'→Q .normal ⟨env,[(0,some (arrB w'))]⟩) :
 wp (K A) q190 Q ⟨(0,.sc (.vw 0 24 0 n))::(1,u64V (k / 10 ^ (n-i)))::(4,intV i)::xs,[(0,some (arrB w))]⟩:=by
 obtain ⟨T,hT⟩:∃ T,(d200:List UInt8)=T:=⟨_,rfl⟩
 obtain ⟨y1,y2⟩:=tab2 T hT
 generalize hu:k / 10 ^ (n-i)=u at *
 by_cases c4:4≤i
 ·by_cases c2:2≤i-4
  ·by_cases c1:1≤i-4-2
   ·have h1:w.length=24:=hw.1
    have hin:i≤n:=hw.2.1
    have ulim:=Zf2 (i:=i) hk hin
    rw [hu] at ulim
    have ulim2:10 ^ i≤10 ^ 7:=Nat.pow_le_pow_right (by omega) (by omega)
    have u32:(u:Int)<4294967296:=by omega
    have g4:(4:Int)≤i:=by omega
    obtain ⟨f4,hu4⟩:=FB4 hn hw (by omega) hu (a1:=u % 10000 / 100) (a0:=u % 10000 % 100) rfl rfl
    have t1:Int.tmod (u:Int) 10000=((u % 10000:Nat):Int):=by rw [Int.tmod_eq_emod_of_nonneg (by omega)];omega
    have t2:Int.tdiv (u:Int) 10000=((u / 10000:Nat):Int):=by rw [Int.tdiv_eq_ediv_of_nonneg (by omega)];omega
    generalize hm4:u / 10000=u4 at *
    generalize hr4:u % 10000=r4 at *
    have t3:Int.tdiv (r4:Int) 100=((r4 / 100:Nat):Int):=by rw [Int.tdiv_eq_ediv_of_nonneg (by omega)];omega
    have t4:Int.tmod (r4:Int) 100=((r4 % 100:Nat):Int):=by rw [Int.tmod_eq_emod_of_nonneg (by omega)];omega
    generalize ha1:r4 / 100=a1 at *
    generalize ha0:r4 % 100=a0 at *
    obtain ⟨ya0,ya1⟩:=y2 a0 (by omega)
    obtain ⟨yb0,yb1⟩:=y2 a1 (by omega)
    have z0:(a0:Int)*2=((a0*2:Nat):Int):=by omega
    have q0:a0*2<199:=by omega
    generalize a0*2=e0 at *
    have w0:(e0:Int)+1=((e0+1:Nat):Int):=by omega
    have q10:e0+1<200:=by omega
    generalize e0+1=ff0 at *
    have z1:(a1:Int)*2=((a1*2:Nat):Int):=by omega
    have q1:a1*2<199:=by omega
    generalize a1*2=e1 at *
    have w1:(e1:Int)+1=((e1+1:Nat):Int):=by omega
    have q11:e1+1<200:=by omega
    generalize e1+1=ff1 at *
    obtain ⟨v0,hv0⟩:=Zaa (l:=w) (i:=i-1) (by first|omega|(simp;omega))
    obtain ⟨v1,hv1⟩:=Zaa (l:=(w.set (i-1) (dg a0))) (i:=i-2) (by first|omega|(simp;omega))
    obtain ⟨v2,hv2⟩:=Zaa (l:=((w.set (i-1) (dg a0)).set (i-2) (dg (a0 / 10)))) (i:=i-3) (by first|omega|(simp;omega))
    obtain ⟨v3,hv3⟩:=Zaa (l:=(((w.set (i-1) (dg a0)).set (i-2) (dg (a0 / 10))).set (i-3) (dg a1))) (i:=i-4) (by first|omega|(simp;omega))
    have iI1:(i:Int)-1=((i-1:Nat):Int):=by omega
    have iI2:(i:Int)-2=((i-2:Nat):Int):=by omega
    have iI3:(i:Int)-3=((i-3:Nat):Int):=by omega
    have iI4:(i:Int)-4=((i-4:Nat):Int):=by omega
    have u4lim:u4<1000:=by omega
    generalize hw4:((((w.set (i-1) (dg a0)).set (i-2) (dg (a0 / 10))).set (i-3) (dg a1)).set (i-4) (dg (a1 / 10)))=w4 at *
    have h14:w4.length=24:=f4.1
    have i4lt:i-4<4:=by omega
    generalize hi4:i-4=i4 at *
    have g2:(2:Int)≤i4:=by omega
    obtain ⟨f2,hu2⟩:=FB2 hn f4 (by omega) hu4 (a0:=u4 % 100) rfl
    have t5:Int.tmod (u4:Int) 100=((u4 % 100:Nat):Int):=by rw [Int.tmod_eq_emod_of_nonneg (by omega)];omega
    have t6:Int.tdiv (u4:Int) 100=((u4 / 100:Nat):Int):=by rw [Int.tdiv_eq_ediv_of_nonneg (by omega)];omega
    generalize hm2:u4 / 100=u2 at *
    generalize hr2:u4 % 100=c0 at *
    obtain ⟨yc0,yc1⟩:=y2 c0 (by omega)
    have z2:(c0:Int)*2=((c0*2:Nat):Int):=by omega
    have q2:c0*2<199:=by omega
    generalize c0*2=e2 at *
    have w2:(e2:Int)+1=((e2+1:Nat):Int):=by omega
    have q12:e2+1<200:=by omega
    generalize e2+1=ff2 at *
    obtain ⟨s0,hs0⟩:=Zaa (l:=w4) (i:=i4-1) (by first|omega|(simp;omega))
    obtain ⟨s1,hs1⟩:=Zaa (l:=(w4.set (i4-1) (dg c0))) (i:=i4-2) (by first|omega|(simp;omega))
    have jI1:(i4:Int)-1=((i4-1:Nat):Int):=by omega
    have jI2:(i4:Int)-2=((i4-2:Nat):Int):=by omega
    generalize hw2:((w4.set (i4-1) (dg c0)).set (i4-2) (dg (c0 / 10)))=w2l at *
    have h12:w2l.length=24:=f2.1
    have i2lt:i4-2<2:=by omega
    generalize hi2:i4-2=i2 at *
    obtain rfl:i2=1:=by omega
    have u1:=Zf2 (i:=1) hk (by omega)
    rw [hu2] at u1
    have u10:u2<10:=by omega
    have f1:=FB1 hn f2 hu2
    have hdg:(48:Int)+u2=((dg u2).toNat:Int):=by unfold dg;rw [Nat.mod_eq_of_lt u10,UInt8.toNat_ofNat',Nat.mod_eq_of_lt (by omega)];omega
    have hdb:(dg u2).toNat<256:=(dg u2).toNat_lt
    generalize dg u2=dgu at *
    obtain ⟨vz,hvz⟩:=Zaa (l:=w2l) (i:=0) (by omega)
    have n1:0<n:=by omega
    have fin:=fun env=>hQ env _ f1
    unfold q190
    rw [hT]
    clear hT
    rcases hx with rfl|rfl <;>
    (simp (maxSteps:=8000000) (disch:=first|omega|(simp;done)|(simp;omega)) [g4,t1,t2,t3,t4,z0,z1,w0,w1,ya0,ya1,yb0,yb1,hv0,hv1,hv2,hv3,iI1,iI2,iI3,iI4,hw4,h14,g2,t5,t6,z2,w2,yc0,yc1,hs0,hs1,jI1,jI2,hw2,h12,hdg,hvz,n1,hn,h1,y1,u32,-getElem?_pos]
     exact fin _)
   ·have h1:w.length=24:=hw.1
    have hin:i≤n:=hw.2.1
    have ulim:=Zf2 (i:=i) hk hin
    rw [hu] at ulim
    have ulim2:10 ^ i≤10 ^ 7:=Nat.pow_le_pow_right (by omega) (by omega)
    have u32:(u:Int)<4294967296:=by omega
    have g4:(4:Int)≤i:=by omega
    obtain ⟨f4,hu4⟩:=FB4 hn hw (by omega) hu (a1:=u % 10000 / 100) (a0:=u % 10000 % 100) rfl rfl
    have t1:Int.tmod (u:Int) 10000=((u % 10000:Nat):Int):=by rw [Int.tmod_eq_emod_of_nonneg (by omega)];omega
    have t2:Int.tdiv (u:Int) 10000=((u / 10000:Nat):Int):=by rw [Int.tdiv_eq_ediv_of_nonneg (by omega)];omega
    generalize hm4:u / 10000=u4 at *
    generalize hr4:u % 10000=r4 at *
    have t3:Int.tdiv (r4:Int) 100=((r4 / 100:Nat):Int):=by rw [Int.tdiv_eq_ediv_of_nonneg (by omega)];omega
    have t4:Int.tmod (r4:Int) 100=((r4 % 100:Nat):Int):=by rw [Int.tmod_eq_emod_of_nonneg (by omega)];omega
    generalize ha1:r4 / 100=a1 at *
    generalize ha0:r4 % 100=a0 at *
    obtain ⟨ya0,ya1⟩:=y2 a0 (by omega)
    obtain ⟨yb0,yb1⟩:=y2 a1 (by omega)
    have z0:(a0:Int)*2=((a0*2:Nat):Int):=by omega
    have q0:a0*2<199:=by omega
    generalize a0*2=e0 at *
    have w0:(e0:Int)+1=((e0+1:Nat):Int):=by omega
    have q10:e0+1<200:=by omega
    generalize e0+1=ff0 at *
    have z1:(a1:Int)*2=((a1*2:Nat):Int):=by omega
    have q1:a1*2<199:=by omega
    generalize a1*2=e1 at *
    have w1:(e1:Int)+1=((e1+1:Nat):Int):=by omega
    have q11:e1+1<200:=by omega
    generalize e1+1=ff1 at *
    obtain ⟨v0,hv0⟩:=Zaa (l:=w) (i:=i-1) (by first|omega|(simp;omega))
    obtain ⟨v1,hv1⟩:=Zaa (l:=(w.set (i-1) (dg a0))) (i:=i-2) (by first|omega|(simp;omega))
    obtain ⟨v2,hv2⟩:=Zaa (l:=((w.set (i-1) (dg a0)).set (i-2) (dg (a0 / 10)))) (i:=i-3) (by first|omega|(simp;omega))
    obtain ⟨v3,hv3⟩:=Zaa (l:=(((w.set (i-1) (dg a0)).set (i-2) (dg (a0 / 10))).set (i-3) (dg a1))) (i:=i-4) (by first|omega|(simp;omega))
    have iI1:(i:Int)-1=((i-1:Nat):Int):=by omega
    have iI2:(i:Int)-2=((i-2:Nat):Int):=by omega
    have iI3:(i:Int)-3=((i-3:Nat):Int):=by omega
    have iI4:(i:Int)-4=((i-4:Nat):Int):=by omega
    have u4lim:u4<1000:=by omega
    generalize hw4:((((w.set (i-1) (dg a0)).set (i-2) (dg (a0 / 10))).set (i-3) (dg a1)).set (i-4) (dg (a1 / 10)))=w4 at *
    have h14:w4.length=24:=f4.1
    have i4lt:i-4<4:=by omega
    generalize hi4:i-4=i4 at *
    have g2:(2:Int)≤i4:=by omega
    obtain ⟨f2,hu2⟩:=FB2 hn f4 (by omega) hu4 (a0:=u4 % 100) rfl
    have t5:Int.tmod (u4:Int) 100=((u4 % 100:Nat):Int):=by rw [Int.tmod_eq_emod_of_nonneg (by omega)];omega
    have t6:Int.tdiv (u4:Int) 100=((u4 / 100:Nat):Int):=by rw [Int.tdiv_eq_ediv_of_nonneg (by omega)];omega
    generalize hm2:u4 / 100=u2 at *
    generalize hr2:u4 % 100=c0 at *
    obtain ⟨yc0,yc1⟩:=y2 c0 (by omega)
    have z2:(c0:Int)*2=((c0*2:Nat):Int):=by omega
    have q2:c0*2<199:=by omega
    generalize c0*2=e2 at *
    have w2:(e2:Int)+1=((e2+1:Nat):Int):=by omega
    have q12:e2+1<200:=by omega
    generalize e2+1=ff2 at *
    obtain ⟨s0,hs0⟩:=Zaa (l:=w4) (i:=i4-1) (by first|omega|(simp;omega))
    obtain ⟨s1,hs1⟩:=Zaa (l:=(w4.set (i4-1) (dg c0))) (i:=i4-2) (by first|omega|(simp;omega))
    have jI1:(i4:Int)-1=((i4-1:Nat):Int):=by omega
    have jI2:(i4:Int)-2=((i4-2:Nat):Int):=by omega
    generalize hw2:((w4.set (i4-1) (dg c0)).set (i4-2) (dg (c0 / 10)))=w2l at *
    have h12:w2l.length=24:=f2.1
    have i2lt:i4-2<2:=by omega
    generalize hi2:i4-2=i2 at *
    obtain rfl:i2=0:=by omega
    have fin:=fun env=>hQ env _ f2
    unfold q190
    rw [hT]
    clear hT
    rcases hx with rfl|rfl <;>
    (simp (maxSteps:=8000000) (disch:=first|omega|(simp;done)|(simp;omega)) [g4,t1,t2,t3,t4,z0,z1,w0,w1,ya0,ya1,yb0,yb1,hv0,hv1,hv2,hv3,iI1,iI2,iI3,iI4,hw4,h14,g2,t5,t6,z2,w2,yc0,yc1,hs0,hs1,jI1,jI2,hw2,h12,hn,h1,y1,u32,-getElem?_pos]
     exact fin _)
  ·by_cases c1:1≤i-4
   ·have h1:w.length=24:=hw.1
    have hin:i≤n:=hw.2.1
    have ulim:=Zf2 (i:=i) hk hin
    rw [hu] at ulim
    have ulim2:10 ^ i≤10 ^ 7:=Nat.pow_le_pow_right (by omega) (by omega)
    have u32:(u:Int)<4294967296:=by omega
    have g4:(4:Int)≤i:=by omega
    obtain ⟨f4,hu4⟩:=FB4 hn hw (by omega) hu (a1:=u % 10000 / 100) (a0:=u % 10000 % 100) rfl rfl
    have t1:Int.tmod (u:Int) 10000=((u % 10000:Nat):Int):=by rw [Int.tmod_eq_emod_of_nonneg (by omega)];omega
    have t2:Int.tdiv (u:Int) 10000=((u / 10000:Nat):Int):=by rw [Int.tdiv_eq_ediv_of_nonneg (by omega)];omega
    generalize hm4:u / 10000=u4 at *
    generalize hr4:u % 10000=r4 at *
    have t3:Int.tdiv (r4:Int) 100=((r4 / 100:Nat):Int):=by rw [Int.tdiv_eq_ediv_of_nonneg (by omega)];omega
    have t4:Int.tmod (r4:Int) 100=((r4 % 100:Nat):Int):=by rw [Int.tmod_eq_emod_of_nonneg (by omega)];omega
    generalize ha1:r4 / 100=a1 at *
    generalize ha0:r4 % 100=a0 at *
    obtain ⟨ya0,ya1⟩:=y2 a0 (by omega)
    obtain ⟨yb0,yb1⟩:=y2 a1 (by omega)
    have z0:(a0:Int)*2=((a0*2:Nat):Int):=by omega
    have q0:a0*2<199:=by omega
    generalize a0*2=e0 at *
    have w0:(e0:Int)+1=((e0+1:Nat):Int):=by omega
    have q10:e0+1<200:=by omega
    generalize e0+1=ff0 at *
    have z1:(a1:Int)*2=((a1*2:Nat):Int):=by omega
    have q1:a1*2<199:=by omega
    generalize a1*2=e1 at *
    have w1:(e1:Int)+1=((e1+1:Nat):Int):=by omega
    have q11:e1+1<200:=by omega
    generalize e1+1=ff1 at *
    obtain ⟨v0,hv0⟩:=Zaa (l:=w) (i:=i-1) (by first|omega|(simp;omega))
    obtain ⟨v1,hv1⟩:=Zaa (l:=(w.set (i-1) (dg a0))) (i:=i-2) (by first|omega|(simp;omega))
    obtain ⟨v2,hv2⟩:=Zaa (l:=((w.set (i-1) (dg a0)).set (i-2) (dg (a0 / 10)))) (i:=i-3) (by first|omega|(simp;omega))
    obtain ⟨v3,hv3⟩:=Zaa (l:=(((w.set (i-1) (dg a0)).set (i-2) (dg (a0 / 10))).set (i-3) (dg a1))) (i:=i-4) (by first|omega|(simp;omega))
    have iI1:(i:Int)-1=((i-1:Nat):Int):=by omega
    have iI2:(i:Int)-2=((i-2:Nat):Int):=by omega
    have iI3:(i:Int)-3=((i-3:Nat):Int):=by omega
    have iI4:(i:Int)-4=((i-4:Nat):Int):=by omega
    have u4lim:u4<1000:=by omega
    generalize hw4:((((w.set (i-1) (dg a0)).set (i-2) (dg (a0 / 10))).set (i-3) (dg a1)).set (i-4) (dg (a1 / 10)))=w4 at *
    have h14:w4.length=24:=f4.1
    have i4lt:i-4<4:=by omega
    generalize hi4:i-4=i4 at *
    have g2:¬(2:Int)≤i4:=by omega
    have g2N:¬2≤i4:=by omega
    obtain rfl:i4=1:=by omega
    have u1:=Zf2 (i:=1) hk (by omega)
    rw [hu4] at u1
    have u10:u4<10:=by omega
    have f1:=FB1 hn f4 hu4
    have hdg:(48:Int)+u4=((dg u4).toNat:Int):=by unfold dg;rw [Nat.mod_eq_of_lt u10,UInt8.toNat_ofNat',Nat.mod_eq_of_lt (by omega)];omega
    have hdb:(dg u4).toNat<256:=(dg u4).toNat_lt
    generalize dg u4=dgu at *
    obtain ⟨vz,hvz⟩:=Zaa (l:=w4) (i:=0) (by omega)
    have n1:0<n:=by omega
    have fin:=fun env=>hQ env _ f1
    unfold q190
    rw [hT]
    clear hT
    rcases hx with rfl|rfl <;>
    (simp (maxSteps:=8000000) (disch:=first|omega|(simp;done)|(simp;omega)) [g4,t1,t2,t3,t4,z0,z1,w0,w1,ya0,ya1,yb0,yb1,hv0,hv1,hv2,hv3,iI1,iI2,iI3,iI4,hw4,h14,g2,g2N,hdg,hvz,n1,hn,h1,y1,u32,-getElem?_pos]
     exact fin _)
   ·have h1:w.length=24:=hw.1
    have hin:i≤n:=hw.2.1
    have ulim:=Zf2 (i:=i) hk hin
    rw [hu] at ulim
    have ulim2:10 ^ i≤10 ^ 7:=Nat.pow_le_pow_right (by omega) (by omega)
    have u32:(u:Int)<4294967296:=by omega
    have g4:(4:Int)≤i:=by omega
    obtain ⟨f4,hu4⟩:=FB4 hn hw (by omega) hu (a1:=u % 10000 / 100) (a0:=u % 10000 % 100) rfl rfl
    have t1:Int.tmod (u:Int) 10000=((u % 10000:Nat):Int):=by rw [Int.tmod_eq_emod_of_nonneg (by omega)];omega
    have t2:Int.tdiv (u:Int) 10000=((u / 10000:Nat):Int):=by rw [Int.tdiv_eq_ediv_of_nonneg (by omega)];omega
    generalize hm4:u / 10000=u4 at *
    generalize hr4:u % 10000=r4 at *
    have t3:Int.tdiv (r4:Int) 100=((r4 / 100:Nat):Int):=by rw [Int.tdiv_eq_ediv_of_nonneg (by omega)];omega
    have t4:Int.tmod (r4:Int) 100=((r4 % 100:Nat):Int):=by rw [Int.tmod_eq_emod_of_nonneg (by omega)];omega
    generalize ha1:r4 / 100=a1 at *
    generalize ha0:r4 % 100=a0 at *
    obtain ⟨ya0,ya1⟩:=y2 a0 (by omega)
    obtain ⟨yb0,yb1⟩:=y2 a1 (by omega)
    have z0:(a0:Int)*2=((a0*2:Nat):Int):=by omega
    have q0:a0*2<199:=by omega
    generalize a0*2=e0 at *
    have w0:(e0:Int)+1=((e0+1:Nat):Int):=by omega
    have q10:e0+1<200:=by omega
    generalize e0+1=ff0 at *
    have z1:(a1:Int)*2=((a1*2:Nat):Int):=by omega
    have q1:a1*2<199:=by omega
    generalize a1*2=e1 at *
    have w1:(e1:Int)+1=((e1+1:Nat):Int):=by omega
    have q11:e1+1<200:=by omega
    generalize e1+1=ff1 at *
    obtain ⟨v0,hv0⟩:=Zaa (l:=w) (i:=i-1) (by first|omega|(simp;omega))
    obtain ⟨v1,hv1⟩:=Zaa (l:=(w.set (i-1) (dg a0))) (i:=i-2) (by first|omega|(simp;omega))
    obtain ⟨v2,hv2⟩:=Zaa (l:=((w.set (i-1) (dg a0)).set (i-2) (dg (a0 / 10)))) (i:=i-3) (by first|omega|(simp;omega))
    obtain ⟨v3,hv3⟩:=Zaa (l:=(((w.set (i-1) (dg a0)).set (i-2) (dg (a0 / 10))).set (i-3) (dg a1))) (i:=i-4) (by first|omega|(simp;omega))
    have iI1:(i:Int)-1=((i-1:Nat):Int):=by omega
    have iI2:(i:Int)-2=((i-2:Nat):Int):=by omega
    have iI3:(i:Int)-3=((i-3:Nat):Int):=by omega
    have iI4:(i:Int)-4=((i-4:Nat):Int):=by omega
    have u4lim:u4<1000:=by omega
    generalize hw4:((((w.set (i-1) (dg a0)).set (i-2) (dg (a0 / 10))).set (i-3) (dg a1)).set (i-4) (dg (a1 / 10)))=w4 at *
    have h14:w4.length=24:=f4.1
    have i4lt:i-4<4:=by omega
    generalize hi4:i-4=i4 at *
    have g2:¬(2:Int)≤i4:=by omega
    have g2N:¬2≤i4:=by omega
    obtain rfl:i4=0:=by omega
    have fin:=fun env=>hQ env _ f4
    unfold q190
    rw [hT]
    clear hT
    rcases hx with rfl|rfl <;>
    (simp (maxSteps:=8000000) (disch:=first|omega|(simp;done)|(simp;omega)) [g4,t1,t2,t3,t4,z0,z1,w0,w1,ya0,ya1,yb0,yb1,hv0,hv1,hv2,hv3,iI1,iI2,iI3,iI4,hw4,h14,g2,g2N,hn,h1,y1,u32,-getElem?_pos]
     exact fin _)
 ·by_cases c2:2≤i
  ·by_cases c1:1≤i-2
   ·have h1:w.length=24:=hw.1
    have hin:i≤n:=hw.2.1
    have ulim:=Zf2 (i:=i) hk hin
    rw [hu] at ulim
    have ulim2:10 ^ i≤10 ^ 7:=Nat.pow_le_pow_right (by omega) (by omega)
    have u32:(u:Int)<4294967296:=by omega
    have g4:¬(4:Int)≤i:=by omega
    have g4N:¬4≤i:=by omega
    have g2:(2:Int)≤i:=by omega
    obtain ⟨f2,hu2⟩:=FB2 hn hw (by omega) hu (a0:=u % 100) rfl
    have t5:Int.tmod (u:Int) 100=((u % 100:Nat):Int):=by rw [Int.tmod_eq_emod_of_nonneg (by omega)];omega
    have t6:Int.tdiv (u:Int) 100=((u / 100:Nat):Int):=by rw [Int.tdiv_eq_ediv_of_nonneg (by omega)];omega
    generalize hm2:u / 100=u2 at *
    generalize hr2:u % 100=c0 at *
    obtain ⟨yc0,yc1⟩:=y2 c0 (by omega)
    have z2:(c0:Int)*2=((c0*2:Nat):Int):=by omega
    have q2:c0*2<199:=by omega
    generalize c0*2=e2 at *
    have w2:(e2:Int)+1=((e2+1:Nat):Int):=by omega
    have q12:e2+1<200:=by omega
    generalize e2+1=ff2 at *
    obtain ⟨s0,hs0⟩:=Zaa (l:=w) (i:=i-1) (by first|omega|(simp;omega))
    obtain ⟨s1,hs1⟩:=Zaa (l:=(w.set (i-1) (dg c0))) (i:=i-2) (by first|omega|(simp;omega))
    have jI1:(i:Int)-1=((i-1:Nat):Int):=by omega
    have jI2:(i:Int)-2=((i-2:Nat):Int):=by omega
    generalize hw2:((w.set (i-1) (dg c0)).set (i-2) (dg (c0 / 10)))=w2l at *
    have h12:w2l.length=24:=f2.1
    have i2lt:i-2<2:=by omega
    generalize hi2:i-2=i2 at *
    obtain rfl:i2=1:=by omega
    have u1:=Zf2 (i:=1) hk (by omega)
    rw [hu2] at u1
    have u10:u2<10:=by omega
    have f1:=FB1 hn f2 hu2
    have hdg:(48:Int)+u2=((dg u2).toNat:Int):=by unfold dg;rw [Nat.mod_eq_of_lt u10,UInt8.toNat_ofNat',Nat.mod_eq_of_lt (by omega)];omega
    have hdb:(dg u2).toNat<256:=(dg u2).toNat_lt
    generalize dg u2=dgu at *
    obtain ⟨vz,hvz⟩:=Zaa (l:=w2l) (i:=0) (by omega)
    have n1:0<n:=by omega
    have fin:=fun env=>hQ env _ f1
    unfold q190
    rw [hT]
    clear hT
    rcases hx with rfl|rfl <;>
    (simp (maxSteps:=8000000) (disch:=first|omega|(simp;done)|(simp;omega)) [g4,g4N,g2,t5,t6,z2,w2,yc0,yc1,hs0,hs1,jI1,jI2,hw2,h12,hdg,hvz,n1,hn,h1,y1,u32,-getElem?_pos]
     exact fin _)
   ·have h1:w.length=24:=hw.1
    have hin:i≤n:=hw.2.1
    have ulim:=Zf2 (i:=i) hk hin
    rw [hu] at ulim
    have ulim2:10 ^ i≤10 ^ 7:=Nat.pow_le_pow_right (by omega) (by omega)
    have u32:(u:Int)<4294967296:=by omega
    have g4:¬(4:Int)≤i:=by omega
    have g4N:¬4≤i:=by omega
    have g2:(2:Int)≤i:=by omega
    obtain ⟨f2,hu2⟩:=FB2 hn hw (by omega) hu (a0:=u % 100) rfl
    have t5:Int.tmod (u:Int) 100=((u % 100:Nat):Int):=by rw [Int.tmod_eq_emod_of_nonneg (by omega)];omega
    have t6:Int.tdiv (u:Int) 100=((u / 100:Nat):Int):=by rw [Int.tdiv_eq_ediv_of_nonneg (by omega)];omega
    generalize hm2:u / 100=u2 at *
    generalize hr2:u % 100=c0 at *
    obtain ⟨yc0,yc1⟩:=y2 c0 (by omega)
    have z2:(c0:Int)*2=((c0*2:Nat):Int):=by omega
    have q2:c0*2<199:=by omega
    generalize c0*2=e2 at *
    have w2:(e2:Int)+1=((e2+1:Nat):Int):=by omega
    have q12:e2+1<200:=by omega
    generalize e2+1=ff2 at *
    obtain ⟨s0,hs0⟩:=Zaa (l:=w) (i:=i-1) (by first|omega|(simp;omega))
    obtain ⟨s1,hs1⟩:=Zaa (l:=(w.set (i-1) (dg c0))) (i:=i-2) (by first|omega|(simp;omega))
    have jI1:(i:Int)-1=((i-1:Nat):Int):=by omega
    have jI2:(i:Int)-2=((i-2:Nat):Int):=by omega
    generalize hw2:((w.set (i-1) (dg c0)).set (i-2) (dg (c0 / 10)))=w2l at *
    have h12:w2l.length=24:=f2.1
    have i2lt:i-2<2:=by omega
    generalize hi2:i-2=i2 at *
    obtain rfl:i2=0:=by omega
    have fin:=fun env=>hQ env _ f2
    unfold q190
    rw [hT]
    clear hT
    rcases hx with rfl|rfl <;>
    (simp (maxSteps:=8000000) (disch:=first|omega|(simp;done)|(simp;omega)) [g4,g4N,g2,t5,t6,z2,w2,yc0,yc1,hs0,hs1,jI1,jI2,hw2,h12,hn,h1,y1,u32,-getElem?_pos]
     exact fin _)
  ·by_cases c1:1≤i
   ·have h1:w.length=24:=hw.1
    have hin:i≤n:=hw.2.1
    have ulim:=Zf2 (i:=i) hk hin
    rw [hu] at ulim
    have ulim2:10 ^ i≤10 ^ 7:=Nat.pow_le_pow_right (by omega) (by omega)
    have u32:(u:Int)<4294967296:=by omega
    have g4:¬(4:Int)≤i:=by omega
    have g4N:¬4≤i:=by omega
    have g2:¬(2:Int)≤i:=by omega
    have g2N:¬2≤i:=by omega
    obtain rfl:i=1:=by omega
    have u1:=Zf2 (i:=1) hk (by omega)
    rw [hu] at u1
    have u10:u<10:=by omega
    have f1:=FB1 hn hw hu
    have hdg:(48:Int)+u=((dg u).toNat:Int):=by unfold dg;rw [Nat.mod_eq_of_lt u10,UInt8.toNat_ofNat',Nat.mod_eq_of_lt (by omega)];omega
    have hdb:(dg u).toNat<256:=(dg u).toNat_lt
    generalize dg u=dgu at *
    obtain ⟨vz,hvz⟩:=Zaa (l:=w) (i:=0) (by omega)
    have n1:0<n:=by omega
    have fin:=fun env=>hQ env _ f1
    unfold q190
    rw [hT]
    clear hT
    rcases hx with rfl|rfl <;>
    (simp (maxSteps:=8000000) (disch:=first|omega|(simp;done)|(simp;omega)) [g4,g4N,g2,g2N,hdg,hvz,n1,hn,h1,y1,u32,-getElem?_pos]
     exact fin _)
   ·have h1:w.length=24:=hw.1
    have hin:i≤n:=hw.2.1
    have ulim:=Zf2 (i:=i) hk hin
    rw [hu] at ulim
    have ulim2:10 ^ i≤10 ^ 7:=Nat.pow_le_pow_right (by omega) (by omega)
    have u32:(u:Int)<4294967296:=by omega
    have g4:¬(4:Int)≤i:=by omega
    have g4N:¬4≤i:=by omega
    have g2:¬(2:Int)≤i:=by omega
    have g2N:¬2≤i:=by omega
    obtain rfl:i=0:=by omega
    have fin:=fun env=>hQ env _ hw
    unfold q190
    rw [hT]
    clear hT
    rcases hx with rfl|rfl <;>
    (simp (maxSteps:=8000000) (disch:=first|omega|(simp;done)|(simp;omega)) [g4,g4N,g2,g2N,hn,h1,y1,u32,-getElem?_pos]
     exact fin _)
theorem ZtC (n k:Nat)(hn:n≤24)(hk:k<10 ^ n)(hk2:k<18446744073709551616){w:Str}(hw:w.length=24) :
 ∃ r,(∃ w':Str,w'.length=24∧w'.take n=pd n k∧r=(retV,[arrB w']))∧(K A).call 190 [.sc (.vw 0 24 0 n),u64V k] [arrB w]=some r:=by
 refine ZcI _ (vf:=v190) (by kernel_rfl) rfl (by simp) ?_
 generalize hQ:Zfq v190.keep [arrB w].length v190.results (fun r=>∃ w':Str,w'.length=24∧w'.take n=pd n k∧r=(retV,[arrB w']))=Q
 have hret:∀ env w',FB n k 0 w'→Q .normal ⟨env,[(0,some (arrB w'))]⟩:=by
  intro env w' h1
  rw [←hQ]
  show Zfq false 1 [] _ .normal _
  rw [endsQ_normal]
  simp [retV,h1.1]
  exact ⟨w',h1.1,FB0 h1,rfl⟩
 clear hQ
 have hcut:=cut_b (w:=w) (n:=n) (by omega)
 rw [ZrT]
 simp (maxSteps:=4000000) (disch:=first|omega|(simp;done)|(simp;omega)) [hcut,hw,hn,-getElem?_pos]
 refine Zam (fun r s=>∃ (i:Nat) (w:Str),i+8*r=n∧FB n k i w∧s=⟨[(0,.sc (.vw 0 24 0 n)),(1,u64V (k / 10 ^ (n-i))),(4,intV i)],[(0,some (arrB w))]⟩) (n / 8)
  ⟨n,w,by omega,⟨hw,Nat.le_refl _,by rw [Nat.sub_self,List.drop_of_length_le (by simp;omega)];rfl⟩,by rw [Nat.sub_self,Nat.pow_zero,Nat.div_one]⟩ ?_ ?_
 ·rintro r s hr ⟨i,w,hi,hf,rfl⟩
  refine Zqj (A:=A) n k hn hk2 hf (by omega) _ ?_
  intro w' hf'
  exact .inl ⟨rfl,i-8,w',by omega,hf',rfl⟩
 ·rintro s ⟨i,w,hi,hf,rfl⟩
  have hi8:i<8:=by omega
  have hi8I:¬(8:Int)≤i:=by omega
  have hi8N:¬8≤i:=by omega
  have fin:=ZrW (A:=A) n k hn hk hf hi8 (xs:=[(20,Zah false)]) (.inr rfl) Q hret
  unfold Zi1
  simp (maxSteps:=4000000) (disch:=first|omega|(simp;done)|(simp;omega)) [hi8,hi8I,hi8N,-getElem?_pos]
  exact fin
theorem Zrh (k:Nat)(hk:k<18446744073709551616):(K A).call 75 [u64V k,intV 10] []=some (strV (numS k),[]):=by
 by_cases h100:k<100
 ·exact fmt75 k h100
 have h137:(K A).call 137 [u64V k,intV 10] []=some (strV (numS k),[]):=by
  refine Zan (vf:=v137) (by kernel_rfl) rfl (by simp) ?_
  have h1:¬(k:Int)<100:=by omega
  obtain ⟨d1,d2,d3,d4⟩:=ZmF (k:=k) (by omega) hk
  have hnd:=Zsb (A:=A) k hk
  obtain ⟨_,⟨w',k1,k2,rfl⟩,hc⟩:=ZtC (A:=A) (ndig k) k (by omega) d4 hk (w:=List.replicate 24 0) (by simp)
  have hnum:pd (ndig k) k=numS k:=by
   obtain ⟨m,hm⟩:∃ m,ndig k=m+1:=⟨ndig k-1,by omega⟩
   rw [hm] at d3 d4 ⊢
   exact Zrl m k d3 d4
  have hpl:=Zq3 (ndig k) k
  rw [hnum] at k2 hpl
  generalize ndig k=n at *
  generalize hS:numS k=S at *
  have hSn:S≠[]:=by
   intro h0
   rw [h0] at hpl
   simp at hpl
   omega
  have hz:List.replicate 24 [W.c (.int .u8 0)]=wr (Zdr (List.replicate 24 0)):=zero_b 24
  have hmx:24≤Zaw:=by decide
  have hzl:(List.replicate 24 (0:UInt8)).length=24:=by simp
  generalize List.replicate 24 (0:UInt8)=z0 at *
  have hcut:=cut_b (w:=w') (n:=n) (by omega)
  rw [k2] at hcut
  unfold v137
  simp (maxSteps:=4000000) (disch:=first|omega|(simp;done)|(simp;omega)) [h1,hnd,hz,hmx,hc,hcut,hzl,k1,hSn,retV,V.ren,-getElem?_pos,-List.reduceReplicate]
 refine Zan (vf:=v75) (by kernel_rfl) rfl (by simp) ?_
 unfold v75
 simp [h137]
end Go.Vs.Tryz
namespace Go.Vs
open Go
@[simp] theorem b_ifw5 {t:TypeId} {o:Bool} {r:List W}:binV .eql 5 (.sc (.ifw t o r)) (.sc (.c .nilif))=some (.sc (.c (.bool false)),[]):=rfl
@[simp] theorem b_nilif5:binV .eql 5 (.sc (.c .nilif)) (.sc (.c .nilif))=some (.sc (.c (.bool true)),[]):=rfl
end Go.Vs
namespace Go.Vs.Tryz
open Go Go.Vs
variable {A:Zac}
abbrev badR (s:Str):V × List Obj:=(.tu [u64V 0,.sc (.ifw 212 true [.ptr 0 0])],[.box [.c (.str [80,97,114,115,101,85,105,110,116]),.c (.str s),.c (errCell ZfE)]])
abbrev okR (n:Nat):V × List Obj:=(.tu [u64V n,.sc (.c .nilif)],[])
def NameP (A:Zac)(s:Str)(m:Option Nat):Prop:=∃ dg is,(K A).call 73 [strV s,strV [118]] []=some (.tu [strV dg,Zah is],[]) ∧
 (((∃ s',(K A).call 74 [strV dg,intV 10,intV 64] []=some (badR s'))∧m=none) ∨
  (∃ n,(K A).call 74 [strV dg,intV 10,intV 64] []=some (okR n)∧is=true∧0<n∧(K A).call 75 [u64V n,intV 10] []=some (strV dg,[])∧m=some n))
def names9:List Str:=Za8++[[118,51]]
def numN (s:Str):Option Nat:=if s=[118,49] then some 1 else if s=[118,50] then some 2 else if s=[118,51] then some 3 else none
end Go.Vs.Tryz
