/- Numbers as text, walked: FormatUint (written by wip/gen/mkQ8.py). -/
import Derived.Test.YtccmnfpbcmccpaaGreatDoorRDs
set_option linter.unusedSimpArgs false
set_option linter.unusedVariables false
set_option linter.deprecated false
set_option maxRecDepth 9999
set_option maxHeartbeats 32000000
namespace Go.Vs.Tryz
open Go Go.Vs
variable {A:Zab}
theorem ZhD {n k i:Nat}(hk:k<10 ^ n)(hi:i<=n):k / 10 ^ (n-i)<10 ^ i:=by
 have h:10 ^ n=10 ^ (n-i)*10 ^ i:=by rw[<-Nat.pow_add,show n-i+i=n by omega]
 rw[h]at hk;exact Nat.div_lt_of_lt_mul hk
def q190:VCode:=(sq [oM 96 1,o 97 (.cvI .u32 (tv 96)),oM 12 97] [0,4,12] (.seq (sq [oM 98 4,oK 99 .geq 98 4] [0,4,12,99] (cd 99 (sq [oM 100 12,o 101 (.bin .rem 0 (tv 100) (.k (.sc (.c (.int .u32 10000))))),oM 13 101] [0,4,12,13] (sq [oM 102 12,o 103 (.bin .quo 0 (tv 102) (.k (.sc (.c (.int .u32 10000))))),oM 12 103] [0,4,12,13] (sq [oM 104 13,o 105 (.bin .quo 0 (tv 104) (.k (.sc (.c (.int .u32 100))))),o 106 (.bin .mul 0 (tv 105) (.k (.sc (.c (.int .u32 2))))),oM 107 13,o 108 (.bin .rem 0 (tv 107) (.k (.sc (.c (.int .u32 100))))),o 109 (.bin .mul 0 (tv 108) (.k (.sc (.c (.int .u32 2))))),oM 14 106,oM 15 109] [0,4,12,14,15] (sq [oM 110 0,oM 111 4,oK 112 .sub 111 1,oM 113 0,oM 114 4,oK 115 .sub 114 2,oM 116 15,o 117 (.bin .add 0 (tv 116) (.k (.sc (.c (.int .u32 1))))),o 118 (.idxS (.k (.sc (.c (.str d200)))) (tv 117)),oM 119 15,o 120 (.idxS (.k (.sc (.c (.str d200)))) (tv 119)),oX 121 1 110 112,oW 1 121 118,oX 122 1 113 115,oW 1 122 120] [0,4,12,14] (sq [oM 123 0,oM 124 4,oK 125 .sub 124 3,oM 126 0,oM 127 4,oK 128 .sub 127 4,oM 129 14,o 130 (.bin .add 0 (tv 129) (.k (.sc (.c (.int .u32 1))))),o 131 (.idxS (.k (.sc (.c (.str d200)))) (tv 130)),oM 132 14,o 133 (.idxS (.k (.sc (.c (.str d200)))) (tv 132)),oX 134 1 123 125,oW 1 134 131,oX 135 1 126 128,oW 1 135 133] [0,4,12] (rg [oM 136 4,oK 137 .sub 136 4,oM 4 137] [0,4,12])))))) .skip)) (.seq (sq [oM 138 4,oK 139 .geq 138 2] [0,4,12,139] (cd 139 (sq [oM 140 12,o 141 (.bin .rem 0 (tv 140) (.k (.sc (.c (.int .u32 100))))),o 142 (.bin .mul 0 (tv 141) (.k (.sc (.c (.int .u32 2))))),oM 16 142] [0,4,12,16] (sq [oM 143 12,o 144 (.bin .quo 0 (tv 143) (.k (.sc (.c (.int .u32 100))))),oM 12 144] [0,4,12,16] (sq [oM 145 0,oM 146 4,oK 147 .sub 146 1,oM 148 0,oM 149 4,oK 150 .sub 149 2,oM 151 16,o 152 (.bin .add 0 (tv 151) (.k (.sc (.c (.int .u32 1))))),o 153 (.idxS (.k (.sc (.c (.str d200)))) (tv 152)),oM 154 16,o 155 (.idxS (.k (.sc (.c (.str d200)))) (tv 154)),oX 156 1 145 147,oW 1 156 153,oX 157 1 148 150,oW 1 157 155] [0,4,12] (rg [oM 158 4,oK 159 .sub 158 2,oM 4 159] [0,4,12])))) .skip)) (sq [oM 160 4,oK 161 .gtr 160 0] [0,12,161] (cd 161 (rg [oM 162 0,oM 163 12,o 164 (.bin .add 0 (.k (.sc (.c (.int .u32 48)))) (tv 163)),o 165 (.cvI .u8 (tv 164)),o 166 (.idxA 1 (tv 162) (ki 0)),oW 1 166 165] [1000000]) .skip)))))
theorem ZzQ:v268=⟨2,(.seq (.region [] [o 17 (.mv (tv 0)),
 o 18 (.len false (tv 17)),
 o 4 (.mv (tv 18))] [] [0,1,4])
 (.seq (.block 0 (.loop ZmF))
 q190)),[],false⟩:=rfl
theorem ZzN (n k:Nat)(hn:n<=24)(hk:k<10 ^ n){i:Nat}{w:Str}(hw:FB n k i w)(hi:i<8){xs:Env}(hx:xs=[]\/xs=[(20,Zae false)])(Q:Ex->St->Prop)
 (hQ:∀env w',FB n k 0 w'->Q .normal ⟨env,[(0,some (arrB w'))]⟩):
 wp (K A) q190 Q ⟨(0,.sc (.vw 0 24 0 n))::(1,u64V (k / 10 ^ (n-i)))::(4,intV i)::xs,[(0,some (arrB w))]⟩:=by
 obtain⟨T,hT⟩:∃T,(d200:List UInt8)=T:=⟨_,rfl⟩;obtain⟨y1,y2⟩:=tab2 T hT;generalize hu:k / 10 ^ (n-i)=u at *
 by_cases c4:4<=i
 .by_cases c2:2<=i-4
  .by_cases c1:1<=i-4-2
   .have h1:w.length=24:=hw.1
    have hin:i<=n:=hw.2.1;have ulim:=ZhD (i:=i) hk hin;rw[hu]at ulim;have ulim2:10 ^ i<=10 ^ 7:=qal (by omega) (by omega);have u32:(u:Int)<4294967296:=(by omega);have g4:(4:Int)<=i:=(by omega);obtain⟨f4,hu4⟩:=FB4 hn hw (by omega) hu (a1:=u % 10000 / 100) (a0:=u % 10000 % 100) rfl rfl;have t1:Int.tmod (u:Int) 10000=((u % 10000:Nat):Int):=(by rw[qB (by omega)];omega)
    have t2:Int.tdiv (u:Int) 10000=((u / 10000:Nat):Int):=(by rw[qt (by omega)];omega);generalize hm4:u / 10000=u4 at *
    generalize hr4:u % 10000=r4 at *
    have t3:Int.tdiv (r4:Int) 100=((r4 / 100:Nat):Int):=(by rw[qt (by omega)];omega);have t4:Int.tmod (r4:Int) 100=((r4 % 100:Nat):Int):=(by rw[qB (by omega)];omega);generalize ha1:r4 / 100=a1 at *
    generalize ha0:r4 % 100=a0 at *
    obtain⟨ya0,ya1⟩:=y2 a0 (by omega);obtain⟨yb0,yb1⟩:=y2 a1 (by omega);have z0:(a0:Int)*2=((a0*2:Nat):Int):=(by omega);have q0:a0*2<199:=(by omega);generalize a0*2=e0 at *
    have w0:(e0:Int)+1=((e0+1:Nat):Int):=(by omega);have q10:e0+1<200:=(by omega);generalize e0+1=ff0 at *
    have z1:(a1:Int)*2=((a1*2:Nat):Int):=(by omega);have q1:a1*2<199:=(by omega);generalize a1*2=e1 at *
    have w1:(e1:Int)+1=((e1+1:Nat):Int):=(by omega);have q11:e1+1<200:=(by omega);generalize e1+1=ff1 at *
    obtain⟨v0,hv0⟩:=Zaa (l:=w) (i:=i-1) (by first|omega|(simp;omega));obtain⟨v1,hv1⟩:=Zaa (l:=(w.set (i-1) (dg a0))) (i:=i-2) (by first|omega|(simp;omega));obtain⟨v2,hv2⟩:=Zaa (l:=((w.set (i-1) (dg a0)).set (i-2) (dg (a0 / 10)))) (i:=i-3) (by first|omega|(simp;omega));obtain⟨v3,hv3⟩:=Zaa (l:=(((w.set (i-1) (dg a0)).set (i-2) (dg (a0 / 10))).set (i-3) (dg a1))) (i:=i-4) (by first|omega|(simp;omega))
    have iI1:(i:Int)-1=((i-1:Nat):Int):=(by omega);have iI2:(i:Int)-2=((i-2:Nat):Int):=(by omega);have iI3:(i:Int)-3=((i-3:Nat):Int):=(by omega);have iI4:(i:Int)-4=((i-4:Nat):Int):=(by omega);have u4lim:u4<1000:=(by omega);generalize hw4:((((w.set (i-1) (dg a0)).set (i-2) (dg (a0 / 10))).set (i-3) (dg a1)).set (i-4) (dg (a1 / 10)))=w4 at *
    have h14:w4.length=24:=f4.1;have i4lt:i-4<4:=(by omega);generalize hi4:i-4=i4 at *
    have g2:(2:Int)<=i4:=(by omega);obtain⟨f2,hu2⟩:=FB2 hn f4 (by omega) hu4 (a0:=u4 % 100) rfl;have t5:Int.tmod (u4:Int) 100=((u4 % 100:Nat):Int):=(by rw[qB (by omega)];omega);have t6:Int.tdiv (u4:Int) 100=((u4 / 100:Nat):Int):=(by rw[qt (by omega)];omega);generalize hm2:u4 / 100=u2 at *
    generalize hr2:u4 % 100=c0 at *
    obtain⟨yc0,yc1⟩:=y2 c0 (by omega);have z2:(c0:Int)*2=((c0*2:Nat):Int):=(by omega);have q2:c0*2<199:=(by omega);generalize c0*2=e2 at *
    have w2:(e2:Int)+1=((e2+1:Nat):Int):=(by omega);have q12:e2+1<200:=(by omega);generalize e2+1=ff2 at *
    obtain⟨s0,hs0⟩:=Zaa (l:=w4) (i:=i4-1) (by first|omega|(simp;omega));obtain⟨s1,hs1⟩:=Zaa (l:=(w4.set (i4-1) (dg c0))) (i:=i4-2) (by first|omega|(simp;omega));have jI1:(i4:Int)-1=((i4-1:Nat):Int):=(by omega);have jI2:(i4:Int)-2=((i4-2:Nat):Int):=(by omega);generalize hw2:((w4.set (i4-1) (dg c0)).set (i4-2) (dg (c0 / 10)))=w2l at *
    have h12:w2l.length=24:=f2.1;have i2lt:i4-2<2:=(by omega);generalize hi2:i4-2=i2 at *
    obtain rfl:i2=1:=(by omega);have u1:=ZhD (i:=1) hk (by omega);rw[hu2]at u1;have u10:u2<10:=(by omega);have f1:=FB1 hn f2 hu2;have hdg:(48:Int)+u2=((dg u2).toNat:Int):=(by unfold dg;rw[qQ u10,UInt8.toNat_ofNat',qQ (by omega)];omega);have hdb:(dg u2).toNat<256:=(dg u2).toNat_lt;generalize dg u2=dgu at *
    obtain⟨vz,hvz⟩:=Zaa (l:=w2l) (i:=0) (by omega);have n1:0<n:=(by omega);have fin:=fun env=>hQ env _ f1;unfold q190;rw[hT];clear hT;rcases hx with rfl|rfl <;>
    (simp (maxSteps:=8000000) (disch:=first|exact zd|fail) [g4,t1,t2,t3,t4,z0,z1,w0,w1,ya0,ya1,yb0,yb1,hv0,hv1,hv2,hv3,iI1,iI2,iI3,iI4,hw4,h14,g2,t5,t6,z2,w2,yc0,yc1,hs0,hs1,jI1,jI2,hw2,h12,hdg,hvz,n1,hn,h1,y1,u32,-getElem?_pos]
     exact fin _)
   .have h1:w.length=24:=hw.1
    have hin:i<=n:=hw.2.1;have ulim:=ZhD (i:=i) hk hin;rw[hu]at ulim;have ulim2:10 ^ i<=10 ^ 7:=qal (by omega) (by omega);have u32:(u:Int)<4294967296:=(by omega);have g4:(4:Int)<=i:=(by omega);obtain⟨f4,hu4⟩:=FB4 hn hw (by omega) hu (a1:=u % 10000 / 100) (a0:=u % 10000 % 100) rfl rfl;have t1:Int.tmod (u:Int) 10000=((u % 10000:Nat):Int):=(by rw[qB (by omega)];omega)
    have t2:Int.tdiv (u:Int) 10000=((u / 10000:Nat):Int):=(by rw[qt (by omega)];omega);generalize hm4:u / 10000=u4 at *
    generalize hr4:u % 10000=r4 at *
    have t3:Int.tdiv (r4:Int) 100=((r4 / 100:Nat):Int):=(by rw[qt (by omega)];omega);have t4:Int.tmod (r4:Int) 100=((r4 % 100:Nat):Int):=(by rw[qB (by omega)];omega);generalize ha1:r4 / 100=a1 at *
    generalize ha0:r4 % 100=a0 at *
    obtain⟨ya0,ya1⟩:=y2 a0 (by omega);obtain⟨yb0,yb1⟩:=y2 a1 (by omega);have z0:(a0:Int)*2=((a0*2:Nat):Int):=(by omega);have q0:a0*2<199:=(by omega);generalize a0*2=e0 at *
    have w0:(e0:Int)+1=((e0+1:Nat):Int):=(by omega);have q10:e0+1<200:=(by omega);generalize e0+1=ff0 at *
    have z1:(a1:Int)*2=((a1*2:Nat):Int):=(by omega);have q1:a1*2<199:=(by omega);generalize a1*2=e1 at *
    have w1:(e1:Int)+1=((e1+1:Nat):Int):=(by omega);have q11:e1+1<200:=(by omega);generalize e1+1=ff1 at *
    obtain⟨v0,hv0⟩:=Zaa (l:=w) (i:=i-1) (by first|omega|(simp;omega));obtain⟨v1,hv1⟩:=Zaa (l:=(w.set (i-1) (dg a0))) (i:=i-2) (by first|omega|(simp;omega));obtain⟨v2,hv2⟩:=Zaa (l:=((w.set (i-1) (dg a0)).set (i-2) (dg (a0 / 10)))) (i:=i-3) (by first|omega|(simp;omega));obtain⟨v3,hv3⟩:=Zaa (l:=(((w.set (i-1) (dg a0)).set (i-2) (dg (a0 / 10))).set (i-3) (dg a1))) (i:=i-4) (by first|omega|(simp;omega))
    have iI1:(i:Int)-1=((i-1:Nat):Int):=(by omega);have iI2:(i:Int)-2=((i-2:Nat):Int):=(by omega);have iI3:(i:Int)-3=((i-3:Nat):Int):=(by omega);have iI4:(i:Int)-4=((i-4:Nat):Int):=(by omega);have u4lim:u4<1000:=(by omega);generalize hw4:((((w.set (i-1) (dg a0)).set (i-2) (dg (a0 / 10))).set (i-3) (dg a1)).set (i-4) (dg (a1 / 10)))=w4 at *
    have h14:w4.length=24:=f4.1;have i4lt:i-4<4:=(by omega);generalize hi4:i-4=i4 at *
    have g2:(2:Int)<=i4:=(by omega);obtain⟨f2,hu2⟩:=FB2 hn f4 (by omega) hu4 (a0:=u4 % 100) rfl;have t5:Int.tmod (u4:Int) 100=((u4 % 100:Nat):Int):=(by rw[qB (by omega)];omega);have t6:Int.tdiv (u4:Int) 100=((u4 / 100:Nat):Int):=(by rw[qt (by omega)];omega);generalize hm2:u4 / 100=u2 at *
    generalize hr2:u4 % 100=c0 at *
    obtain⟨yc0,yc1⟩:=y2 c0 (by omega);have z2:(c0:Int)*2=((c0*2:Nat):Int):=(by omega);have q2:c0*2<199:=(by omega);generalize c0*2=e2 at *
    have w2:(e2:Int)+1=((e2+1:Nat):Int):=(by omega);have q12:e2+1<200:=(by omega);generalize e2+1=ff2 at *
    obtain⟨s0,hs0⟩:=Zaa (l:=w4) (i:=i4-1) (by first|omega|(simp;omega));obtain⟨s1,hs1⟩:=Zaa (l:=(w4.set (i4-1) (dg c0))) (i:=i4-2) (by first|omega|(simp;omega));have jI1:(i4:Int)-1=((i4-1:Nat):Int):=(by omega);have jI2:(i4:Int)-2=((i4-2:Nat):Int):=(by omega);generalize hw2:((w4.set (i4-1) (dg c0)).set (i4-2) (dg (c0 / 10)))=w2l at *
    have h12:w2l.length=24:=f2.1;have i2lt:i4-2<2:=(by omega);generalize hi2:i4-2=i2 at *
    obtain rfl:i2=0:=(by omega);have fin:=fun env=>hQ env _ f2;unfold q190;rw[hT];clear hT;rcases hx with rfl|rfl <;>
    (simp (maxSteps:=8000000) (disch:=first|exact zd|fail) [g4,t1,t2,t3,t4,z0,z1,w0,w1,ya0,ya1,yb0,yb1,hv0,hv1,hv2,hv3,iI1,iI2,iI3,iI4,hw4,h14,g2,t5,t6,z2,w2,yc0,yc1,hs0,hs1,jI1,jI2,hw2,h12,hn,h1,y1,u32,-getElem?_pos]
     exact fin _)
  .by_cases c1:1<=i-4
   .have h1:w.length=24:=hw.1
    have hin:i<=n:=hw.2.1;have ulim:=ZhD (i:=i) hk hin;rw[hu]at ulim;have ulim2:10 ^ i<=10 ^ 7:=qal (by omega) (by omega);have u32:(u:Int)<4294967296:=(by omega);have g4:(4:Int)<=i:=(by omega);obtain⟨f4,hu4⟩:=FB4 hn hw (by omega) hu (a1:=u % 10000 / 100) (a0:=u % 10000 % 100) rfl rfl;have t1:Int.tmod (u:Int) 10000=((u % 10000:Nat):Int):=(by rw[qB (by omega)];omega)
    have t2:Int.tdiv (u:Int) 10000=((u / 10000:Nat):Int):=(by rw[qt (by omega)];omega);generalize hm4:u / 10000=u4 at *
    generalize hr4:u % 10000=r4 at *
    have t3:Int.tdiv (r4:Int) 100=((r4 / 100:Nat):Int):=(by rw[qt (by omega)];omega);have t4:Int.tmod (r4:Int) 100=((r4 % 100:Nat):Int):=(by rw[qB (by omega)];omega);generalize ha1:r4 / 100=a1 at *
    generalize ha0:r4 % 100=a0 at *
    obtain⟨ya0,ya1⟩:=y2 a0 (by omega);obtain⟨yb0,yb1⟩:=y2 a1 (by omega);have z0:(a0:Int)*2=((a0*2:Nat):Int):=(by omega);have q0:a0*2<199:=(by omega);generalize a0*2=e0 at *
    have w0:(e0:Int)+1=((e0+1:Nat):Int):=(by omega);have q10:e0+1<200:=(by omega);generalize e0+1=ff0 at *
    have z1:(a1:Int)*2=((a1*2:Nat):Int):=(by omega);have q1:a1*2<199:=(by omega);generalize a1*2=e1 at *
    have w1:(e1:Int)+1=((e1+1:Nat):Int):=(by omega);have q11:e1+1<200:=(by omega);generalize e1+1=ff1 at *
    obtain⟨v0,hv0⟩:=Zaa (l:=w) (i:=i-1) (by first|omega|(simp;omega));obtain⟨v1,hv1⟩:=Zaa (l:=(w.set (i-1) (dg a0))) (i:=i-2) (by first|omega|(simp;omega));obtain⟨v2,hv2⟩:=Zaa (l:=((w.set (i-1) (dg a0)).set (i-2) (dg (a0 / 10)))) (i:=i-3) (by first|omega|(simp;omega));obtain⟨v3,hv3⟩:=Zaa (l:=(((w.set (i-1) (dg a0)).set (i-2) (dg (a0 / 10))).set (i-3) (dg a1))) (i:=i-4) (by first|omega|(simp;omega))
    have iI1:(i:Int)-1=((i-1:Nat):Int):=(by omega);have iI2:(i:Int)-2=((i-2:Nat):Int):=(by omega);have iI3:(i:Int)-3=((i-3:Nat):Int):=(by omega);have iI4:(i:Int)-4=((i-4:Nat):Int):=(by omega);have u4lim:u4<1000:=(by omega);generalize hw4:((((w.set (i-1) (dg a0)).set (i-2) (dg (a0 / 10))).set (i-3) (dg a1)).set (i-4) (dg (a1 / 10)))=w4 at *
    have h14:w4.length=24:=f4.1;have i4lt:i-4<4:=(by omega);generalize hi4:i-4=i4 at *
    have g2:¬(2:Int)<=i4:=(by omega);have g2N:¬2<=i4:=(by omega);obtain rfl:i4=1:=(by omega);have u1:=ZhD (i:=1) hk (by omega);rw[hu4]at u1;have u10:u4<10:=(by omega);have f1:=FB1 hn f4 hu4;have hdg:(48:Int)+u4=((dg u4).toNat:Int):=(by unfold dg;rw[qQ u10,UInt8.toNat_ofNat',qQ (by omega)];omega);have hdb:(dg u4).toNat<256:=(dg u4).toNat_lt;generalize dg u4=dgu at *
    obtain⟨vz,hvz⟩:=Zaa (l:=w4) (i:=0) (by omega);have n1:0<n:=(by omega);have fin:=fun env=>hQ env _ f1;unfold q190;rw[hT];clear hT;rcases hx with rfl|rfl <;>
    (simp (maxSteps:=8000000) (disch:=first|exact zd|fail) [g4,t1,t2,t3,t4,z0,z1,w0,w1,ya0,ya1,yb0,yb1,hv0,hv1,hv2,hv3,iI1,iI2,iI3,iI4,hw4,h14,g2,g2N,hdg,hvz,n1,hn,h1,y1,u32,-getElem?_pos]
     exact fin _)
   .have h1:w.length=24:=hw.1
    have hin:i<=n:=hw.2.1;have ulim:=ZhD (i:=i) hk hin;rw[hu]at ulim;have ulim2:10 ^ i<=10 ^ 7:=qal (by omega) (by omega);have u32:(u:Int)<4294967296:=(by omega);have g4:(4:Int)<=i:=(by omega);obtain⟨f4,hu4⟩:=FB4 hn hw (by omega) hu (a1:=u % 10000 / 100) (a0:=u % 10000 % 100) rfl rfl;have t1:Int.tmod (u:Int) 10000=((u % 10000:Nat):Int):=(by rw[qB (by omega)];omega)
    have t2:Int.tdiv (u:Int) 10000=((u / 10000:Nat):Int):=(by rw[qt (by omega)];omega);generalize hm4:u / 10000=u4 at *
    generalize hr4:u % 10000=r4 at *
    have t3:Int.tdiv (r4:Int) 100=((r4 / 100:Nat):Int):=(by rw[qt (by omega)];omega);have t4:Int.tmod (r4:Int) 100=((r4 % 100:Nat):Int):=(by rw[qB (by omega)];omega);generalize ha1:r4 / 100=a1 at *
    generalize ha0:r4 % 100=a0 at *
    obtain⟨ya0,ya1⟩:=y2 a0 (by omega);obtain⟨yb0,yb1⟩:=y2 a1 (by omega);have z0:(a0:Int)*2=((a0*2:Nat):Int):=(by omega);have q0:a0*2<199:=(by omega);generalize a0*2=e0 at *
    have w0:(e0:Int)+1=((e0+1:Nat):Int):=(by omega);have q10:e0+1<200:=(by omega);generalize e0+1=ff0 at *
    have z1:(a1:Int)*2=((a1*2:Nat):Int):=(by omega);have q1:a1*2<199:=(by omega);generalize a1*2=e1 at *
    have w1:(e1:Int)+1=((e1+1:Nat):Int):=(by omega);have q11:e1+1<200:=(by omega);generalize e1+1=ff1 at *
    obtain⟨v0,hv0⟩:=Zaa (l:=w) (i:=i-1) (by first|omega|(simp;omega));obtain⟨v1,hv1⟩:=Zaa (l:=(w.set (i-1) (dg a0))) (i:=i-2) (by first|omega|(simp;omega));obtain⟨v2,hv2⟩:=Zaa (l:=((w.set (i-1) (dg a0)).set (i-2) (dg (a0 / 10)))) (i:=i-3) (by first|omega|(simp;omega));obtain⟨v3,hv3⟩:=Zaa (l:=(((w.set (i-1) (dg a0)).set (i-2) (dg (a0 / 10))).set (i-3) (dg a1))) (i:=i-4) (by first|omega|(simp;omega))
    have iI1:(i:Int)-1=((i-1:Nat):Int):=(by omega);have iI2:(i:Int)-2=((i-2:Nat):Int):=(by omega);have iI3:(i:Int)-3=((i-3:Nat):Int):=(by omega);have iI4:(i:Int)-4=((i-4:Nat):Int):=(by omega);have u4lim:u4<1000:=(by omega);generalize hw4:((((w.set (i-1) (dg a0)).set (i-2) (dg (a0 / 10))).set (i-3) (dg a1)).set (i-4) (dg (a1 / 10)))=w4 at *
    have h14:w4.length=24:=f4.1;have i4lt:i-4<4:=(by omega);generalize hi4:i-4=i4 at *
    have g2:¬(2:Int)<=i4:=(by omega);have g2N:¬2<=i4:=(by omega);obtain rfl:i4=0:=(by omega);have fin:=fun env=>hQ env _ f4;unfold q190;rw[hT];clear hT;rcases hx with rfl|rfl <;>
    (simp (maxSteps:=8000000) (disch:=first|exact zd|fail) [g4,t1,t2,t3,t4,z0,z1,w0,w1,ya0,ya1,yb0,yb1,hv0,hv1,hv2,hv3,iI1,iI2,iI3,iI4,hw4,h14,g2,g2N,hn,h1,y1,u32,-getElem?_pos]
     exact fin _)
 .by_cases c2:2<=i
  .by_cases c1:1<=i-2
   .have h1:w.length=24:=hw.1
    have hin:i<=n:=hw.2.1;have ulim:=ZhD (i:=i) hk hin;rw[hu]at ulim;have ulim2:10 ^ i<=10 ^ 7:=qal (by omega) (by omega);have u32:(u:Int)<4294967296:=(by omega);have g4:¬(4:Int)<=i:=(by omega);have g4N:¬4<=i:=(by omega);have g2:(2:Int)<=i:=(by omega);obtain⟨f2,hu2⟩:=FB2 hn hw (by omega) hu (a0:=u % 100) rfl;have t5:Int.tmod (u:Int) 100=((u % 100:Nat):Int):=(by rw[qB (by omega)];omega)
    have t6:Int.tdiv (u:Int) 100=((u / 100:Nat):Int):=(by rw[qt (by omega)];omega);generalize hm2:u / 100=u2 at *
    generalize hr2:u % 100=c0 at *
    obtain⟨yc0,yc1⟩:=y2 c0 (by omega);have z2:(c0:Int)*2=((c0*2:Nat):Int):=(by omega);have q2:c0*2<199:=(by omega);generalize c0*2=e2 at *
    have w2:(e2:Int)+1=((e2+1:Nat):Int):=(by omega);have q12:e2+1<200:=(by omega);generalize e2+1=ff2 at *
    obtain⟨s0,hs0⟩:=Zaa (l:=w) (i:=i-1) (by first|omega|(simp;omega));obtain⟨s1,hs1⟩:=Zaa (l:=(w.set (i-1) (dg c0))) (i:=i-2) (by first|omega|(simp;omega));have jI1:(i:Int)-1=((i-1:Nat):Int):=(by omega);have jI2:(i:Int)-2=((i-2:Nat):Int):=(by omega);generalize hw2:((w.set (i-1) (dg c0)).set (i-2) (dg (c0 / 10)))=w2l at *
    have h12:w2l.length=24:=f2.1;have i2lt:i-2<2:=(by omega);generalize hi2:i-2=i2 at *
    obtain rfl:i2=1:=(by omega);have u1:=ZhD (i:=1) hk (by omega);rw[hu2]at u1;have u10:u2<10:=(by omega);have f1:=FB1 hn f2 hu2;have hdg:(48:Int)+u2=((dg u2).toNat:Int):=(by unfold dg;rw[qQ u10,UInt8.toNat_ofNat',qQ (by omega)];omega);have hdb:(dg u2).toNat<256:=(dg u2).toNat_lt;generalize dg u2=dgu at *
    obtain⟨vz,hvz⟩:=Zaa (l:=w2l) (i:=0) (by omega);have n1:0<n:=(by omega);have fin:=fun env=>hQ env _ f1;unfold q190;rw[hT];clear hT;rcases hx with rfl|rfl <;>
    (simp (maxSteps:=8000000) (disch:=first|exact zd|fail) [g4,g4N,g2,t5,t6,z2,w2,yc0,yc1,hs0,hs1,jI1,jI2,hw2,h12,hdg,hvz,n1,hn,h1,y1,u32,-getElem?_pos]
     exact fin _)
   .have h1:w.length=24:=hw.1
    have hin:i<=n:=hw.2.1;have ulim:=ZhD (i:=i) hk hin;rw[hu]at ulim;have ulim2:10 ^ i<=10 ^ 7:=qal (by omega) (by omega);have u32:(u:Int)<4294967296:=(by omega);have g4:¬(4:Int)<=i:=(by omega);have g4N:¬4<=i:=(by omega);have g2:(2:Int)<=i:=(by omega);obtain⟨f2,hu2⟩:=FB2 hn hw (by omega) hu (a0:=u % 100) rfl;have t5:Int.tmod (u:Int) 100=((u % 100:Nat):Int):=(by rw[qB (by omega)];omega)
    have t6:Int.tdiv (u:Int) 100=((u / 100:Nat):Int):=(by rw[qt (by omega)];omega);generalize hm2:u / 100=u2 at *
    generalize hr2:u % 100=c0 at *
    obtain⟨yc0,yc1⟩:=y2 c0 (by omega);have z2:(c0:Int)*2=((c0*2:Nat):Int):=(by omega);have q2:c0*2<199:=(by omega);generalize c0*2=e2 at *
    have w2:(e2:Int)+1=((e2+1:Nat):Int):=(by omega);have q12:e2+1<200:=(by omega);generalize e2+1=ff2 at *
    obtain⟨s0,hs0⟩:=Zaa (l:=w) (i:=i-1) (by first|omega|(simp;omega));obtain⟨s1,hs1⟩:=Zaa (l:=(w.set (i-1) (dg c0))) (i:=i-2) (by first|omega|(simp;omega));have jI1:(i:Int)-1=((i-1:Nat):Int):=(by omega);have jI2:(i:Int)-2=((i-2:Nat):Int):=(by omega);generalize hw2:((w.set (i-1) (dg c0)).set (i-2) (dg (c0 / 10)))=w2l at *
    have h12:w2l.length=24:=f2.1;have i2lt:i-2<2:=(by omega);generalize hi2:i-2=i2 at *
    obtain rfl:i2=0:=(by omega);have fin:=fun env=>hQ env _ f2;unfold q190;rw[hT];clear hT;rcases hx with rfl|rfl <;>
    (simp (maxSteps:=8000000) (disch:=first|exact zd|fail) [g4,g4N,g2,t5,t6,z2,w2,yc0,yc1,hs0,hs1,jI1,jI2,hw2,h12,hn,h1,y1,u32,-getElem?_pos]
     exact fin _)
  .by_cases c1:1<=i
   .have h1:w.length=24:=hw.1
    have hin:i<=n:=hw.2.1;have ulim:=ZhD (i:=i) hk hin;rw[hu]at ulim;have ulim2:10 ^ i<=10 ^ 7:=qal (by omega) (by omega);have u32:(u:Int)<4294967296:=(by omega);have g4:¬(4:Int)<=i:=(by omega);have g4N:¬4<=i:=(by omega);have g2:¬(2:Int)<=i:=(by omega);have g2N:¬2<=i:=(by omega);obtain rfl:i=1:=(by omega);have u1:=ZhD (i:=1) hk (by omega);rw[hu]at u1;have u10:u<10:=(by omega);have f1:=FB1 hn hw hu
    have hdg:(48:Int)+u=((dg u).toNat:Int):=(by unfold dg;rw[qQ u10,UInt8.toNat_ofNat',qQ (by omega)];omega);have hdb:(dg u).toNat<256:=(dg u).toNat_lt;generalize dg u=dgu at *
    obtain⟨vz,hvz⟩:=Zaa (l:=w) (i:=0) (by omega);have n1:0<n:=(by omega);have fin:=fun env=>hQ env _ f1;unfold q190;rw[hT];clear hT;rcases hx with rfl|rfl <;>
    (simp (maxSteps:=8000000) (disch:=first|exact zd|fail) [g4,g4N,g2,g2N,hdg,hvz,n1,hn,h1,y1,u32,-getElem?_pos]
     exact fin _)
   .have h1:w.length=24:=hw.1
    have hin:i<=n:=hw.2.1;have ulim:=ZhD (i:=i) hk hin;rw[hu]at ulim;have ulim2:10 ^ i<=10 ^ 7:=qal (by omega) (by omega);have u32:(u:Int)<4294967296:=(by omega);have g4:¬(4:Int)<=i:=(by omega);have g4N:¬4<=i:=(by omega);have g2:¬(2:Int)<=i:=(by omega);have g2N:¬2<=i:=(by omega);obtain rfl:i=0:=(by omega);have fin:=fun env=>hQ env _ hw;unfold q190;rw[hT];clear hT;rcases hx with rfl|rfl <;>
    (simp (maxSteps:=8000000) (disch:=first|exact zd|fail) [g4,g4N,g2,g2N,hn,h1,y1,u32,-getElem?_pos]
     exact fin _)
theorem ZzS (n k:Nat)(hn:n<=24)(hk:k<10 ^ n)(hk2:k<18446744073709551616){w:Str}(hw:w.length=24):
 ∃r,(∃w':Str,w'.length=24/\w'.take n=pd n k/\r=(retV,[arrB w']))/\(K A).call 268 [.sc (.vw 0 24 0 n),u64V k] [arrB w]=some r:=by
 refine fnE v268 ?_;generalize hQ:Zeo v268.keep [arrB w].length v268.results (fun r=>∃w':Str,w'.length=24/\w'.take n=pd n k/\r=(retV,[arrB w']))=Q;have hret:∀env w',FB n k 0 w'->Q .normal ⟨env,[(0,some (arrB w'))]⟩:=by
  intro env w' h1;rw[<-hQ];show Zeo false 1 [] _ .normal _;rw[endsQ_normal];simp[retV,h1.1];exact⟨w',h1.1,FB0 h1,rfl⟩
 clear hQ;have hcut:=cut_b (w:=w) (n:=n) (by omega);rw[ZzQ];simp(maxSteps:=4000000) (disch:=first|exact zd|fail) [hcut,hw,hn,-getElem?_pos];refine Zad (fun r s=>∃(i:Nat) (w:Str),i+8*r=n/\FB n k i w/\s=⟨[(0,.sc (.vw 0 24 0 n)),(1,u64V (k / 10 ^ (n-i))),(4,intV i)],[(0,some (arrB w))]⟩) (n / 8)
  ⟨n,w,by omega,⟨hw,qe _,by rw[qaV,qaa (by simp;omega)];rfl⟩,by rw[qaV,Nat.pow_zero,Nat.div_one]⟩ ?_ ?_
 .rintro r s hr ⟨i,w,hi,hf,rfl⟩
  refine Zx2 (A:=A) n k hn hk2 hf (by omega) _ ?_;intro w' hf';exact .inl ⟨rfl,i-8,w',by omega,hf',rfl⟩
 .rintro s ⟨i,w,hi,hf,rfl⟩
  have hi8:i<8:=by omega
  have hi8I:¬(8:Int)<=i:=by omega
  have hi8N:¬8<=i:=by omega
  have fin:=ZzN (A:=A) n k hn hk hf hi8 (xs:=[(20,Zae false)]) (.inr rfl) Q hret;unfold ZmF;simp(maxSteps:=4000000) (disch:=first|exact zd|fail) [hi8,hi8I,hi8N,-getElem?_pos];exact fin
theorem ZyD (k:Nat)(hk:k<18446744073709551616):(K A).call 227 [u64V k,intV 10] []=some (strV (numS k),[]):=by
 by_cases h100:k<100
 .exact fmt75 k h100
 have h137:(K A).call 248 [u64V k,intV 10] []=some (strV (numS k),[]):=by
  refine fnO v248 ?_;have h1:¬(k:Int)<100:=by omega
  obtain⟨d1,d2,d3,d4⟩:=Zq9 (k:=k) (by omega) hk;have hnd:=ZBc (A:=A) k hk;obtain⟨_,⟨w',k1,k2,rfl⟩,hc⟩:=ZzS (A:=A) (ndig k) k (by omega) d4 hk (w:=List.replicate 24 0) (by simp);have hnum:pd (ndig k) k=numS k:=by
   obtain⟨m,hm⟩:∃m,ndig k=m+1:=⟨ndig k-1,by omega⟩;rw[hm]at d3 d4 |-;exact Zyo m k d3 d4
  have hpl:=Zyx (ndig k) k;rw[hnum]at k2 hpl;generalize ndig k=n at *
  generalize hS:numS k=S at *
  have hSn:S≠[]:=by
   intro h0;rw[h0]at hpl;simp at hpl;omega
  have hz:List.replicate 24 [W.c (.int .u8 0)]=wr (Zet (List.replicate 24 0)):=zero_b 24;have hmx:24<=ZaJ:=by decide
  have hzl:(List.replicate 24 (0:UInt8)).length=24:=by simp
  generalize List.replicate 24 (0:UInt8)=z0 at *
  have hcut:=cut_b (w:=w') (n:=n) (by omega);rw[k2]at hcut;unfold v248;simp(maxSteps:=4000000) (disch:=first|exact zd|fail) [h1,hnd,hz,hmx,hc,hcut,hzl,k1,hSn,retV,V.ren,-getElem?_pos,-List.reduceReplicate]
 refine fnO v227 ?_;unfold v227;simp[h137]
end Go.Vs.Tryz
namespace Go.Vs
open Go
@[simp] theorem b_ifw5 {t:TypeId} {o:Bool} {r:List W}:binV .eql 5 (.sc (.ifw t o r)) (.sc (.c .nilif))=some (.sc (.c (.bool false)),[]):=rfl
@[simp] theorem b_nilif5:binV .eql 5 (.sc (.c .nilif)) (.sc (.c .nilif))=some (.sc (.c (.bool true)),[]):=rfl
end Go.Vs
namespace Go.Vs.Tryz
open Go Go.Vs
variable {A:Zab}
abbrev badR (s:Str):V×List Obj:=(.tu [u64V 0,.sc (.ifw 275 true [.ptr 0 0])],[.box [.c (.str [80,97,114,115,101,85,105,110,116]),.c (.str s),.c (errCell Zg1)]])
abbrev okR (n:Nat):V×List Obj:=(.tu [u64V n,.sc (.c .nilif)],[])
def NameP (A:Zab)(s:Str)(m:Option Nat):Prop:=∃dg is,(K A).call 225 [strV s,strV [118]] []=some (.tu [strV dg,Zae is],[])/\
 (((∃ s',(K A).call 226 [strV dg,intV 10,intV 64] []=some (badR s'))/\m=none) \/
  (∃n,(K A).call 226 [strV dg,intV 10,intV 64] []=some (okR n)/\is=true/\0<n/\(K A).call 227 [u64V n,intV 10] []=some (strV dg,[])/\m=some n))
def names9:List Str:=Zbl++[[118,51]]
def numN (s:Str):Option Nat:=if s=[118,49] then some 1 else if s=[118,50] then some 2 else if s=[118,51] then some 3 else none
end Go.Vs.Tryz
namespace Go.Vs
open Go
variable {C:Ctx}{E:Nat->Option V}{L:Nat->Option Obj}{oid:Nat}
def ifcK (t:TypeId):V->Option (V×Upd)
 |.sc (.c y)=>some (.sc (.c (.ifc t true [y])),[])
 |.sc w=>bif ZaI w then some (.sc (.ifw t true [w]),[]) else none
 |.ag cs=>match Zag (fun w=>match w with | .c y=>some y | _=>none) cs with
  |some l=>some (.sc (.c (.ifc t false l)),[])
  |none=>some (.sc (.ifw t false cs),[])
 |.tu _=>none
@[simp] theorem ifcK_c {t:TypeId} {y:Cell}:ifcK t (.sc (.c y))=some (.sc (.c (.ifc t true [y])),[]):=rfl
@[simp] theorem ifcK_ptr {t:TypeId} {k o:Nat}:ifcK t (.sc (.ptr k o))=some (.sc (.ifw t true [.ptr k o]),[]):=rfl
@[simp] theorem x_ifc {t:TypeId} {x:Opd}:Zah C E L oid (.ifc t x)=ifcK t (x.val C E):=by
 simp only[Zah];generalize x.val C E=v;cases v with
 |sc w=>cases w<;>rfl
 |_=>rfl
def cvBK:V->Option (V×Upd)
 |.sc (.c (.str s))=>bif Nat.ble s.length ZaJ then some (.sc (.c (.sl (s.map fun b=>[Cell.int .u8 b.toNat]))),[]) else none
 |_=>none
@[simp] theorem cvBK_str {s:List UInt8} (h:s.length<=ZaJ):cvBK (.sc (.c (.str s)))=some (.sc (.c (.sl (s.map fun b=>[Cell.int .u8 b.toNat]))),[]):=by
 unfold cvBK;simp only;rw[show Nat.ble s.length ZaJ=true from qR h];rfl
@[simp] theorem x_cvB {x:Opd}:Zah C E L oid (.cvB x)=cvBK (x.val C E):=by
 simp only[Zah];generalize x.val C E=v;cases v with
 |sc w=>
  cases w with
  |c y=>cases y<;>rfl
  |_=>rfl
 |_=>rfl
@[simp] theorem b_eq215 {m n:Int}:binV .eql 278 (.sc (.c (.ifc 272 true [.int .i64 m]))) (.sc (.c (.ifc 272 true [.int .i64 n])))=some (.sc (.c (.bool (decide (m=n)))),[]):=by
 simp[binV,binW,ZeH];rw[qbj];simp
@[simp] theorem b_neqif5 {t:TypeId} {o:Bool} {r:List Cell}:binV .neq 5 (.sc (.c (.ifc t o r))) (.sc (.c .nilif))=some (.sc (.c (.bool true)),[]):=rfl
@[simp] theorem b_neqnil5:binV .neq 5 (.sc (.c .nilif)) (.sc (.c .nilif))=some (.sc (.c (.bool false)),[]):=rfl
end Go.Vs
namespace Go.Vs.Tryz
open Go Go.Vs
variable {A:Zab}
abbrev u8V (n:Nat):V:=.sc (.c (.int .u8 n))
def ZzT (r:Option (V×List Obj)):Bool:=match r with
 |some (.sc (.c (.int .u8 j)),[])=>decide (0<=j)&&decide (j<256)
 |_=>false
theorem Zv7 {r:Option (V×List Obj)}(h:ZzT r=true):∃j:Nat,j<256/\r=some (u8V j,[]):=by
 unfold ZzT at h;split at h
 .rename_i j
  simp only[qc,decide_eq_true_eq]at h;refine⟨j.toNat,by omega,?_⟩;show _=some (V.sc (W.c (Cell.int .u8 ((j.toNat:Nat):Int))),[]);rw[Int.toNat_of_nonneg h.1]
 .cases h
theorem ZwE (m:Nat)(h:m<256):∃j:Nat,j<256/\(K A).call 260 [u8V m] []=some (u8V j,[]):=by
 have h1:(List.range 256).all (fun m=>ZzT (Zb9 T2 (X2 A) gl0 10 260 [u8V m] []))=true:=by kernel_rfl
 obtain⟨j,h2,h3⟩:=Zv7 (ZjJ h1 h);exact⟨j,h2,Zfq h3⟩
inductive PR where
 |ok (n:Nat)
 |syn
 |rng
def ZcY:Str->Nat->PR
 |[],n=>.ok n
 |c::r,n=>if 48<=c.toNat/\c.toNat<=57 then
  if 1844674407370955162<=n then .rng else if 18446744073709551616<=n*10+(c.toNat-48) then .rng else ZcY r (n*10+(c.toNat-48))
  else .syn
def ZeY (s:Str):PR:=if s=[] then .syn else ZcY s 0
abbrev perr (e:Int):V:=.sc (.c (.ifc 272 true [.int .i64 e]))
def prV:PR->V
 |.ok n=>.tu [u64V n,.sc (.c .nilif)]
 |.syn=>.tu [u64V 0,perr 2]
 |.rng=>.tu [.sc (.c (.int .u64 18446744073709551615)),perr 1]
def ZeV (s:Str):List (List Cell):=s.map fun b=>[Cell.int .u8 b.toNat]
@[simp] theorem chrRows_get (s:Str) (i:Nat):(ZeV s)[i]?=(s[i]?).map fun b=>[Cell.int .u8 b.toNat]:=by simp[ZeV]
@[simp] theorem chrRows_len (s:Str):(ZeV s).length=s.length:=by simp[ZeV]
abbrev P0 (s:Str)(i n:Nat):Env:=[(1,intV 10),(8,Zae false),(9,strV s),(10,.sc (.c (.int .u64 1844674407370955162))),(11,.sc (.c (.int .u64 18446744073709551615))),(12,Zae false),(13,u64V n),(99,.sc (.c (.sl (ZeV s)))),(100,intV s.length),(101,intV i)]
abbrev P1 (s:Str)(i n:Nat):Env:=[(1,intV 10),(8,Zae false),(9,strV s),(10,.sc (.c (.int .u64 1844674407370955162))),(11,.sc (.c (.int .u64 18446744073709551615))),(12,Zae false),(99,.sc (.c (.sl (ZeV s)))),(100,intV s.length),(101,intV i),(13,u64V n)]
theorem Zxk (s:Str)(hl:s.length<=281474976710656):(K A).call 246 [strV s,intV 10,intV 64] []=some (prV (ZeY s),[]):=by
 refine fnO v246 ?_;unfold v246;by_cases h0:s=[]
 .subst h0
  simp[ZeY,prV]
 .have hmx:s.length<=ZaJ:=qu hl (by decide)
  have hs0:shlI .u64 1 64=0:=by decide
  have hw0:IntKind.u64.wrap (0-1)=18446744073709551615:=by decide
  have hw1:IntKind.u64.wrap (-1)=18446744073709551615:=by decide
  have hcs:(s.map fun b=>[Cell.int .u8 (b.toNat:Int)])=ZeV s:=rfl;generalize hR:ZeY s=R;unfold ZeY at hR;rw[if_neg h0]at hR;simp(maxSteps:=4000000) (disch:=first|exact zd|fail) [h0,hmx,hs0,hw0,hw1,hcs,-getElem?_pos];refine Zad (fun r t=>∃n,n<18446744073709551616/\ZcY (s.drop r) n=R/\(t=⟨P0 s r n,[]⟩\/t=⟨P1 s r n,[]⟩)) s.length ⟨0,by omega,by simpa using hR,.inl (by simp)⟩ ?_ ?_
  .rintro r t hr ⟨n,hn,hp,ht⟩
   obtain⟨c,hc⟩:=Zaa (l:=s) (i:=r) hr;have hdrop:s.drop r=c::s.drop (r+1):=by
    obtain⟨h1,h2⟩:=qd.1 hc;rw[List.drop_eq_getElem_cons h1,h2]
   rw[hdrop,ZcY]at hp;have hc256:c.toNat<256:=c.toNat_lt;have hrI:(r:Int)<(s.length:Int):=(by omega);have hcrow:(ZeV s)[r]?=some [Cell.int .u8 c.toNat]:=(by simp[hc]);generalize c.toNat=m at *
   unfold ZrD;by_cases hd:48<=m/\m<=57
   .rw [if_pos hd] at hp
    obtain⟨hd1,hd2⟩:=hd;have hd1I:(48:Int)<=m:=(by omega);have hd2I:(m:Int)<=57:=(by omega);have h95:¬(m:Int)=95:=(by omega);have h95N:¬m=95:=(by omega);have hmI:(m:Int)-48=((m-48:Nat):Int):=(by omega);have hd9:m-48<=9:=(by omega);generalize m-48=d at *
    have hn10:¬(10:Int)<=d:=(by omega);by_cases hcut:1844674407370955162<=n
    .rw [if_pos hcut] at hp
     subst hp;have hcutI:(1844674407370955162:Int)<=n:=(by omega);rcases ht with rfl|rfl <;>
     simp(maxSteps:=4000000) (disch:=first|exact zd|fail) [hcrow,hrI,hr,h95,h95N,hd1I,hd2I,hd1,hd2,hmI,hn10,hcut,hcutI,prV,-getElem?_pos,-chrRows_get]
    .rw [if_neg hcut] at hp
     have hcutI:¬(1844674407370955162:Int)<=n:=(by omega);have hmul:IntKind.u64.wrap ((n:Int)*10)=((n*10:Nat):Int):=by
      rw[show(n:Int)*10=((n*10:Nat):Int) by omega];exact Zba _ (by omega)
     have hn10b:n*10<=18446744073709551610:=(by omega);generalize n*10=q at *
     have hwd:IntKind.u64.wrap (d:Int)=d:=Zba d (by omega);by_cases hov:18446744073709551616<=q+d
     .rw [if_pos hov] at hp
      subst hp;have hadd:IntKind.u64.wrap ((q:Int)+d)=((q+d-18446744073709551616:Nat):Int):=by
       unfold IntKind.wrap;simp[IntKind.bits,IntKind.signed];omega
      have hlt:((q+d-18446744073709551616:Nat):Int)<(q:Int):=(by omega);have hltN:q+d-18446744073709551616<q:=(by omega);generalize q+d-18446744073709551616=z at *
      rcases ht with rfl|rfl <;>
      simp(maxSteps:=4000000) (disch:=first|exact zd|fail) [hcrow,hrI,hr,h95,h95N,hd1I,hd2I,hd1,hd2,hmI,hn10,hcut,hcutI,hmul,hwd,hadd,hlt,hltN,prV,-getElem?_pos,-chrRows_get]
     .rw [if_neg hov] at hp
      have hadd:IntKind.u64.wrap ((q:Int)+d)=((q+d:Nat):Int):=by
       rw[show(q:Int)+d=((q+d:Nat):Int) by omega];exact Zba _ (by omega)
      have hge:¬((q+d:Nat):Int)<(q:Int):=(by omega);have hgeN:¬q+d<q:=(by omega);have hzl:q+d<18446744073709551616:=(by omega);generalize q+d=z at *
      have hzm:¬(18446744073709551615:Int)<(z:Int):=(by omega);have hzmN:¬18446744073709551615<z:=(by omega);have fin:∃n,n<18446744073709551616/\ZcY (s.drop (r+1)) n=R/\((⟨P1 s (r+1) z,[]⟩:St)=⟨P0 s (r+1) n,[]⟩\/(⟨P1 s (r+1) z,[]⟩:St)=⟨P1 s (r+1) n,[]⟩):=⟨z,hzl,hp,.inr rfl⟩;rcases ht with rfl|rfl <;>
      (simp (maxSteps:=4000000) (disch:=first|exact zd|fail) [hcrow,hrI,hr,h95,h95N,hd1I,hd2I,hd1,hd2,hmI,hn10,hcut,hcutI,hmul,hwd,hadd,hge,hgeN,hzm,hzmN,-getElem?_pos,-chrRows_get]
       simpa[-chrRows_get]using fin)
   .rw [if_neg hd] at hp
    subst hp;obtain⟨j,hj,hlow⟩:=ZwE (A:=A) m hc256;have h10:(97:Int)<=j->(10:Int)<=(j:Int)-97+10:=fun h=>by omega
    obtain⟨b,hb⟩:∃b,decide ((m:Int)=95)=b:=⟨_,rfl⟩;cases b<;>by_cases h48:(48:Int)<=m<;>by_cases h57:(m:Int)<=57<;>by_cases h97:(97:Int)<=j<;>by_cases h122:(j:Int)<=122 <;>
    first
    |(exfalso;omega)
    | (rcases ht with rfl | rfl <;>
       simp(maxSteps:=4000000) (disch:=first|exact zd|fail) [hcrow,hrI,hr,hlow,hb,h48,h57,h97,h122,h10,prV,-getElem?_pos,-chrRows_get])
  .rintro t ⟨n,hn,hp,ht⟩
   rw[qao]at hp;subst hp;unfold ZrD;rcases ht with rfl|rfl <;>
   simp(maxSteps:=4000000) (disch:=first|exact zd|fail) [ZcY,prV,-getElem?_pos,-chrRows_get]
end Go.Vs.Tryz
namespace Go.Vs
open Go
@[simp] theorem refs_ifw {t:TypeId} {o:Bool} {row:List W}:W.refs 4 (.ifw t o row)=row.flatMap (W.refs 3):=rfl
@[simp] theorem ren_ifw {ρ:Nat->Option Nat} {t:TypeId} {o:Bool} {row:List W}:W.ren ρ 4 (.ifw t o row)=.ifw t o (row.map (W.ren ρ 3)):=rfl
@[simp] theorem refs3_ptr {k o:Nat}:W.refs 3 (.ptr k o)=[k]:=rfl
@[simp] theorem ren3_ptr {ρ:Nat->Option Nat} {k o:Nat}:W.ren ρ 3 (.ptr k o)=match ρ k with | some j=>.ptr j o | none=>.un:=rfl
end Go.Vs
namespace Go.Vs.Tryz
open Go Go.Vs
variable {A:Zab}
theorem Zpq (s:Str)(h:s.length<=281474976710656):(K A).call 284 [strV s] []=some (strV s,[]):=by
 have hT:T2 284=none:=by kernel_rfl
 have hs:skip 284=false:=rfl;refine Zfq (n:=1) ?_;simp only[Zb9,hT];unfold X2;rw[hs];simp only[cond_false,X1];rw[show(284==284&&Nat.ble s.length 281474976710656)=true by simp;omega];rfl
theorem syn184 (f s:Str)(h:s.length<=281474976710656):∃e,(K A).call 262 [strV f,strV s] []=some (.sc (.ptr 0 0),[.box [.c (.str f),.c (.str s),.c e]]):=by
 have hc:=Zpq (A:=A) s h;have hg:gl0 0=[errCell Zg1]:=rfl;refine⟨errCell Zg1,?_⟩;refine fnO v262 ?_;unfold v262;generalize errCell Zg1=e at *
 simp[hc,hg,Opd.val,V.ren]
theorem rng185 (f s:Str)(h:s.length<=281474976710656):∃e,(K A).call 263 [strV f,strV s] []=some (.sc (.ptr 0 0),[.box [.c (.str f),.c (.str s),.c e]]):=by
 have hc:=Zpq (A:=A) s h;have hg:gl0 1=[errCell ZiH]:=rfl;refine⟨errCell ZiH,?_⟩;refine fnO v263 ?_;unfold v263;generalize errCell ZiH=e at *
 simp[hc,hg,Opd.val,V.ren]
theorem ZyL (f s:Str)(h:s.length<=281474976710656)(n:Int)(he:n=1\/n=2):∃e,(K A).call 247 [strV f,strV s,intV 10,intV 64,perr n] []=some (.sc (.ifw 275 true [.ptr 0 0]),[.box [.c (.str f),.c (.str s),.c e]]):=by
 obtain⟨l1,h1⟩:=syn184 (A:=A) f s h;obtain⟨l2,h2⟩:=rng185 (A:=A) f s h;rcases he with rfl|rfl
 .refine ⟨l2,?_⟩
  refine fnO v247 ?_;unfold v247;simp[h2,V.ren]
 .refine ⟨l1,?_⟩
  refine fnO v247 ?_;unfold v247;simp[h1,V.ren]
def Par (p:PR)(r:V×List Obj):Prop:=match p with
 |.ok n=>r=okR n
 |_=>∃(x:Int) (l:List W),r=(.tu [.sc (.c (.int .u64 x)),.sc (.ifw 275 true [.ptr 0 0])],[.box l])
theorem Zzy (s:Str)(h:s.length<=281474976710656):∃r,Par (ZeY s) r/\(K A).call 226 [strV s,intV 10,intV 64] []=some r:=by
 have hc:=Zxk (A:=A) s h;obtain⟨l1,h1⟩:=ZyL (A:=A) [80,97,114,115,101,85,105,110,116] s h 1 (.inl rfl);obtain⟨l2,h2⟩:=ZyL (A:=A) [80,97,114,115,101,85,105,110,116] s h 2 (.inr rfl);generalize ZeY s=p at *
 cases p with
 |ok n=>
  refine⟨okR n,rfl,?_⟩;refine fnO v226 ?_;unfold v226;simp only[prV]at hc;simp[hc]
 |syn=>
  refine⟨(.tu [u64V 0,.sc (.ifw 275 true [.ptr 0 0])],[.box [.c (.str [80,97,114,115,101,85,105,110,116]),.c (.str s),.c l2]]),⟨_,_,rfl⟩,?_⟩;refine fnO v226 ?_;unfold v226;simp only[prV]at hc;simp[hc,h2,V.ren]
 |rng=>
  refine⟨(.tu [.sc (.c (.int .u64 18446744073709551615)),.sc (.ifw 275 true [.ptr 0 0])],[.box [.c (.str [80,97,114,115,101,85,105,110,116]),.c (.str s),.c l1]]),⟨_,_,rfl⟩,?_⟩;refine fnO v226 ?_;unfold v226;simp only[prV]at hc;simp[hc,h1,V.ren]
def cutV:Str->Str×Bool
 |[]=>([],false)
 |c::r=>if c=118 then (r,true) else (c::r,false)
theorem ZxV (s:Str):(cutV s).1.length<=s.length:=by
 cases s with
 |nil=>simp[cutV]
 |cons c r=>
  simp only[cutV];split<;>simp
theorem ZnP (n:Nat):Zaz (some (.sc (.c (.int .i64 1)))) (n+1) (n+1)=some 1:=by
 show(bif Nat.blt 1 (n+1+1) then some 1 else none)=_;rw[show Nat.blt 1 (n+1+1)=true from qR (by omega)];rfl
theorem Zxr (n:Nat):Zaz (some (.sc (.c (.int .i64 1)))) 0 (n+1)=some 1:=ZnP n
theorem Zpl (n:Nat):Zaz none 0 n=some 0:=by
 show(bif Nat.ble 0 n then some 0 else none)=_;rw[show Nat.ble 0 n=true from qR (qad _)];rfl
theorem Zzm (n:Nat):Zaz none n n=some n:=by
 show(bif Nat.ble n n then some n else none)=_;rw[show Nat.ble n n=true from qR (qe _)];rfl
theorem cut73 (s:Str)(h:s.length<=281474976710656):(K A).call 225 [strV s,strV [118]] []=some (.tu [strV (cutV s).1,Zae (cutV s).2],[]):=by
 have h181:(K A).call 259 [strV s,strV [118]] []=some (Zae (cutV s).2,[]):=by
  refine fnO v259 ?_;unfold v259;cases s with
  |nil=>simp[cutV]
  |cons c r=>
   have hl:(1:Int)<=(r.length:Int)+1:=(by omega);by_cases hc:c=118
   .subst hc
    simp[cutV,hl,ZnP,Zpl,ownV]
   .simp[cutV,hl,hc,ZnP,Zpl,ownV]
 have h134:(K A).call 245 [strV s,strV [118]] []=some (.tu [strV (cutV s).1,Zae (cutV s).2],[]):=by
  refine fnO v245 ?_;unfold v245;cases s with
  |nil=>
   simp only[cutV]at h181 |-;simp[h181]
  |cons c r=>
   by_cases hc:c=118
   .subst hc
    simp only[cutV,if_true]at h181 |-;simp[h181,Zxr,Zzm]
   .simp only [cutV,hc,if_false] at h181 |-
    simp[h181]
 refine fnO v225 ?_;unfold v225;simp[h134]
def numT (s:Str):Option Nat:=if (cutV s).2=true then
 match ZeY (cutV s).1 with
 |.ok k=>if 0<k/\numS k=(cutV s).1 then some k else none
 |_=>none
 else none
def ZBl (c:UInt8)(n:Nat):PR:=if 48<=c.toNat/\c.toNat<=57 then
 if 1844674407370955162<=n then .rng else if 18446744073709551616<=n*10+(c.toNat-48) then .rng else .ok (n*10+(c.toNat-48))
 else .syn
theorem Zin (c:UInt8):∀(a:Str) (n m:Nat),ZcY a n=.ok m->ZcY (a++[c]) n=ZBl c m
 |[],n,m,h=>by
  simp only[ZcY]at h;cases h;simp only[qac,ZcY,ZBl]
 |x::a,n,m,h=>by
  simp only[ZcY,qa3]at h |-;split at h
  .rename_i h1
   rw[if_pos h1];split at h
   .cases h
   .rename_i h2
    rw[if_neg h2];split at h
    .cases h
    .rename_i h3
     rw[if_neg h3];exact Zin c a _ m h
  .cases h
theorem ZfO {d:Nat}(h:d<10):(UInt8.ofNat (48+d)).toNat=48+d:=by
 rw[UInt8.toNat_ofNat',qQ (by omega)]
theorem ZsQ:∀(f k:Nat),k<=f->k<18446744073709551616->ZcY (numS k) 0=.ok k:=by
 intro f
 induction f with
 |zero=>
  intro k hk _;obtain rfl:k=0:=by omega
  rw[ZdQ (by omega)];have:=ZfO (d:=0) (by omega);simp only[ZcY,this];simp
 |succ f ih=>
  intro k hk hb;by_cases h10:k<10
  .rw [ZdQ h10]
   have:=ZfO h10;simp only[ZcY,this];rw[if_pos (by omega),if_neg (by omega),if_neg (by omega)];congr 1;omega
  .rw [ZdF h10,Zin _ _ _ (k / 10) (ih (k / 10) (by omega) (by omega))]
   have:=ZfO (d:=k % 10) (by omega);unfold ZBl;rw[this,if_pos (by omega),if_neg (by omega),if_neg (by omega)];congr 1;omega
theorem ZhV:∀(a:Str)(n m:Nat),n<18446744073709551616->ZcY a n=.ok m->m<18446744073709551616
 |[],n,m,hn,h=>by
  simp only[ZcY]at h;cases h;exact hn
 |x::a,n,m,hn,h=>by
  simp only[ZcY]at h;split at h
  .split at h
   .cases h
   .split at h
    .cases h
    .rename_i h3
     exact ZhV a _ m (by omega) h
  .cases h
theorem Zkr {s:Str}{k:Nat}(hk:k<18446744073709551616):numT s=some k↔1<=k/\Zbj k=s:=by
 constructor
 .intro h
  unfold numT at h;split at h
  .rename_i hc
   split at h
   .rename_i m hp
    split at h
    .rename_i hm
     cases h;refine⟨hm.1,?_⟩;cases s with
     |nil=>simp[cutV]at hc
     |cons c r=>
      simp only[cutV]at hc hm;by_cases hc1:c=118
      .rw [if_pos hc1] at hm
       rw[hc1];unfold Zbj;rw[hm.2]
      .rw [if_neg hc1] at hc
       cases hc
    .cases h
   .cases h
  .cases h
 .rintro ⟨h1,rfl⟩
  have hc:cutV (Zbj k)=(numS k,true):=by simp[cutV,Zbj]
  have hne:numS k≠[]:=by
   intro h0;have:=ZoC k;rw[h0]at this;simp at this
  unfold numT;rw[hc];simp only[if_true,ZeY,hne,if_false,ZsQ k k (qe _) hk];rw[if_pos ⟨h1,trivial⟩]
theorem Zu7 {s:Str}{k:Nat}(h:numT s=some k):k<18446744073709551616:=by
 unfold numT at h;split at h
 .split at h
  .rename_i m hp
   split at h
   .cases h
    unfold ZeY at hp;split at hp
    .cases hp
    .exact ZhV _ 0 _ (by omega) hp
   .cases h
  .cases h
 .cases h
end Go.Vs.Tryz
