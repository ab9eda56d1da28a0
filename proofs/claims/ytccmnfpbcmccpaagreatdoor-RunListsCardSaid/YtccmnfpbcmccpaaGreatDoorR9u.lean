/- The declaration of lists, read from tokens, walked. -/
import Derived.Test.YtccmnfpbcmccpaaGreatDoorR8u
set_option linter.unusedSimpArgs false
set_option linter.unusedVariables false
set_option linter.deprecated false
set_option maxHeartbeats 16000000
set_option maxRecDepth 100000
namespace Go.Vs
open Go
section
variable {C:Ctx}
theorem Cc {b b':VCode}{Q:Ex->St->Prop}{s:St}(hb:b'=b)(h:wp C b (fun e s'=>(e=.normal/\wp C (.loop b') Q s')\/(e≠.normal/\Q e s')) s):wp C (.loop b) Q s:=CF (hb▸h)
end
end Go.Vs
namespace Go.Vs.Tryz
open Go Go.Vs
variable {A:Ab}
def Hl:Str:=[76,105,115,116]
def sA:Str:=[97]
def dT:List Tok:=[⟨4,[100,97,116,97],0⟩,⟨2,Hl,5⟩,⟨1,sA,10⟩,⟨5,[61],12⟩,⟨2,[78,105,108],14⟩,⟨5,[124],18⟩,⟨2,[67,111,110,115],20⟩,⟨1,sA,25⟩,⟨5,[40],27⟩,⟨2,Hl,28⟩,⟨1,sA,33⟩,⟨5,[41],34⟩,⟨5,[59],35⟩]
def tyA:Ty:=.mk 5 sA 0 0 []
def tyL:Ty:=.mk 4 Hl 0 0 [tyA]
def cN:List Cell:=[.int .i64 14,.str [78,105,108],.sl []]
def cC:List Cell:=[.int .i64 20,.str [67,111,110,115],.sl [tyA.row,tyL.row]]
def listD:List Cell:=[.int .i64 0,.str Hl,.sl [[.str sA]],.sl [cN,cC]]
def Q2:VCode:=GV
def Kg:VCode:=FT
def RS:VCode:=I8
theorem WC {L:List Tok}{i j:Nat}(h:i≠j):[rdO L i]≠[rdO L j]:=by
 intro q;simp only[List.cons.injEq,Obj.box.injEq,W.c.injEq,Cell.int.injEq]at q;have:=q.1.2.1.2;omega
theorem Vk (hA:EQ A)(R:List Tok)(hL:(dT++R).length<=4000):FnOk Go.Proofs.Tryz.prog gl0 121 [.sc (.ptr 0 0)] [rdO (dT++R) 0] (.ag (wc listD)) [rdO (dT++R) 13]:=by
 have at0:(dT++R)[0]?=some ⟨4,[100,97,116,97],0⟩:=rfl;have at1:(dT++R)[1]?=some ⟨2,Hl,5⟩:=rfl;have at2:(dT++R)[2]?=some ⟨1,sA,10⟩:=rfl;have at3:(dT++R)[3]?=some ⟨5,[61],12⟩:=rfl;have at4:(dT++R)[4]?=some ⟨2,[78,105,108],14⟩:=rfl;have at5:(dT++R)[5]?=some ⟨5,[124],18⟩:=rfl;have at6:(dT++R)[6]?=some ⟨2,[67,111,110,115],20⟩:=rfl;have at7:(dT++R)[7]?=some ⟨1,sA,25⟩:=rfl
 have at8:(dT++R)[8]?=some ⟨5,[40],27⟩:=rfl;have at9:(dT++R)[9]?=some ⟨2,Hl,28⟩:=rfl;have at10:(dT++R)[10]?=some ⟨1,sA,33⟩:=rfl;have at11:(dT++R)[11]?=some ⟨5,[41],34⟩:=rfl;have at12:(dT++R)[12]?=some ⟨5,[59],35⟩:=rfl;have hlen:13<=(dT++R).length:=by simp[dT]
 generalize dT++R=L at *
 have hsp:=YK hA L 8 _ _ _ _ hL at8 (by decide) at9 rfl at10 rfl at11 (by decide);have S:=fun {f:FuncId} {a:List V} {o:List Obj} (h:f≠172)=>H0 (A:=A) (f0:=172) (a0:=[.sc (.ptr 0 0)]) (o0:=[rdO L 8]) (r0:=(tyV tyL,[rdO L 12])) (f:=f) (a:=a) (o:=o) h;have p0:=Fl (A:=A) L 0 (by omega);rw[Et at0,<-S (by decide)]at p0;have n0:=C7 (A:=A) L 0 [100,97,116,97] (by omega) (by omega) (by rw[AX at0];decide)
 rw[<-S (by decide)]at n0;have w1:=Dw (A:=A) L 1 2 _ (by omega) at1 rfl;rw[<-S (by decide)]at w1;have k2:=C0 (A:=A) L 2 1 (by omega);rw[BF at2,decide_eq_true rfl,<-S (by decide)]at k2;have w2:=Dw (A:=A) L 2 1 _ (by omega) at2 rfl;rw[<-S (by decide)]at w2;have k3:=C0 (A:=A) L 3 1 (by omega);rw[BF at3,decide_eq_false (by decide),<-S (by decide)]at k3
 have n3:=C7 (A:=A) L 3 [61] (by omega) (by omega) (by rw[AX at3];decide);rw[<-S (by decide)]at n3;have p4:=Fl (A:=A) L 4 (by omega);rw[Et at4,<-S (by decide)]at p4;have w4:=Dw (A:=A) L 4 2 _ (by omega) at4 rfl;rw[<-S (by decide)]at w4;have a5:=Hr (A:=A) L 5 hL;rw[BF at5,BF at5,AX at5,show(decide ((5:Int)=1)||decide ((5:Int)=2)||isM ⟨5,[124],18⟩ [40])=false by decide,<-S (by decide)]at a5
 have s5:=JJ (A:=A) L 5 [124] (by omega) (by omega) (by rw[AX at5];decide);rw[<-S (by decide)]at s5;have p6:=Fl (A:=A) L 6 (by omega);rw[Et at6,<-S (by decide)]at p6;have w6:=Dw (A:=A) L 6 2 _ (by omega) at6 rfl;rw[<-S (by decide)]at w6;have a7:=Hr (A:=A) L 7 hL;rw[BF at7,BF at7,AX at7,show(decide ((1:Int)=1)||decide ((1:Int)=2)||isM ⟨1,sA,25⟩ [40])=true by decide,<-S (by decide)]at a7
 have t7:=Su (A:=A) L 7 _ hL at7 rfl;rw[<-Xr (A:=A) (f0:=172) (a0:=[.sc (.ptr 0 0)]) (o0:=[rdO L 8]) (r0:=(tyV tyL,[rdO L 12])) (WC (show 7≠8 by decide))]at t7;have a8:=Hr (A:=A) L 8 hL;rw[BF at8,BF at8,AX at8,show(decide ((5:Int)=1)||decide ((5:Int)=2)||isM ⟨5,[40],27⟩ [40])=true by decide,<-S (by decide)]at a8
 have t8:=G5 (A:=A) (f0:=172) (a0:=[.sc (.ptr 0 0)]) (o0:=[rdO L 8]) (r0:=(tyV tyL,[rdO L 12]));have a12:=Hr (A:=A) L 12 hL;rw[BF at12,BF at12,AX at12,show(decide ((5:Int)=1)||decide ((5:Int)=2)||isM ⟨5,[59],35⟩ [40])=false by decide,<-S (by decide)]at a12;have s12:=Ey (A:=A) L 12 [124] (by omega) (by omega) (by rw[AX at12];decide);rw[<-S (by decide)]at s12
 have n12:=C7 (A:=A) L 12 [59] (by omega) (by omega) (by rw[AX at12];decide);rw[<-S (by decide)]at n12;have hO:=He hA (f0:=172) (a0:=[.sc (.ptr 0 0)]) (o0:=[rdO L 8]) (r0:=(tyV tyL,[rdO L 12])) hsp;clear S hsp;generalize spO A 172 [.sc (.ptr 0 0)] [rdO L 8] (tyV tyL,[rdO L 12])=O at *
 simp[rdO]at p0 n0 w1 k2 w2 k3 n3 p4 w4 a5 s5 p6 w6 a7 t7 a8 t8 a12 s12 n12;refine EZ hO (vf:=v121) (by kernel_rfl) rfl (by simp) ?_;unfold v121;simp(maxSteps:=9^7) (disch:=try exact zd) [p0,n0,w1];refine Cc (b':=Q2) rfl ?_;unfold GV;simp(maxSteps:=9^7) (disch:=try exact zd) [k2,w2];unfold Q2;refine Dj ?_;unfold GV;simp(maxSteps:=9^7) (disch:=try exact zd) [k3,n3];refine Cc (b':=RS) rfl ?_;unfold I8
 simp(maxSteps:=9^7) (disch:=try exact zd) [p4,w4];refine Dj ?_;unfold FT;simp(maxSteps:=9^7) (disch:=try exact zd) [a5,s5];unfold RS;refine Dj ?_;unfold I8;simp(maxSteps:=9^7) (disch:=try exact zd) [p6,w6];refine Cc (b':=Kg) rfl ?_;unfold FT;simp(maxSteps:=9^7) (disch:=try exact zd) [a7,t7];unfold Kg;refine Cc (b':=Kg) rfl ?_;unfold FT;simp(maxSteps:=9^7) (disch:=try exact zd) [a8,t8];unfold Kg
 refine Dj ?_;unfold FT;simp(maxSteps:=9^7) (disch:=try exact zd) [a12,s12,n12];rfl
variable {A:Ab}
def bRow (p:Int)(rc:Bool)(nm:Str)(e:Exp):List Cell:=.int .i64 p::.bool rc::.str nm::.bool false::(tz.row++e.row)
@[simp] theorem bRow_len (p:Int) (rc:Bool) (nm:Str) (e:Exp):(bRow p rc nm e).length=20:=by simp[bRow]
theorem Qj (L:List Tok)(hL:L.length<=4000)(hN:∀t∈L,t.kind=3->NumT t.text)(n I I1:Nat)(rc:Bool)(t0 t1 tn te ts:Tok)(e:Exp)(r:List Tok)(h0:L[I]?=some t0)(m0:isM t0 [108,101,116]=true)(h1:L[I+1]?=some t1)(m1:isM t1 [114,101,99]=rc)
 (hI1:I1=if rc then I+2 else I+1) (hn:L[I1]?=some tn) (kn:tn.kind=1) (he:L[I1+1]?=some te) (me:isM te [61]=true) (hb:rdE n (L.drop (I1+2))=some (e,ts::r)) (ms:isM ts [59]=true):
 ∃J,J<=L.length/\L.drop J=r/\(K A).call 122 [.sc (.ptr 0 0)] [rdO L I]=some (.ag (wc (bRow t0.pos rc tn.text e)),[rdO L J]):=by
 have l0:I+1<L.length:=(qf.1 h1).1;have l1:I1+1<L.length:=(qf.1 he).1;obtain⟨J,hJ,hdJ,hcb⟩:=RN (A:=A) L hL hN n (I1+2) e (ts::r) (by omega) hb;obtain⟨hts,hr,hJ1⟩:=BW hdJ;refine⟨J+1,hJ1,hr,fnO v122 ?_⟩;have p0:=Fl (A:=A) L I (by omega);rw[Et h0]at p0;have n0:=C7 (A:=A) L I [108,101,116] (by omega) (by omega) (by rw[AX h0,m0]);have s1:=Jn (A:=A) L (I+1) [114,101,99] (by omega) (by omega)
 rw[AX h1,m1]at s1;have hI1':(if rc=true then I+1+1 else I+1)=I1:=hI1.symm;rw[hI1']at s1;have w1:=Dw (A:=A) L I1 1 tn (by omega) hn kn;have s2:=Ey (A:=A) L (I1+1) [58] (by omega) (by omega) (by rw[AX he];exact Fz me (by decide));have n2:=C7 (A:=A) L (I1+1) [61] (by omega) (by omega) (by rw[AX he,me]);rw[show I1+1+1=I1+2 from rfl]at n2;have n3:=C7 (A:=A) L J [59] (by omega) hJ (by rw[AX hts,ms])
 simp[rdO]at p0 n0 s1 w1 s2 n2 hcb n3;unfold v122;simp(maxSteps:=9^7) (disch:=try exact zd) [p0,n0,s1,w1,s2,n2,hcb,n3];rfl
section
variable (p:Int)(rc:Bool)(nm:Str)(e:Exp)
@[simp] theorem cut_b0:cut (bRow p rc nm e) 0 1=some [.int .i64 p]:=by rfl
@[simp] theorem cut_b3:cut (bRow p rc nm e) 3 1=some [.bool false]:=by rfl
@[simp] theorem cut_b9:cut (bRow p rc nm e) 9 11=some e.row:=by rw[bRow,Exp.row_eq];rfl
@[simp] theorem L7:cut (bRow p rc nm e) 0 20=some (bRow p rc nm e):=by rw[bRow,Exp.row_eq];rfl
@[simp] theorem cutw_b0:cut (wc (bRow p rc nm e)) 0 1=some [.c (.int .i64 p)]:=by rfl
@[simp] theorem cutw_b3:cut (wc (bRow p rc nm e)) 3 1=some [.c (.bool false)]:=by rfl
@[simp] theorem cutw_b9:cut (wc (bRow p rc nm e)) 9 11=some (wc e.row):=by rw[bRow,Exp.row_eq];rfl
@[simp] theorem cutw_b:cut (wc (bRow p rc nm e)) 0 20=some (wc (bRow p rc nm e)):=by rw[bRow,Exp.row_eq];rfl
end
theorem WL:(K A).call 174 [tyV tyA] []=some (intV 0,[]):=A8 (n:=9) (by kernel_rfl)
theorem Xd:(K A).call 174 [tyV tyL] []=some (intV 1,[]):=A8 (n:=9) (by kernel_rfl)
def Je:VCode:=Eh
def J5:VCode:=ER
def Tp:VCode:=Fc
def Jf:VCode:=Gj
def Rq:VCode:=HD
def KI:VCode:=IM
structure FitE (e:Exp):Prop where
 wt:e.weight<=687194767360
 an:Ga e
 dp:Bw e<=40
 th:thin e
abbrev Ec (b1 b2:List Cell):List W:=[.c (.sl [listD]),.c (.sl [b1,b2])]
theorem Zcr (p1 p2:Int)(r1 r2:Bool)(n1 n2:Str)(e1 e2:Exp)(h1:FitE e1)(h2:FitE e2):(K A).call 123 [.ag (Ec (bRow p1 r1 n1 e1) (bRow p2 r2 n2 e2))] []=some (.ag [zi,zi],[]):=by
 have a1:=M7 (A:=A) e1 h1.wt h1.an h1.dp;have a2:=M7 (A:=A) e2 h2.wt h2.an h2.dp;have b1:=Lo (A:=A) e1 h1.wt h1.th;have b2:=Lo (A:=A) e2 h2.wt h2.th;have dA:=WL (A:=A);have dL:=Xd (A:=A);have lA:tyA.row.length=5:=rfl;have lL:tyL.row.length=5:=rfl;have cA:cut tyA.row 0 5=some tyA.row:=rfl;have cL:cut tyL.row 0 5=some tyL.row:=rfl;refine fnO v123 ?_;unfold v123
 simp(maxSteps:=9^7) (disch:=try exact zd) [listD,cN,cC];refine Cc (b':=Tp) rfl ?_;unfold Fc;simp(maxSteps:=9^7) (disch:=try exact zd) [listD,cN,cC];refine Cc (b':=Je) rfl ?_;unfold Eh;simp(maxSteps:=9^7) (disch:=try exact zd) [listD,cN,cC];unfold Je;refine Cc (b':=Je) rfl ?_;unfold Eh;simp(maxSteps:=9^7) (disch:=try exact zd) [listD,cN,cC];unfold Je;refine Dj ?_;unfold Eh
 simp(maxSteps:=9^7) (disch:=try exact zd) [listD,cN,cC];unfold Tp;refine Dj ?_;unfold Fc;simp(maxSteps:=9^7) (disch:=try exact zd) [listD,cN,cC];refine Cc (b':=Rq) rfl ?_;unfold HD;simp(maxSteps:=9^7) (disch:=try exact zd) [listD,cN,cC];refine Cc (b':=Jf) rfl ?_;unfold Gj;simp(maxSteps:=9^7) (disch:=try exact zd) [listD,cN,cC];refine Dj ?_;unfold ER
 simp(maxSteps:=9^7) (disch:=try exact zd) [listD,cN,cC];unfold Jf;refine Cc (b':=Jf) rfl ?_;unfold Gj;simp(maxSteps:=9^7) (disch:=try exact zd) [listD,cN,cC];refine Cc (b':=J5) rfl ?_;unfold ER;simp(maxSteps:=9^7) (disch:=try exact zd) [listD,cN,cC,lA,cA,dA];unfold J5;refine Cc (b':=J5) rfl ?_;unfold ER;simp(maxSteps:=9^7) (disch:=try exact zd) [listD,cN,cC,lL,cL,dL];unfold J5;refine Dj ?_
 unfold ER;simp(maxSteps:=9^7) (disch:=try exact zd) [listD,cN,cC];unfold Jf;refine Dj ?_;unfold Gj;simp(maxSteps:=9^7) (disch:=try exact zd) [listD,cN,cC];unfold Rq;refine Dj ?_;unfold HD;simp(maxSteps:=9^7) (disch:=try exact zd) [listD,cN,cC];refine Cc (b':=KI) rfl ?_;unfold IM;simp(maxSteps:=9^7) (disch:=try exact zd) [listD,cN,cC,a1,b1];unfold KI;refine Cc (b':=KI) rfl ?_;unfold IM
 simp(maxSteps:=9^7) (disch:=try exact zd) [listD,cN,cC,a2,b2];unfold KI;refine Dj ?_;unfold IM;simp(maxSteps:=9^7) (disch:=try exact zd) [listD,cN,cC]
 trace_state
end Go.Vs.Tryz
namespace Go.Vs
open Go
section
variable {C:Ctx}{E:Nat->Option V}{L:Nat->Option Obj}{oid:Nat}
def LX (L:Nat->Option Obj)(oid:Nat)(y:List W×Upd):Option (V×Upd):=bif y.2.all (fun u=>(L u.1).isNone) then some (.sc (.ptr oid 0),y.2++[(oid,some (.box y.1))]) else none
@[simp] theorem nwOwn_eq {cs:List W} {u:Upd}:LX L oid (cs,u)=bif u.all (fun u=>(L u.1).isNone) then some (.sc (.ptr oid 0),u++[(oid,some (.box cs))]) else none:=rfl
@[simp] theorem x_nwOwn {cells:List W} {p:Nat×Nat} {own:List (Nat×Nat)}:Ae C E L oid (.new cells (p::own))=newK (L oid) (LX L oid (ownW oid (p::own) 0 cells)):=by
 simp only[Ae,newK,LX];cases L oid<;>rfl
end
end Go.Vs
namespace Go.Vs.Tryz
open Go Go.Vs
variable {A:Ab}
def GE:VCode:=GO
theorem Zct (hA:EQ A)(l:List Pc)(R:List Tok)(hT:Ar 0 l=dT++R)(hs:(Al l).length<=4000)(hok:CY A l)(hlen:(dT++R).length<=4000)(J1 J2:Nat)(t1 t2:Tok)(r:List Tok)(p1 p2:Int)(rc1 rc2:Bool)(n1 n2:Str)(e1 e2:Exp)
 (hR:R=t1::r) (m1:isM t1 [108,101,116]=true) (hJ1:(dT++R)[J1]?=some t2) (m2:isM t2 [108,101,116]=true) (hJ2:J2=(dT++R).length)
 (c1:(K A).call 122 [.sc (.ptr 0 0)] [rdO (dT++R) 13]=some (.ag (wc (bRow p1 rc1 n1 e1)),[rdO (dT++R) J1])) (c2:(K A).call 122 [.sc (.ptr 0 0)] [rdO (dT++R) J1]=some (.ag (wc (bRow p2 rc2 n2 e2)),[rdO (dT++R) J2])) (f1:FitE e1) (f2:FitE e2):
 FnOk Go.Proofs.Tryz.prog gl0 72 [strV (Al l)] [] (.tu [.ag (Ec (bRow p1 rc1 n1 e1) (bRow p2 rc2 n2 e2)),.ag [zi,zi]]) []:=by
 have h74:=Qc (A:=A) l hs hok;rw[hT]at h74;have at0:(dT++R)[0]?=some ⟨4,[100,97,116,97],0⟩:=rfl;have at13:(dT++R)[13]?=some t1:=by rw[hR];rfl
 have hdecl:=Vk hA R hlen;have h75:=Rv (A:=A) (dT++R);have d123:=Zcr (A:=A) p1 p2 rc1 rc2 n1 n2 e1 e2 f1 f2;generalize dT++R=L at *
 have l13:13<L.length:=(qf.1 at13).1;have lJ:J1<L.length:=(qf.1 hJ1).1;have S:=fun {f:FuncId} {a:List V} {o:List Obj} (h:f≠121)=>H0 (A:=A) (f0:=121) (a0:=[.sc (.ptr 0 0)]) (o0:=[rdO L 0]) (r0:=(.ag (wc listD),[rdO L 13])) (f:=f) (a:=a) (o:=o) h;have i0:=IL (A:=A) L 0 [100,97,116,97] (by omega);rw[AX at0,show isM ⟨4,[100,97,116,97],0⟩ [100,97,116,97]=true by decide,<-S (by decide)]at i0
 have i1:=IL (A:=A) L 13 [100,97,116,97] (by omega);rw[AX at13,Fz m1 (by decide),<-S (by decide)]at i1;have i2:=IL (A:=A) L J1 [100,97,116,97] (by omega);rw[AX hJ1,Fz m2 (by decide),<-S (by decide)]at i2;rw[<-S (by decide)]at h74 h75 c1 c2 d123;have h121:=G5 (A:=A) (f0:=121) (a0:=[.sc (.ptr 0 0)]) (o0:=[rdO L 0]) (r0:=(.ag (wc listD),[rdO L 13]))
 have hO:=He hA (f0:=121) (a0:=[.sc (.ptr 0 0)]) (o0:=[rdO L 0]) (r0:=(.ag (wc listD),[rdO L 13])) hdecl;clear S hdecl;generalize spO A 121 [.sc (.ptr 0 0)] [rdO L 0] (.ag (wc listD),[rdO L 13])=O at *
 simp[rdO]at i0 i1 i2 h75 h121 c1 c2;have z0:(0:Int)<L.length:=by omega
 have z1:(13:Int)<L.length:=by omega
 have z2:(J1:Int)<L.length:=by omega
 have y0:0<L.length:=by omega
 have y1:13<L.length:=l13;have z3:¬(J2:Int)<L.length:=by omega
 have x1:(bRow p1 rc1 n1 e1).length=20:=by simp
 have x2:(bRow p2 rc2 n2 e2).length=20:=by simp
 generalize bRow p1 rc1 n1 e1=b1 at *
 generalize bRow p2 rc2 n2 e2=b2 at *
 have ld:listD.length=4:=rfl;simp only[Ec]at d123 |-;generalize listD=dd at *
 refine EZ hO (vf:=v72) (by kernel_rfl) rfl (by simp) ?_;unfold v72;simp(maxSteps:=9^7) (disch:=try exact zd) [h74,h75];refine Cc (b':=GE) rfl ?_;unfold GO;simp(maxSteps:=9^7) (disch:=try exact zd) [z0,y0,i0,h121,ld];unfold GE;refine Cc (b':=GE) rfl ?_;unfold GO;simp(maxSteps:=9^7) (disch:=try exact zd) [z1,y1,i1,c1,x1];unfold GE;refine Cc (b':=GE) rfl ?_;unfold GO
 simp(maxSteps:=9^7) (disch:=try exact zd) [z2,lJ,i2,c2,x2];unfold GE;refine Dj ?_;unfold GO;simp(maxSteps:=9^7) (disch:=try exact zd) [z3,d123]
theorem Wl (l:List Pc)(L:List Tok)(hT:Ar 0 l=L)(hs:(Al l).length<=4000)(hok:CY A l)(hlen:L.length<=4000)(hN:∀t∈L,t.kind=3->NumT t.text)(n:Nat)(e:Exp)(h:rdE n L=some (e,[]))(f:FitE e):
 (K A).call 38 [strV (Al l)] []=some (.tu [expV e,.ag [zi,zi]],[]):=by
 have h74:=Qc (A:=A) l hs hok;rw[hT]at h74;have h75:=Rv (A:=A) L;obtain⟨J,hJ,hdJ,hc⟩:=RN (A:=A) L hlen hN n 0 e [] (qai _) h;have hJL:J=L.length:=by
  have:L.length<=J:=by simpa using hdJ
  omega
 have a1:=M7 (A:=A) e f.wt f.an f.dp;have b1:=Lo (A:=A) e f.wt f.th;have z3:¬(J:Int)<L.length:=by omega
 have y3:¬J<L.length:=by omega
 simp[rdO]at h75 hc;refine fnO v38 ?_;unfold v38;simp(maxSteps:=9^7) (disch:=try exact zd) [h74,h75,hc,z3,y3,a1,b1]
theorem Y7 (hA:EQ A)(s:Str)(w:List W)(h:FnOk Go.Proofs.Tryz.prog gl0 72 [strV s] [] (.tu [.ag w,.ag [zi,zi]]) [])(hw:∃a b:List (List Cell),w=[.c (.sl a),.c (.sl b)]):FnOk Go.Proofs.Tryz.prog gl0 34 [strV s] [] (.ag w) []:=by
 obtain⟨a,b,rfl⟩:=hw;have h72:=G5 (A:=A) (f0:=72) (a0:=[strV s]) (o0:=[]) (r0:=(.tu [.ag [.c (.sl a),.c (.sl b)],.ag [zi,zi]],[]));have hO:=He hA (f0:=72) (a0:=[strV s]) (o0:=[]) (r0:=(.tu [.ag [.c (.sl a),.c (.sl b)],.ag [zi,zi]],[])) h;generalize spO A 72 [strV s] [] (.tu [.ag [.c (.sl a),.c (.sl b)],.ag [zi,zi]],[])=O at *
 refine EZ hO (vf:=v34) (by kernel_rfl) rfl (by simp) ?_;unfold v34;simp(maxSteps:=9^7) (disch:=try exact zd) [h72]
variable {A:Ab}
theorem ZA:∀n:Nat,(numS n).head?=some 48->(numS n).length=1:=by
 intro n
 induction n using Nat.strongRecOn with
 |ind n ih=>
  intro h;by_cases hn:n<10
  .rw[Cn hn];rfl
  .rw [Dp hn] at h |-
   have hp:=IP (n / 10);have h1:(numS (n / 10)).head?=some 48:=by
    cases hq:numS (n / 10)with
    |nil=>rw[hq]at hp;simp at hp
    |cons c r=>rw[hq]at h;simpa using h
   have h2:=ih (n / 10) (by omega) h1;by_cases hm:n / 10<10
   .rw [Cn hm] at h1
    have h4:UInt8.ofNat (48+n / 10)=48:=qV h1;have h3:(UInt8.ofNat (48+n / 10)).toNat=48:=(by rw[h4];rfl);rw[UInt8.toNat_ofNat']at h3;omega
   .have h3:=IP (n / 10 / 10)
    rw[Dp hm]at h2;simp at h2;rw[h2]at h3;simp at h3
theorem Ka (n:Nat)(h:n<=999):NumT (numS n) where
 dig:=fun b hb=>by
  have:=K1 n b hb;unfold digP;simp;omega
 pos:=fun q=>by have:=IP n;rw[q]at this;simp at this
 len:=qr (Gt n 3 (by omega) (by omega)) (by omega)
 head:=ZA n
theorem ZcS:∀n:Nat,numK (numS n)=n:=by
 intro n
 induction n using Nat.strongRecOn with
 |ind n ih=>
  by_cases hn:n<10
  .rw [Cn hn]
   show 10*0+((UInt8.ofNat (48+n)).toNat-48)=n;rw[UInt8.toNat_ofNat'];omega
  .rw [Dp hn]
   have:=ih (n / 10) (by omega);unfold numK at this |-;rw[qav,this];show 10*(n / 10)+((UInt8.ofNat (48+n % 10)).toNat-48)=n;rw[UInt8.toNat_ofNat'];omega
def Ak:List Nat->List Pc
 |[]=>[.tok 2 sNil]
 |n::l=>.tok 5 [40]::.tok 2 Ap::.blank::.tok 3 (numS n)::.blank::(Ak l++[.tok 5 [41]])
theorem GK:∀(l m:List Pc)(p:Nat),Ar p (l++m)=Ar p l++Ar (p+(Al l).length) m
 |[],m,p=>rfl
 |.blank::l,m,p=>by
  show Ar (p+1) (l++m)=_;rw[GK l m (p+1),FW];simp[Ar,Pc.text,qaP,Nat.add_comm]
 |.tok k s::l,m,p=>by
  show(⟨k,s,p⟩:Tok)::Ar (p+s.length) (l++m)=_;rw[GK l m (p+s.length),FW];simp[Ar,Pc.text,qaP]
def lstX:Nat->List Nat->Exp
 |p,[]=>.mk 2 p sNil 0 [] [] tz
 |p,n::l=>appX (appX (.mk 2 ((p+1:Nat):Int) Ap 0 [] [] tz) (.mk 3 ((p+6:Nat):Int) [] n [] [] tz)) (lstX (p+6+(numS n).length+1) l)
theorem MA (p n:Nat)(l:List Nat):Ar p (Ak (n::l))=⟨5,[40],p⟩::⟨2,Ap,(p+1:Nat)⟩::⟨3,numS n,(p+6:Nat)⟩::(Ar (p+6+(numS n).length+1) (Ak l)++[⟨5,[41],(p+6+(numS n).length+1+(Al (Ak l)).length:Nat)⟩]):=by
 show(⟨5,[40],p⟩:Tok)::⟨2,Ap,(p+1:Nat)⟩::⟨3,numS n,(p+1+4+1:Nat)⟩::Ar (p+1+4+1+(numS n).length+1) (Ak l++[.tok 5 [41]])=_;rw[GK];rfl
theorem Oi (p:Nat)(l:List Nat):∃t r,Ar p (Ak l)=t::r/\Es t=true:=by
 cases l with
 |nil=>exact⟨_,_,rfl,rfl⟩
 |cons n l=>exact⟨_,_,MA p n l,rfl⟩
theorem JF {R:Rd}{k:Nat}{e a:Exp}{t:Tok}{r r':List Tok}(hs:Es t=true)(h:rdA R (t::r)=some (a,r')):De R (k+1) e (t::r)=De R k (appX e a) r':=by
 simp only[De,hs,if_true,h]
theorem Qn {R:Rd}{k:Nat}{e:Exp}{t:Tok}{r:List Tok}(hs:Es t=false):De R (k+1) e (t::r)=some (e,t::r):=by
 simp only[De,hs];rfl
theorem JU:∀(l:List Nat)(p n:Nat)(r:List Tok),l.length<n->rdA (rdE n) (Ar p (Ak l)++r)=some (lstX p l,r)
 |[],p,n,r,h=>rfl
 |m::l,p,n,r,h=>by
  obtain⟨n,rfl⟩:∃k,n=k+1:=⟨n-1,by omega⟩;rw[MA];have ih:=fun q r=>JU l q n r (by simp at h;omega);generalize hP:p+6+(numS m).length+1=P at *
  generalize hC:(⟨5,[41],(P+(Al (Ak l)).length:Nat)⟩:Tok)=c at *
  have hc:Es c=false/\isM c [41]=true:=by rw[<-hC];exact⟨rfl,rfl⟩
  obtain⟨t,q,ht,hs⟩:=Oi P l;have hE:rdE (n+1) (⟨2,Ap,(p+1:Nat)⟩::⟨3,numS m,(p+6:Nat)⟩::(Ar P (Ak l)++[c]++r))=some (lstX p (m::l),c::r):=by
   have e0:rdE (n+1) (⟨2,Ap,(p+1:Nat)⟩::⟨3,numS m,(p+6:Nat)⟩::(Ar P (Ak l)++[c]++r))=
    De (rdE n) ((Ar P (Ak l)++[c]++r).length+1+1) (.mk 2 ((p+1:Nat):Int) Ap 0 [] [] tz) (⟨3,numS m,(p+6:Nat)⟩::(Ar P (Ak l)++[c]++r)):=rfl
   have e1:rdA (rdE n) (⟨3,numS m,(p+6:Nat)⟩::(Ar P (Ak l)++[c]++r))=some (.mk 3 ((p+6:Nat):Int) [] (numK (numS m)) [] [] tz,Ar P (Ak l)++[c]++r):=rfl;have e2:=ih P ([c]++r);rw[e0,JF rfl e1,ZcS,qW];rw[ht]at e2 |-;obtain⟨k,hk⟩:∃k,(t::q++([c]++r)).length+1=k+1+1:=⟨(q++([c]++r)).length,by simp⟩;rw[hk,q9,JF hs (by rw[<-q9];exact e2)];rw[show[c]++r=c::r from rfl,Qn hc.1];simp only[lstX,hP]
  have e3:rdA (rdE (n+1)) (⟨5,[40],p⟩::⟨2,Ap,(p+1:Nat)⟩::⟨3,numS m,(p+6:Nat)⟩::(Ar P (Ak l)++[c]++r))=
   (match rdE (n+1) (⟨2,Ap,(p+1:Nat)⟩::⟨3,numS m,(p+6:Nat)⟩::(Ar P (Ak l)++[c]++r))with
   |some (e,c::r')=>if isM c [41] then some (e,r') else none
   |_=>none):=rfl
  show rdA (rdE (n+1)) (⟨5,[40],p⟩::⟨2,Ap,(p+1:Nat)⟩::⟨3,numS m,(p+6:Nat)⟩::(Ar P (Ak l)++[c]++r))=_;rw[e3,hE];simp only[hc.2,if_true]
def fitB (e:Exp):Bool:=e.fold fun e l=>decide (e.kind≠9)&&e.arms.all (fun a=>decide (a.1.vars.length<=4))&&l.all id
theorem WG (e:Exp):fitB e=(decide (e.kind≠9)&&e.arms.all (fun a=>decide (a.1.vars.length<=4))&&(e.children.map fitB).all id):=Exp.fold_eq _ e
theorem Hm (e:Exp):fitB e=true->Ga e/\thin e:=by
 induction e using Exp.ind with
 |h e ih=>
  intro h;rw[WG]at h;simp at h;rw[Pv,Qy];exact⟨⟨h.1.1,fun x hx=>(ih x hx (h.2 x hx)).1⟩,⟨fun a ha=>h.1.2 a.1 a.2 ha,fun x hx=>(ih x hx (h.2 x hx)).2⟩⟩
theorem Jm (f a:Exp):fitB (appX f a)=(fitB f&&fitB a):=by
 unfold fitB;rw[Exp.fold_eq];simp[Exp.children,Exp.kids,Exp.arms,Exp.kind]
theorem JK (f a:Exp):Bw (appX f a)<=1+max (Bw f) (Bw a):=by
 rw[Gh];refine Sr _ _ fun d hd=>?_;simp[Exp.children,Exp.kids,Exp.arms]at hd;rcases hd with rfl|rfl<;>omega
theorem I3 (f a:Exp):(appX f a).weight=1+(f.weight+a.weight):=by rw[Dr];simp
theorem HJ:∀(l:List Nat)(p:Nat),fitB (lstX p l)=true/\Bw (lstX p l)<=l.length+2/\(lstX p l).weight<=1+4*l.length
 |[],p=>⟨rfl,by rw[Gh];exact qai _,by show(Exp.mk 2 p sNil 0 [] [] tz).weight<=_;rw[Dr];simp⟩
 |n::l,p=>by
  obtain⟨h1,h2,h3⟩:=HJ l (p+6+(numS n).length+1);simp only[lstX];generalize lstX (p+6+(numS n).length+1) l=x at *
  have d0:Bw (.mk 2 ((p+1:Nat):Int) Ap 0 [] [] tz)=0:=by rw[Gh];rfl
  have d1:Bw (.mk 3 ((p+6:Nat):Int) [] n [] [] tz)=0:=by rw[Gh];rfl
  have w0:(Exp.mk 2 ((p+1:Nat):Int) Ap 0 [] [] tz).weight=1:=by rw[Dr];rfl
  have w1:(Exp.mk 3 ((p+6:Nat):Int) [] n [] [] tz).weight=1:=by rw[Dr];rfl
  refine⟨?_,?_,?_⟩
  .rw[Jm,Jm,h1];rfl
  .have q1:=JK (appX (.mk 2 ((p+1:Nat):Int) Ap 0 [] [] tz) (.mk 3 ((p+6:Nat):Int) [] n [] [] tz)) x
   have q2:=JK (.mk 2 ((p+1:Nat):Int) Ap 0 [] [] tz) (.mk 3 ((p+6:Nat):Int) [] n [] [] tz);rw[d0,d1]at q2;simp only[qF];omega
  .rw [I3,I3,w0,w1,qF]
   omega
theorem Kp (f a:Exp):Ai (appX f a)=appE (Ai f) (Ai a):=by rw[DT];rfl
theorem J7:∀(l:List Nat)(p:Nat),Ai (lstX p l)=lstE l
 |[],p=>rfl
 |n::l,p=>by
  simp only[lstX];rw[Kp,Kp,J7 l];rfl
variable {A:Ab}
def prePc:List Pc:=[.tok 4 [100,97,116,97],.blank,.tok 2 [76,105,115,116],.blank,.tok 1 [97],.blank,.tok 5 [61],.blank,.tok 2 [78,105,108],.blank,.tok 5 [124],.blank,.tok 2 [67,111,110,115],.blank,.tok 1 [97],.blank,.tok 5 [40],.tok 2 [76,105,115,116],.blank,.tok 1 [97],.tok 5 [41],.tok 5 [59],.blank,.tok 4 [108,101,116],.blank,.tok 4 [114,101,99],.blank,.tok 1 [97,112,112],.blank,.tok 5 [61],.blank,.tok 5 [92],.tok 1 [120],.tok 5 [46],.blank,.tok 5 [92],.tok 1 [121],.tok 5 [46],.blank,.tok 4 [99,97,115,101],.blank,.tok 1 [120],.blank,.tok 4 [111,102],.blank,.tok 2 [78,105,108],.tok 5 [46],.blank,.tok 1 [121],.blank,.tok 5 [124],.blank,.tok 2 [67,111,110,115],.blank,.tok 1 [104],.blank,.tok 1 [116],.tok 5 [46],.blank,.tok 2 [67,111,110,115],.blank,.tok 1 [104],.blank,.tok 5 [40],.tok 1 [97,112,112],.blank,.tok 1 [116],.blank,.tok 1 [121],.tok 5 [41],.blank,.tok 4 [101,110,100],.tok 5 [59],.blank,.tok 4 [108,101,116],.blank,.tok 1 [110],.blank,.tok 5 [61],.blank,.tok 1 [97,112,112],.blank]
def wordsT:List (Nat×Str):=[(4,[100,97,116,97]),(2,[76,105,115,116]),(1,[97]),(5,[61]),(2,[78,105,108]),(5,[124]),(2,[67,111,110,115]),(5,[40]),(5,[41]),(5,[59]),(4,[108,101,116]),(4,[114,101,99]),(1,[97,112,112]),(5,[92]),(1,[120]),(5,[46]),(1,[121]),(4,[99,97,115,101]),(4,[111,102]),(1,[104]),(1,[116]),(4,[101,110,100]),(1,[110])]
theorem kW0:(K A).call 125 [strV [100,97,116,97]] []=some (intV 4,[]):=A8 (n:=14) (by kernel_rfl)
theorem kW1:(K A).call 125 [strV [76,105,115,116]] []=some (intV 2,[]):=A8 (n:=14) (by kernel_rfl)
theorem kW2:(K A).call 125 [strV [97]] []=some (intV 1,[]):=A8 (n:=14) (by kernel_rfl)
theorem kW3:(K A).call 125 [strV [61]] []=some (intV 5,[]):=A8 (n:=14) (by kernel_rfl)
theorem kW4:(K A).call 125 [strV [78,105,108]] []=some (intV 2,[]):=A8 (n:=14) (by kernel_rfl)
theorem kW5:(K A).call 125 [strV [124]] []=some (intV 5,[]):=A8 (n:=14) (by kernel_rfl)
theorem kW6:(K A).call 125 [strV [67,111,110,115]] []=some (intV 2,[]):=A8 (n:=14) (by kernel_rfl)
theorem kW7:(K A).call 125 [strV [40]] []=some (intV 5,[]):=A8 (n:=14) (by kernel_rfl)
theorem kW8:(K A).call 125 [strV [41]] []=some (intV 5,[]):=A8 (n:=14) (by kernel_rfl)
theorem kW9:(K A).call 125 [strV [59]] []=some (intV 5,[]):=A8 (n:=14) (by kernel_rfl)
theorem kW10:(K A).call 125 [strV [108,101,116]] []=some (intV 4,[]):=A8 (n:=14) (by kernel_rfl)
theorem kW11:(K A).call 125 [strV [114,101,99]] []=some (intV 4,[]):=A8 (n:=14) (by kernel_rfl)
theorem kW12:(K A).call 125 [strV [97,112,112]] []=some (intV 1,[]):=A8 (n:=14) (by kernel_rfl)
theorem kW13:(K A).call 125 [strV [92]] []=some (intV 5,[]):=A8 (n:=14) (by kernel_rfl)
theorem kW14:(K A).call 125 [strV [120]] []=some (intV 1,[]):=A8 (n:=14) (by kernel_rfl)
theorem kW15:(K A).call 125 [strV [46]] []=some (intV 5,[]):=A8 (n:=14) (by kernel_rfl)
theorem kW16:(K A).call 125 [strV [121]] []=some (intV 1,[]):=A8 (n:=14) (by kernel_rfl)
theorem kW17:(K A).call 125 [strV [99,97,115,101]] []=some (intV 4,[]):=A8 (n:=14) (by kernel_rfl)
theorem kW18:(K A).call 125 [strV [111,102]] []=some (intV 4,[]):=A8 (n:=14) (by kernel_rfl)
theorem kW19:(K A).call 125 [strV [104]] []=some (intV 1,[]):=A8 (n:=14) (by kernel_rfl)
theorem kW20:(K A).call 125 [strV [116]] []=some (intV 1,[]):=A8 (n:=14) (by kernel_rfl)
theorem kW21:(K A).call 125 [strV [101,110,100]] []=some (intV 4,[]):=A8 (n:=14) (by kernel_rfl)
theorem kW22:(K A).call 125 [strV [110]] []=some (intV 1,[]):=A8 (n:=14) (by kernel_rfl)
theorem GZ:∀p∈wordsT,(K A).call 125 [strV p.2] []=some (intV (p.1:Nat),[]):=by
 intro p hp;simp only[wordsT,qD,qas,or_false]at hp;rcases hp with rfl|rfl|rfl|rfl|rfl|rfl|rfl|rfl|rfl|rfl|rfl|rfl|rfl|rfl|rfl|rfl|rfl|rfl|rfl|rfl|rfl|rfl|rfl
 .exact kW0
 .exact kW1
 .exact kW2
 .exact kW3
 .exact kW4
 .exact kW5
 .exact kW6
 .exact kW7
 .exact kW8
 .exact kW9
 .exact kW10
 .exact kW11
 .exact kW12
 .exact kW13
 .exact kW14
 .exact kW15
 .exact kW16
 .exact kW17
 .exact kW18
 .exact kW19
 .exact kW20
 .exact kW21
 .exact kW22
def T5 (r:Str):Bool:=match r with | []=>false | c::_=>!innP c
def pcB:List Pc->Bool
 |[]=>true
 |.blank::r=>pcB r
 |.tok k s::r=>wordsT.contains (k,s)&&decide (k≠0)&&((decide (s≠[])&&s.all innP&&T5 (Al r))||(match s with | [b]=>mrkB b | _=>false))&&pcB r
theorem Wg {r m:Str}(h:T5 r=true):Ho (r++m)=true:=by
 cases r with
 |nil=>cases h
 |cons c r=>exact h
theorem Lk:∀(l m:List Pc),pcB l=true->CY A m->CY A (l++m)
 |[],_,_,h=>h
 |.blank::l,m,h,hm=>Lk l m h hm
 |.tok k s::l,m,h,hm=>by
  simp only[pcB,qe,qar,decide_eq_true_eq,List.contains_iff_mem,qx]at h;obtain⟨⟨⟨h1,h2⟩,h3⟩,h4⟩:=h;refine⟨⟨h2,GZ (k,s) h1,?_⟩,Lk l m h4 hm⟩;rcases h3 with ⟨⟨h5,h6⟩,h7⟩|h5
  .exact .inl ⟨h5,h6,by show Ho (Al (l++m))=true;rw[Gs];exact Wg h7⟩
  .match s,h5 with
   |[b],h5=>exact .inr ⟨b,rfl,h5⟩
theorem Kn:∀(l:List Nat)(m:List Pc),(∀n∈l,n<=999)->CY A m->Ho (Al m)=true->CY A (Ak l++m)
 |[],m,_,hm,hs=>⟨⟨by decide,GZ (2,sNil) (by decide),.inl ⟨by decide,by decide,hs⟩⟩,hm⟩
 |n::l,m,hn,hm,hs=>by
  have hq:=Ka n (hn n (by simp));have ih:=Kn l (.tok 5 [41]::m) (fun k hk=>hn k (by simp[hk])) ⟨⟨by decide,GZ (5,[41]) (by decide),.inr ⟨41,rfl,by decide⟩⟩,hm⟩ rfl;show CY A (.tok 5 [40]::.tok 2 Ap::.blank::.tok 3 (numS n)::.blank::(Ak l++[.tok 5 [41]]++m));rw[qW];refine⟨⟨by decide,GZ (5,[40]) (by decide),.inr ⟨40,rfl,by decide⟩⟩,⟨by decide,GZ (2,Ap) (by decide),.inl ⟨by decide,by decide,rfl⟩⟩,?_⟩
  exact⟨⟨by decide,Ve (numS n) hq,.inl ⟨hq.pos,fun b hb=>(H3 (hq.dig b hb)).2.2,rfl⟩⟩,ih⟩
def CB (a b:List Nat):List Pc:=prePc++(Ak a++(.blank::(Ak b++[.tok 5 [59]])))
theorem Zbi {a b:List Nat}(ha:∀n∈a,n<=999)(hb:∀n∈b,n<=999):CY A (CB a b):=by
 have h3:CY A (Ak b++[.tok 5 [59]]):=Kn b _ hb ⟨⟨by decide,GZ (5,[59]) (by decide),.inr ⟨59,rfl,by decide⟩⟩,trivial⟩ rfl;exact Lk _ _ (by decide) (Kn a _ ha h3 rfl)
theorem UU {l:List Nat}(h:∀n∈l,n<=999):CY A (Ak l):=by
 have:=Kn (A:=A) l [] h trivial rfl;rwa[qJ]at this
theorem Gz:∀l:List Nat,(∀n∈l,n<=999)->(Al (Ak l)).length<=3+11*l.length
 |[],_=>by decide
 |n::l,h=>by
  have ih:=Gz l fun k hk=>h k (by simp[hk]);have hn:=Gt n 3 (by have:=h n (by simp);omega) (by omega);show(Al (.tok 5 [40]::.tok 2 Ap::.blank::.tok 3 (numS n)::.blank::(Ak l++[.tok 5 [41]]))).length<=_;simp only[FW,Gs,Pc.text,qI,qF,qR,show Al []=[]from rfl];omega
theorem JY:∀(l:List Pc)(p:Nat),(Ar p l).length<=l.length
 |[],_=>qg _
 |.blank::l,p=>Nat.le_succ_of_le (JY l (p+1))
 |.tok k s::l,p=>Nat.succ_le_succ (JY l (p+s.length))
theorem Nh:∀l:List Nat,(Ak l).length=1+6*l.length
 |[]=>rfl
 |n::l=>by
  have ih:=Nh l;simp only[Ak,qF,qI,qR,ih];omega
theorem Kb:∀(l:List Pc)(p:Nat)(t:Tok),t∈Ar p l->t.kind=3->.tok 3 t.text∈l
 |[],_,_,h,_=>by cases h
 |.blank::l,p,t,h,hk=>qaG _ (Kb l (p+1) t h hk)
 |.tok k s::l,p,t,h,hk=>by
  rcases qD.1 h with rfl|h
  .have:k=3:=by
    have:(k:Int)=3:=hk;omega
   subst this;exact List.mem_cons_self
  .exact qaG _ (Kb l (p+s.length) t h hk)
theorem Jb:∀(l:List Nat)(s:Str),.tok 3 s∈Ak l->∃n∈l,s=numS n
 |[],s,h=>by simp[Ak]at h
 |n::l,s,h=>by
  simp[Ak]at h;rcases h with rfl|h
  .exact⟨n,by simp,rfl⟩
  .obtain ⟨m,hm,he⟩:=Jb l s h
   exact⟨m,by simp[hm],he⟩
def OY (l:List Pc):Bool:=l.all fun p=>match p with | .tok k _=>decide (k≠3) | _=>true
theorem UL {a b:List Nat}(ha:∀n∈a,n<=999)(hb:∀n∈b,n<=999):∀t∈Ar 0 (CB a b),t.kind=3->NumT t.text:=by
 intro t ht hk;have h:=Kb _ _ _ ht hk;unfold CB at h;rcases qz.1 h with h|h
 .have hp:OY prePc=true:=by decide
  unfold OY at hp;have:=qx.1 hp _ h;simp at this
 .rcases qz.1 h with h|h
  .obtain ⟨n,hn,he⟩:=Jb a _ h
   rw[he];exact Ka n (ha n hn)
  .rcases qD.1 h with h|h
   .cases h
   .rcases qz.1 h with h|h
    .obtain ⟨n,hn,he⟩:=Jb b _ h
     rw[he];exact Ka n (hb n hn)
    .simp at h
theorem YZ {l:List Nat}(h:∀n∈l,n<=999):∀t∈Ar 0 (Ak l),t.kind=3->NumT t.text:=by
 intro t ht hk;obtain⟨n,hn,he⟩:=Jb l _ (Kb _ _ _ ht hk);rw[he];exact Ka n (h n hn)
variable {A:Ab}
theorem V6 (rows:List (List Cell)):(K A).call 61 [.sc (.c (.sl rows))] []=some (.sc (.clo 114 [true] [[.ptr 0 0]]),[.box [.c (.sl rows)]]):=by
 refine fnO v61 ?_;unfold v61;simp(maxSteps:=9^7) (disch:=try exact zd)
section
variable (p:Int)(rc:Bool)(nm:Str)(e:Exp)
@[simp] theorem cut_b1:cut (bRow p rc nm e) 1 1=some [.bool rc]:=by rfl
@[simp] theorem cut_b2:cut (bRow p rc nm e) 2 1=some [.str nm]:=by rfl
@[simp] theorem cutw_b1:cut (wc (bRow p rc nm e)) 1 1=some [.c (.bool rc)]:=by rfl
@[simp] theorem cutw_b2:cut (wc (bRow p rc nm e)) 2 1=some [.c (.str nm)]:=by rfl
end
theorem Zaq (u:List (List Cell))(p1 p2:Int)(rc1 rc2:Bool)(n1 n2:Str)(e1 e2 E1 E2 E3:Exp)(h3:E3=.mk 1 0 n2 0 [] [] tz)(h2:E2=.mk (if rc2 then 7 else 6) 0 n2 0 [e2,E3] [] tz)(h1:E1=.mk (if rc1 then 7 else 6) 0 n1 0 [e1,E2] [] tz)(hw:E1.wf)(hl:E1.weight<=1000000):
 (K A).call 27 [.ag [.c (.sl u),.c (.sl [bRow p1 rc1 n1 e1,bRow p2 rc2 n2 e2])]] []=some (expV (Ai E1),[]):=by
 have hst:=Oj (A:=A) E1 hw (by omega);have hbk:=V6 (A:=A) [bRow p1 rc1 n1 e1,bRow p2 rc2 n2 e2];refine fnO v27 ?_;have hr0:[bRow p1 rc1 n1 e1,bRow p2 rc2 n2 e2][0]?=some (bRow p1 rc1 n1 e1):=rfl;have hr1:[bRow p1 rc1 n1 e1,bRow p2 rc2 n2 e2][1]?=some (bRow p2 rc2 n2 e2):=rfl;have hlen:[bRow p1 rc1 n1 e1,bRow p2 rc2 n2 e2].length=2:=rfl
 have hfit:BT 20 [bRow p1 rc1 n1 e1,bRow p2 rc2 n2 e2]=true:=by simp[BT]
 have hget:∀i row,[bRow p1 rc1 n1 e1,bRow p2 rc2 n2 e2][i]?=some row->(i=0/\row=bRow p1 rc1 n1 e1)\/(i=1/\row=bRow p2 rc2 n2 e2):=by
  intro i row h
  match i,h with
  |0,h=>cases h;exact .inl ⟨rfl,rfl⟩
  |1,h=>cases h;exact .inr ⟨rfl,rfl⟩
  |i+2,h=>simp at h
 generalize hrows:[bRow p1 rc1 n1 e1,bRow p2 rc2 n2 e2]=rows at *
 unfold v27;simp(maxSteps:=9^7) (disch:=try exact zd) [hlen,hr1,hbk,-getElem?_pos];refine Zc (by simp;rfl) (by omega) (by simp;rfl) (by rw[hlen];omega) (fun i st=>∃(cs:List W) (tail:List (Nat×Option Obj)),(i<=1/\cs=wc (if i=0 then E1 else E2).row\/i=2/\cs=QN 1 n2)/\
  (tail=[]\/∃a b,tail=[(1536,some a),(2304,some b)])/\st=⟨[(2,.sc (.ptr 128 0)),(4,.sc (.ptr 1216 0)),(24,.sc (.clo 114 [true] [[.un]]))],[(64,some (.box [.c (.sl u),.c (.sl rows)])),(128,some (.box [zi,zi,zs,zi,.nil,.nil,zi,zs,zi,zi,.nil])),(1216,some (.box cs))]++tail⟩) ?_ ?_ ?_
 .exact⟨QN 1 n2,[],.inr ⟨hlen,rfl⟩,.inl rfl,by simp⟩
 .rintro i st' row ⟨cs,tail,hcs,htl,rfl⟩ hrow
  rcases hget i row hrow with ⟨rfl,rfl⟩|⟨rfl,rfl⟩
  .rcases hcs with ⟨_,rfl⟩|⟨h,_⟩
   .refine ⟨by simp,.ag (wc (bRow p1 rc1 n1 e1)),by simp [asV],?_⟩
    rw[show(if 0+1=0 then E1 else E2)=E2 from if_neg (by omega)];have hE:wc E1.row=[.c (.int .i64 (if rc1 then 7 else 6)),zi,.c (.str n1),zi,.c (.sl [e1.row,E2.row]),.c (.sl []),zi,zs,zi,zi,.c (.sl [])]:=(by rw[h1];rfl);cases rc1<;>rcases htl with rfl | ⟨oa,ob,rfl⟩
    all_goals
     unfold Ly;simp(maxSteps:=9^7) (disch:=try exact zd) [-getElem?_pos];rw[hE];simp
   .omega
  .rcases hcs with ⟨h,_⟩|⟨_,rfl⟩
   .omega
   .refine ⟨by simp,.ag (wc (bRow p2 rc2 n2 e2)),by simp [asV],?_⟩
    have hE:wc E2.row=[.c (.int .i64 (if rc2 then 7 else 6)),zi,.c (.str n2),zi,.c (.sl [e2.row,E3.row]),.c (.sl []),zi,zs,zi,zi,.c (.sl [])]:=(by rw[h2];rfl);have hE3:E3.row=[.int .i64 1,.int .i64 0,.str n2,.int .i64 0,.sl [],.sl [],.int .i64 0,.str [],.int .i64 0,.int .i64 0,.sl []]:=(by rw[h3];rfl);cases rc2<;>rcases htl with rfl | ⟨oa,ob,rfl⟩
    all_goals
     unfold Ly;simp(maxSteps:=9^7) (disch:=try exact zd) [-getElem?_pos];rw[hE,hE3];simp
 .rintro st' ⟨cs,tail,hcs,htl,rfl⟩
  rcases hcs with ⟨_,rfl⟩|⟨h,_⟩
  .rw [if_pos rfl]
   rcases htl with rfl|⟨oa,ob,rfl⟩ <;>
    simp(maxSteps:=9^7) (disch:=try exact zd) [hst]
  .omega
variable {A:Ab}
def preT:List Tok:=Ar 0 prePc
def recT:List Tok:=(preT.drop 13).take 30
def nT:List Tok:=preT.drop 43
theorem X0:preT=dT++(recT++nT):=by rfl
def e1:Exp:=((rdE 20 (recT.drop 4)).map (·.1)).getD (cE [])
def wfB (e:Exp):Bool:=e.fold fun e l=>(decide (e.kind≠8)||decide (e.kids.length=1))&&(decide (e.kind=8)||decide (e.arms.length=0))&&(decide (e.kind≠1)||decide (e.kids.length=0))&&l.all id
theorem I2 (e:Exp):wfB e=((decide (e.kind≠8)||decide (e.kids.length=1))&&(decide (e.kind=8)||decide (e.arms.length=0))&&(decide (e.kind≠1)||decide (e.kids.length=0))&&(e.children.map wfB).all id):=Exp.fold_eq _ e
theorem Zv (e:Exp):wfB e=true->e.wf:=by
 induction e using Exp.ind with
 |h e ih=>
  intro h;rw[I2]at h;simp at h;rw[Exp.wf_eq];refine⟨⟨fun q=>?_,fun q=>?_,fun q=>?_⟩,fun x hx=>ih x hx (h.2 x hx)⟩
  .rcases h.1.1.1 with k|k
   .exact absurd q k
   .exact k
  .rcases h.1.1.2 with k|k
   .exact absurd k q
   .exact k
  .rcases h.1.2 with k|k
   .exact absurd q k
   .exact k
theorem J0 (f a:Exp):wfB (appX f a)=(wfB f&&wfB a):=by
 rw[I2];simp[Exp.children,Exp.kids,Exp.arms,Exp.kind]
theorem LF:∀(l:List Nat)(p:Nat),wfB (lstX p l)=true
 |[],p=>rfl
 |n::l,p=>by
  simp only[lstX];rw[J0,J0,LF l];rfl
theorem Y4:wfB e1=true:=by rfl
theorem Sf:fitB e1=true:=by rfl
theorem ZcN:Bw e1=6:=by rfl
theorem Y5:Ai e1=appF:=by rfl
variable {A:Ab}
theorem Oo:e1.weight<=40:=by decide
theorem Ze:FitE e1 where
 wt:=qr Oo (by decide)
 an:=(Hm e1 Sf).1
 dp:=by rw[ZcN];decide
 th:=(Hm e1 Sf).2
def scT:Tok:=⟨5,[59],108⟩
theorem UZ (R:List Tok):rdE 20 ((dT++(recT++R)).drop 17)=some (e1,scT::R):=by rfl
def nE (p:Int)(p1 p2:Nat)(a b:List Nat):Exp:=appX (appX (.mk 1 p sApp 0 [] [] tz) (lstX p1 a)) (lstX p2 b)
theorem Zap (p:Int)(p1 p2:Nat)(a b:List Nat)(ha:a.length<=5)(hb:b.length<=5):FitE (nE p p1 p2 a b)/\(nE p p1 p2 a b).weight<=60/\wfB (nE p p1 p2 a b)=true/\Ai (nE p p1 p2 a b)=appE (appE (vE sApp) (lstE a)) (lstE b):=by
 obtain⟨a1,a2,a3⟩:=HJ a p1;obtain⟨b1,b2,b3⟩:=HJ b p2;have w0:(Exp.mk 1 p sApp 0 [] [] tz).weight=1:=by rw[Dr];rfl
 have hw:(nE p p1 p2 a b).weight<=60:=by
  unfold nE;rw[I3,I3,w0];omega
 have hf:fitB (nE p p1 p2 a b)=true:=by unfold nE;rw[Jm,Jm,a1,b1];rfl
 refine⟨⟨by omega,(Hm _ hf).1,?_,(Hm _ hf).2⟩,hw,?_,?_⟩
 .have q1:=JK (appX (.mk 1 p sApp 0 [] [] tz) (lstX p1 a)) (lstX p2 b)
  have q2:=JK (.mk 1 p sApp 0 [] [] tz) (lstX p1 a);have d0:Bw (.mk 1 p sApp 0 [] [] tz)=0:=by rw[Gh];rfl
  rw[d0]at q2;unfold nE;omega
 .unfold nE;rw[J0,J0,LF,LF];rfl
 .unfold nE;rw[Kp,Kp,J7,J7];rfl
theorem XF (p:Int)(p1 p2:Nat)(a b:List Nat)(ha:a.length<=5)(hb:b.length<=5)(s:Tok)(hs:Es s=false):rdE 20 (⟨1,sApp,p⟩::(Ar p1 (Ak a)++(Ar p2 (Ak b)++[s])))=some (nE p p1 p2 a b,[s]):=by
 have e0:rdE 20 (⟨1,sApp,p⟩::(Ar p1 (Ak a)++(Ar p2 (Ak b)++[s])))=De (rdE 19) ((Ar p1 (Ak a)++(Ar p2 (Ak b)++[s])).length+1) (.mk 1 p sApp 0 [] [] tz) (Ar p1 (Ak a)++(Ar p2 (Ak b)++[s])):=rfl;rw[e0];have ra:=JU a p1 19 (Ar p2 (Ak b)++[s]) (by omega);have rb:=JU b p2 19 [s] (by omega);obtain⟨t,q,ht,h1⟩:=Oi p1 a;obtain⟨t2,q2,ht2,h2⟩:=Oi p2 b;rw[ht]at ra |-;rw[ht2]at ra rb |-
 obtain⟨k,hk⟩:∃k,(t::q++(t2::q2++[s])).length+1=k+1+1+1:=⟨(q++q2).length+1,by simp;omega⟩;rw[hk,q9,JF h1 (by rw[<-q9];exact ra),q9,JF h2 (by rw[<-q9];exact rb),Qn hs];rfl
def nP0:Nat:=(Al prePc).length
def JP (a b:List Nat):List Tok:=Ar nP0 (Ak a)++(Ar (nP0+(Al (Ak a)).length+1) (Ak b)++[⟨5,[59],(nP0+(Al (Ak a)).length+1+(Al (Ak b)).length:Nat)⟩])
theorem SF (a b:List Nat):Ar 0 (CB a b)=dT++(recT++(nT++JP a b)):=by
 have h1:Ar 0 (CB a b)=preT++Ar nP0 (Ak a++(.blank::(Ak b++[.tok 5 [59]]))):=by
  unfold CB;rw[GK];unfold preT nP0;rw[qaw]
 have h2:Ar nP0 (Ak a++(.blank::(Ak b++[.tok 5 [59]])))=JP a b:=by
  rw[GK];show Ar nP0 (Ak a)++Ar (nP0+(Al (Ak a)).length+1) (Ak b++[.tok 5 [59]])=_;rw[GK];rfl
 rw[h1,h2,X0,qW,qW]
theorem Ux {a b:List Nat}(ha:∀n∈a,n<=999)(hb:∀n∈b,n<=999)(la:a.length<=5)(lb:b.length<=5):(Al (CB a b)).length<=4000/\(dT++(recT++(nT++JP a b))).length<=4000:=by
 have h1:=Gz a ha;have h2:=Gz b hb;have h3:(Al prePc).length=122:=by kernel_rfl
 constructor
 .unfold CB
  rw[Gs,Gs,FW,Gs];simp only[qI,Pc.text,h3,qF,qR,show(Al [Pc.tok 5 [59]]).length=1 from rfl];omega
 .rw [<-SF]
  have h4:=JY (CB a b) 0;have h5:(CB a b).length<=4000:=by
   unfold CB;have h6:prePc.length<=200:=(by decide);simp only[qI,qF,Nh,qR];omega
  omega
theorem WB (hA:EQ A){a b:List Nat}(ha:∀n∈a,n<=999)(hb:∀n∈b,n<=999)(la:a.length<=5)(lb:b.length<=5):∃r1 r2:List Cell,FnOk Go.Proofs.Tryz.prog gl0 34 [strV (Al (CB a b))] [] (.ag (Ec r1 r2)) []/\
 (K A).call 27 [.ag (Ec r1 r2)] []=some (expV (Dn (lstE a) (lstE b)),[]):=by
 obtain⟨hs,hl⟩:=Ux ha hb la lb;have hT:=SF a b;have hN:=UL ha hb;rw[hT]at hN;have hok:=Zbi (A:=A) ha hb;generalize hR:JP a b=R2 at *
 have hl4:(dT++(recT++(nT++R2))).length<=4000:=hl;obtain⟨J1,hJ1,hdJ1,c1⟩:=Qj (A:=A) (dT++(recT++(nT++R2))) hl4 hN 20 13 15 true ⟨4,[108,101,116],37⟩ ⟨4,[114,101,99],41⟩ ⟨1,sApp,45⟩ ⟨5,[61],49⟩ scT e1 (nT++R2) rfl (by decide) rfl (by decide) rfl rfl rfl rfl (by decide) (UZ (nT++R2)) (by decide);have hn:nT++R2=⟨4,[108,101,116],110⟩::⟨1,sN,114⟩::⟨5,[61],116⟩::⟨1,sApp,118⟩::R2:=rfl
 have hdJ:=hdJ1.trans hn;obtain⟨g0,d0,l0⟩:=BW hdJ;obtain⟨g1,d1,l1⟩:=BW d0;obtain⟨g2,d2,l2⟩:=BW d1;have hrd:=XF 118 nP0 (nP0+(Al (Ak a)).length+1) a b la lb ⟨5,[59],(nP0+(Al (Ak a)).length+1+(Al (Ak b)).length:Nat)⟩ rfl;have hR':(⟨1,sApp,118⟩:Tok)::R2=⟨1,sApp,118⟩::(Ar nP0 (Ak a)++(Ar (nP0+(Al (Ak a)).length+1) (Ak b)++[⟨5,[59],(nP0+(Al (Ak a)).length+1+(Al (Ak b)).length:Nat)⟩])):=by rw[<-hR];rfl
 rw[<-hR']at hrd;obtain⟨J2,hJ2,hdJ2,c2⟩:=Qj (A:=A) (dT++(recT++(nT++R2))) hl4 hN 20 J1 (J1+1) false _ _ ⟨1,sN,114⟩ ⟨5,[61],116⟩ _ _ [] g0 (by decide) g1 (by decide) rfl g1 rfl g2 (by decide) (by rw[show J1+1+2=J1+1+1+1 from rfl,d2];exact hrd) rfl;have hJ2e:J2=(dT++(recT++(nT++R2))).length:=by
  have:(dT++(recT++(nT++R2))).length<=J2:=by simpa using hdJ2
  omega
 obtain⟨f2,w2,wf2,st2⟩:=Zap 118 nP0 (nP0+(Al (Ak a)).length+1) a b la lb;generalize nE 118 nP0 (nP0+(Al (Ak a)).length+1) a b=e2 at *
 have hp:=Zct hA (CB a b) (recT++(nT++R2)) hT hs hok hl4 J1 J2 ⟨4,[108,101,116],37⟩ ⟨4,[108,101,116],110⟩ (recT.tail++(nT++R2)) 37 110 true false sApp sN e1 e2 rfl (by decide) g0 (by decide) hJ2e c1 c2 Ze f2;refine⟨_,_,Y7 hA _ _ hp ⟨_,_,rfl⟩,?_⟩;have hE1:wfB (.mk 7 0 sApp 0 [e1,.mk 6 0 sN 0 [e2,.mk 1 0 sN 0 [] [] tz] [] tz] [] tz)=true:=by
  rw[I2];show(true&&true&&true&&([wfB e1,wfB (.mk 6 0 sN 0 [e2,.mk 1 0 sN 0 [] [] tz] [] tz)]:List Bool).all id)=true;rw[Y4,I2 (.mk 6 _ _ _ _ _ _)];show(true&&true&&true&&([true,(true&&true&&true&&([wfB e2,true]:List Bool).all id)]:List Bool).all id)=true;rw[wf2];rfl
 have hw1:(Exp.mk 7 0 sApp 0 [e1,.mk 6 0 sN 0 [e2,.mk 1 0 sN 0 [] [] tz] [] tz] [] tz).weight<=1000000:=by
  have:=Oo;rw[Dr];simp only[qv,qaf,qad,qbj];rw[Dr];simp only[qv,qaf,qad,qbj];rw[Dr];simp only[qaf,qbj];omega
 rw[Zaq (A:=A) [listD] 37 110 true false sApp sN e1 e2 _ _ _ rfl rfl rfl (Zv _ hE1) hw1];have hst:Ai (.mk 7 0 sApp 0 [e1,.mk 6 0 sN 0 [e2,.mk 1 0 sN 0 [] [] tz] [] tz] [] tz)=.mk 7 0 sApp 0 [Ai e1,.mk 6 0 sN 0 [Ai e2,vE sN] [] tz] [] tz:=by rw[DT];rfl
 show some (expV (Ai (.mk 7 0 sApp 0 [e1,.mk 6 0 sN 0 [e2,.mk 1 0 sN 0 [] [] tz] [] tz] [] tz)),[])=_;rw[hst,Y5,st2];rfl
variable {A:Ab}
def modP (a:Int):Nat:=if a.tmod 1000<0 then (a.tmod 1000+1000).toNat else (a.tmod 1000).toNat
theorem SH (a:Int):modP a<=999/\(K A).call 30 [intV a,intV 1000] []=some (intV (modP a),[]):=by
 have hlt:a.tmod 1000<1000:=Int.tmod_lt_of_pos a (by omega);have hgt:-1000<a.tmod 1000:=Int.lt_tmod_of_pos a (by omega);unfold modP;by_cases hneg:a.tmod 1000<0
 .rw [if_pos hneg]
  refine⟨by omega,?_⟩;have hw:((a.tmod 1000+1000).toNat:Int)=a.tmod 1000+1000:=by omega
  rw[hw];refine Af (vf:=v30) (by rfl) rfl (by simp) ?_;unfold v30;simp(maxSteps:=9^7) (disch:=try exact zd) [hneg]
 .rw [if_neg hneg]
  refine⟨by omega,?_⟩;have hw:((a.tmod 1000).toNat:Int)=a.tmod 1000:=by omega
  rw[hw];refine Af (vf:=v30) (by rfl) rfl (by simp) ?_;unfold v30;simp(maxSteps:=9^7) (disch:=try exact zd) [hneg]
theorem ZcZ (n:Nat)(h:n<=999):(K A).call 73 [intV n] []=some (strV (numS n),[]):=by
 by_cases h0:n=0
 .subst h0
  rw[Cn (by decide)];exact A8 (n:=9) (by kernel_rfl)
 .exact Zo n h0 (by omega)
def Az (l:List Int):List Nat:=l.map modP
theorem E0 (l:List Int):∀n∈Az l,n<=999:=by
 intro n hn;obtain⟨a,_,rfl⟩:=qL.1 hn;exact(SH (A:=fun _ _ _=>none) a).1
theorem Vi (n:Nat)(l:List Nat):Al (Ak (n::l))=[40,67,111,110,115,32]++numS n++[32]++Al (Ak l)++[41]:=by
 show Al (.tok 5 [40]::.tok 2 Ap::.blank::.tok 3 (numS n)::.blank::(Ak l++[.tok 5 [41]]))=_;simp only[FW,Gs,Pc.text,show Al []=[]from rfl];simp
theorem Of (l:List Int)(hl:l.length<=10):(K A).call 37 [GY l] []=some (strV (Al (Ak (Az l))),[]):=by
 refine fnO v37 ?_;have hlen:∀j,(Al (Ak (Az (l.drop j)))).length<=200:=fun j=>by
  have h1:=Gz (Az (l.drop j)) (E0 _);have h2:(Az (l.drop j)).length=l.length-j:=by simp[Az]
  omega
 unfold v37;simp(maxSteps:=9^7) (disch:=try exact zd);refine Aq (fun j=>⟨[(0,GY l),(3,strV (Al (Ak (Az (l.drop (l.length-j)))))),(4,intV ((l.length:Int)-1-j))],[]⟩) l.length ?_ ?_ ?_
 .simp[Az,Ak,Al,Pc.text]
 .intro j hj
  obtain⟨a,ha⟩:=Ag (l:=l) (i:=l.length-1-j) (by omega);obtain⟨hm,hc⟩:=SH (A:=A) a;have hn:=ZcZ (A:=A) (modP a) hm;have hd:l.drop (l.length-(j+1))=a::l.drop (l.length-j):=by
   have h1:l.length-(j+1)<l.length:=(by omega);rw[qaF h1,show l.length-(j+1)+1=l.length-j by omega];congr 1;have h2:=qm (l:=l) (i:=l.length-1-j) (by omega);rw[ha]at h2;have h3:l.length-(j+1)=l.length-1-j:=(by omega);simp only[h3];exact(qV h2).symm
  have h10:=hlen (l.length-j);have hs:=Gt (modP a) 3 (by omega) (by omega);have htx:Al (Ak (Az (l.drop (l.length-(j+1)))))=[40,67,111,110,115,32]++numS (modP a)++[32]++Al (Ak (Az (l.drop (l.length-j))))++[41]:=by
   rw[hd];exact Vi _ _
  rw[htx];generalize Al (Ak (Az (l.drop (l.length-j))))=t at *
  generalize numS (modP a)=s at *
  have hnb:AE (intV ((l.length:Int)-1-j)) l.length=some (l.length-1-j):=by
   rw[Zg (by omega) (by omega)];congr 1;omega
  have hge:(j:Int)<=(l.length:Int)-1:=by omega
  have hw:IntKind.i64.wrap ((l.length:Int)-1-j-1)=(l.length:Int)-1-((j+1:Nat):Int):=by rw[FY _ (by omega)];omega
  unfold N6;simp(maxSteps:=9^7) (disch:=try exact zd) [hge,hnb,ha,hc,hn,hw,-getElem?_pos]
  trace_state
 .have hlt:¬(l.length:Int)<=(l.length:Int)-1:=by omega
  unfold N6;simp(maxSteps:=9^7) (disch:=try exact zd) [hlt]
  trace_state
theorem Zak (l:List Nat)(h:∀n∈l,n<=999)(hl:l.length<=10):(K A).call 38 [strV (Al (Ak l))] []=some (.tu [expV (lstX 0 l),.ag [zi,zi]],[]):=by
 have h1:=Gz l h;have h2:=JY (Ak l) 0;have h3:=Nh l;obtain⟨f1,f2,f3⟩:=HJ l 0;refine Wl (Ak l) (Ar 0 (Ak l)) rfl (by omega) (UU h) (by omega) (YZ h) 20 (lstX 0 l) ?_ ⟨by omega,(Hm _ f1).1,by omega,(Hm _ f1).2⟩;have hr:=JU l 0 19 [] (by omega);rw[qJ]at hr;cases l with
 |nil=>rfl
 |cons n l=>
  rw[MA]at hr |-;have e0:∀r,rdE 20 ((⟨5,[40],(0:Nat)⟩:Tok)::r)=(match rdA (rdE 19) ((⟨5,[40],(0:Nat)⟩:Tok)::r)with
   |some (e,r1)=>De (rdE 19) (r1.length+1) e r1
   |none=>none):=fun r=>rfl
  rw[e0,hr];rfl
variable {A:Ab}
theorem ZaE (a b:List Int):wr (Bm a)++wr (Bm b)=wr (Bm (a++b)):=by simp[Bm,wr]
theorem OJ (l:List Int):AP 1 (wr (Bm l))=true:=Cu l fun _=>rfl
theorem Zn (l:List Nat)(h:∀n∈l,n<=999)(hl:l.length<=10):(K A).call 18 [expV (lstE l),expV (lstX 0 l)] []=some (Aa true,[]):=by
 have hs:sameP (lstE l) (lstX 0 l):=by
  have:=Io (lstX 0 l);rw[J7]at this;exact Lp _ _ this
 have hst:=NI h;have hn:=FV l;have hw:=Jz _ hst.lf.2;have hok:OkR (lstE l):=⟨hst,2000,HN _ (by omega),by omega,by omega⟩;have hx:=(HJ l 0).2.2;obtain⟨_,⟨q,hq,rfl⟩,heq⟩:=PI (A:=A) (lstE l) (lstX 0 l) hok.ty (by omega) (by omega);rw[heq,hq.2 hs]
theorem ZaH (a b:List Nat):Al (CB a b)=Al prePc++(Al (Ak a)++32::(Al (Ak b)++[59])):=by
 unfold CB;simp only[Gs,FW,Pc.text,show Al []=[]from rfl];rfl
theorem Zcl (hA:EQ A)(a b:List Int)(h25:(K A).call 25 [] []=some (Aa true,[])):FnOk Go.Proofs.Tryz.prog gl0 10 [GY a,GY b] [] (Aa true) []:=by
 by_cases la:a.length<=5
 .by_cases lb:b.length<=5
  .obtain ⟨r1,r2,h34,h27⟩:=WB hA (E0 a) (E0 b) (by simp [Az];exact la) (by simp [Az];exact lb)
   have hok:=ZV (E0 a) (E0 b) (by simp[Az];omega) (by simp[Az];omega);have h35:=XV (A:=A) [listD] Gu 300 _ hok (ZcK hok 300);have hres:=Zr (Az a) (Az b) (by simp[Az];omega) (by simp[Az];omega) Gu (kP 300) (by simp[Az,Gu,bigM];omega) (by simp[Az];unfold kP;omega);have hwle:=(Np Gu (kP 300) _ hok).1;have h3c:(kP 300:Int)=300:=(by decide);have h37a:=Of (A:=A) a (by omega)
   have h37b:=Of (A:=A) b (by omega);have h37c:=Of (A:=A) (a++b) (by simp;omega);have hab:Az (a++b)=Az a++Az b:=(by simp[Az]);have h38:=Zak (A:=A) (Az (a++b)) (E0 _) (by simp[Az];omega);have h18:=Zn (A:=A) (Az (a++b)) (E0 _) (by simp[Az];omega);have ta:=Gz (Az a) (E0 a);have tb:=Gz (Az b) (E0 b);have na:(Az a).length=a.length:=(by simp[Az]);have nb:(Az b).length=b.length:=(by simp[Az])
   have tp:(Al prePc).length=122:=(by kernel_rfl)
   have hpre:(Al prePc)=[100,97,116,97,32,76,105,115,116,32,97,32,61,32,78,105,108,32,124,32,67,111,110,115,32,97,32,40,76,105,115,116,32,97,41,59,32,108,101,116,32,114,101,99,32,97,112,112,32,61,32,92,120,46,32,92,121,46,32,99,97,115,101,32,120,32,111,102,32,78,105,108,46,32,121,32,124,32,67,111,110,115,32,104,32,116,46,32,67,111,110,115,32,104,32,40,97,112,112,32,116,32,121,41,32,101,110,100,59,32,108,101,116,32,110,32,61,32,97,112,112,32]:=(by kernel_rfl)
   rw[hres,<-hab]at h35;generalize (Bp Gu (kP 300) (Dn (lstE (Az a)) (lstE (Az b)))).2=steps at *
   rw[ZaH]at h34;have S:=fun {f:FuncId} {x:List V} {o:List Obj} (h:f≠34)=>H0 (A:=A) (f0:=34) (a0:=[strV (Al prePc++(Al (Ak (Az a))++32::(Al (Ak (Az b))++[59])))]) (o0:=[]) (r0:=(.ag (Ec r1 r2),[])) (f:=f) (a:=x) (o:=o) h;rw[<-S (by decide)]at h25 h27 h35 h37a h37b h37c h38 h18
   have hc34:=G5 (A:=A) (f0:=34) (a0:=[strV (Al prePc++(Al (Ak (Az a))++32::(Al (Ak (Az b))++[59])))]) (o0:=[]) (r0:=(.ag (Ec r1 r2),[]));have hO:=He hA (f0:=34) (a0:=[strV (Al prePc++(Al (Ak (Az a))++32::(Al (Ak (Az b))++[59])))]) (o0:=[]) (r0:=(.ag (Ec r1 r2),[])) h34;clear S h34;generalize spO A 34 [strV (Al prePc++(Al (Ak (Az a))++32::(Al (Ak (Az b))++[59])))] [] (.ag (Ec r1 r2),[])=O at *
   generalize Dn (lstE (Az a)) (lstE (Az b))=E at *
   generalize Al (Ak (Az a))=sa at *
   generalize Al (Ak (Az b))=sb at *
   generalize lstE (Az (a++b))=X at *
   generalize lstX 0 (Az (a++b))=Y at *
   generalize Al (Ak (Az (a++b)))=sc at *
   have la':¬(5:Int)<a.length:=(by omega);have lb':¬(5:Int)<b.length:=(by omega);have oa:=OJ a;have ob:=OJ b;have oab:=ZaE a b;have lla:(Bm a).length=a.length:=(by simp);simp only[Ec]at h27 hc34;refine EZ hO (vf:=v10) (by kernel_rfl) rfl (by simp) ?_;unfold v10 G;rw[<-hpre];clear hpre;generalize Al prePc=sp at *
   simp(maxSteps:=9^7) (disch:=try exact zd) [h25,la',lb',h37a,h37b,hc34,h27,h35,oa,ob,oab,h37c,h38,h18,-getElem?_pos]
   trace_state
  .refine EZ (fun _ _ _ _ _ h=>K_ok hA h) (o0:=(K A).call) (vf:=v10) (by kernel_rfl) rfl (by simp) ?_
   have la':¬(5:Int)<a.length:=(by omega);have lb':(5:Int)<b.length:=(by omega);unfold v10;simp(maxSteps:=9^7) (disch:=try exact zd) [h25,la',lb']
 .refine EZ (fun _ _ _ _ _ h=>K_ok hA h) (o0:=(K A).call) (vf:=v10) (by kernel_rfl) rfl (by simp) ?_
  have la':(5:Int)<a.length:=by omega
  unfold v10;simp(maxSteps:=9^7) (disch:=try exact zd) [h25,la']
end Go.Vs.Tryz
namespace Go.Vs
open Go
mutual
def Cell.eqb:Cell->Cell->Bool
 |.int k n,.int k' n'=>decide (k=k')&&decide (n=n')
 |.bool b,.bool b'=>b==b'
 |.str s,.str s'=>s==s'
 |.sl rows,.sl rows'=>Cell.eqRows rows rows'
 |.nilfn,.nilfn=>true
 |.nilptr,.nilptr=>true
 |.nilif,.nilif=>true
 |_,_=>false
def Cell.eqRows:List (List Cell)->List (List Cell)->Bool
 |[],[]=>true
 |r::rs,r'::rs'=>Cell.eqList r r'&&Cell.eqRows rs rs'
 |_,_=>false
def Cell.eqList:List Cell->List Cell->Bool
 |[],[]=>true
 |c::cs,c'::cs'=>Cell.eqb c c'&&Cell.eqList cs cs'
 |_,_=>false
end
mutual
theorem Cell.eqb_eq:∀(a b:Cell),Cell.eqb a b=true->a=b
 |.int k n,b,h=>by cases b<;>simp_all[Cell.eqb]
 |.bool _,b,h=>by cases b<;>simp_all[Cell.eqb]
 |.str _,b,h=>by cases b<;>simp_all[Cell.eqb]
 |.sl rows,b,h=>by
  cases b with
  |sl rows'=>rw[Cell.eqRows_eq rows rows' (by simpa[Cell.eqb]using h)]
  |_=>simp[Cell.eqb]at h
 |.fn ..,b,h=>by cases b<;>simp[Cell.eqb]at h
 |.nilfn,b,h=>by cases b<;>simp_all[Cell.eqb]
 |.nilptr,b,h=>by cases b<;>simp_all[Cell.eqb]
 |.nilif,b,h=>by cases b<;>simp_all[Cell.eqb]
 |.ifc ..,b,h=>by cases b<;>simp[Cell.eqb]at h
 |.ro ..,b,h=>by cases b<;>simp[Cell.eqb]at h
theorem Cell.eqRows_eq:∀(a b:List (List Cell)),Cell.eqRows a b=true->a=b
 |[],b,h=>by cases b<;>simp_all[Cell.eqRows]
 |r::rs,b,h=>by
  cases b with
  |nil=>simp[Cell.eqRows]at h
  |cons r' rs'=>
   simp only[Cell.eqRows,qe]at h;rw[Cell.eqList_eq r r' h.1,Cell.eqRows_eq rs rs' h.2]
theorem Cell.eqList_eq:∀(a b:List Cell),Cell.eqList a b=true->a=b
 |[],b,h=>by cases b<;>simp_all[Cell.eqList]
 |c::cs,b,h=>by
  cases b with
  |nil=>simp[Cell.eqList]at h
  |cons c' cs'=>
   simp only[Cell.eqList,qe]at h;rw[Cell.eqb_eq c c' h.1,Cell.eqList_eq cs cs' h.2]
end
def W.eqb:W->W->Bool
 |.c a,.c b=>a.eqb b
 |.nil,.nil=>true
 |_,_=>false
theorem W.eqb_eq {a b:W}(h:a.eqb b=true):a=b:=by
 cases a<;>cases b<;>first | rfl | (simp[W.eqb]at h;done) | exact congrArg W.c (Cell.eqb_eq _ _ (by simpa[W.eqb]using h))
def eqWs:List W->List W->Bool
 |[],[]=>true
 |c::cs,c'::cs'=>c.eqb c'&&eqWs cs cs'
 |_,_=>false
theorem Pw:∀{a b:List W},eqWs a b=true->a=b
 |[],b,h=>by cases b<;>simp_all[eqWs]
 |c::cs,b,h=>by
  cases b with
  |nil=>simp[eqWs]at h
  |cons c' cs'=>
   simp only[eqWs,qe]at h;rw[W.eqb_eq h.1,Pw h.2]
def V.eqb:V->V->Bool
 |.sc a,.sc b=>a.eqb b
 |.ag a,.ag b=>eqWs a b
 |_,_=>false
theorem V.eqb_eq {a b:V}(h:a.eqb b=true):a=b:=by
 cases a<;>cases b<;>first | (simp[V.eqb]at h;done) | exact congrArg V.sc (W.eqb_eq (by simpa[V.eqb]using h)) | exact congrArg V.ag (Pw (by simpa[V.eqb]using h))
def eqVs:List V->List V->Bool
 |[],[]=>true
 |c::cs,c'::cs'=>c.eqb c'&&eqVs cs cs'
 |_,_=>false
theorem PD:∀{a b:List V},eqVs a b=true->a=b
 |[],b,h=>by cases b<;>simp_all[eqVs]
 |c::cs,b,h=>by
  cases b with
  |nil=>simp[eqVs]at h
  |cons c' cs'=>
   simp only[eqVs,qe]at h;rw[V.eqb_eq h.1,PD h.2]
abbrev JA:=List (Nat×List V×V)
def JC:JA->Nat->List V->Option (V×List Obj)
 |[],_,_=>none
 |(g,k,v)::r,f,l=>bif f==g&&eqVs l k then some (v,[]) else JC r f l
theorem QF:∀{m:JA}{f:Nat}{l:List V}{q:V×List Obj},JC m f l=some q->q.2=[]/\(f,l,q.1)∈m
 |[],_,_,_,h=>by cases h
 |(g,k,v)::r,f,l,q,h=>by
  simp only[JC]at h;cases hk:(f==g&&eqVs l k)with
  |true=>
   rw[hk]at h;simp only[cond_true,qc]at h;simp only[qe,beq_iff_eq]at hk;obtain⟨rfl,hk⟩:=hk;have:=PD hk;subst this;subst h;exact⟨rfl,by simp⟩
  |false=>
   rw[hk]at h;obtain⟨h1,h2⟩:=QF h;exact⟨h1,qaG _ h2⟩
theorem Zh {P:Program}{gl:Nat->List Cell}{T:FuncId->Option VFun}(hP:P.follows .mixedOrders=true)(hT:∀f vf,T f=some vf->mFun P f vf=true){m:JA}(hm:∀p∈m,FnOk P gl p.1 p.2.1 [] p.2.2 []){f:FuncId}{n:Nat}{args:List V}{objs:List Obj}{rv:V}{objs':List Obj}
 (h:DH (fun g=>bif g==f then T g else none) (fun g args objs=>match objs with | []=>JC m g args | _=>none) gl n f args objs=some (rv,objs')):FnOk P gl f args objs rv objs':=by
 refine Md hP (fun g vf hg=>?_) (fun g args objs rv objs' hx=>?_) n h
 .cases hgf:(g == f) with
  |true=>rw[hgf]at hg;exact hT g vf hg
  |false=>rw[hgf]at hg;cases hg
 .cases objs with
  |cons _ _=>cases hx
  |nil=>
   obtain⟨h1,h2⟩:=QF hx;simp only at h1 h2;subst h1;exact hm _ h2
end Go.Vs
namespace Go.Vs.Tryz
open Go Go.Vs
theorem Ko {n:Nat}{f:FuncId}{args:List V}{res:V}(h:(ev n f args []).map (B4 false)=some (res,[])):FnOk Go.Proofs.Tryz.prog gl0 f args [] res []:=by
 obtain⟨y,h1,h2⟩:=qo.1 h;have:=(ZaJ (rv:=y.1) (objs':=y.2) h1).norm false;rw[show B4 false (y.1,y.2)=(res,[])from h2]at this;exact this
def rlP:V:=(.ag [(.c (.sl [])),(.c (.sl [[(.int .i64 0),(.bool true),(.str [102]),(.bool false),(.int .i64 0),(.str []),(.int .i64 0),(.int .i64 0),(.sl []),(.int .i64 4),(.int .i64 12),(.str [120]),(.int .i64 0),(.sl [[(.int .i64 5),(.int .i64 16),(.str []),(.int .i64 0),(.sl [[(.int .i64 1),(.int .i64 16),(.str [102]),(.int .i64 0),(.sl []),(.sl []),(.int .i64 0),(.str []),(.int .i64 0),(.int .i64 0),(.sl [])],[(.int .i64 1),(.int .i64 18),(.str [120]),(.int .i64 0),(.sl []),(.sl []),(.int .i64 0),(.str []),(.int .i64 0),(.int .i64 0),(.sl [])]]),(.sl []),(.int .i64 0),(.str []),(.int .i64 0),(.int .i64 0),(.sl [])]]),(.sl []),(.int .i64 0),(.str []),(.int .i64 0),(.int .i64 0),(.sl [])],[(.int .i64 21),(.bool false),(.str [110]),(.bool false),(.int .i64 0),(.str []),(.int .i64 0),(.int .i64 0),(.sl []),(.int .i64 5),(.int .i64 29),(.str []),(.int .i64 0),(.sl [[(.int .i64 1),(.int .i64 29),(.str [102]),(.int .i64 0),(.sl []),(.sl []),(.int .i64 0),(.str []),(.int .i64 0),(.int .i64 0),(.sl [])],[(.int .i64 3),(.int .i64 31),(.str []),(.int .i64 1),(.sl []),(.sl []),(.int .i64 0),(.str []),(.int .i64 0),(.int .i64 0),(.sl [])]]),(.sl []),(.int .i64 0),(.str []),(.int .i64 0),(.int .i64 0),(.sl [])]]))])
def rlE0:V:=(.ag [(.c (.int .i64 7)),(.c (.int .i64 0)),(.c (.str [102])),(.c (.int .i64 0)),(.c (.sl [[(.int .i64 4),(.int .i64 0),(.str [120]),(.int .i64 0),(.sl [[(.int .i64 5),(.int .i64 0),(.str []),(.int .i64 0),(.sl [[(.int .i64 1),(.int .i64 0),(.str [102]),(.int .i64 0),(.sl []),(.sl []),(.int .i64 0),(.str []),(.int .i64 0),(.int .i64 0),(.sl [])],[(.int .i64 1),(.int .i64 0),(.str [120]),(.int .i64 0),(.sl []),(.sl []),(.int .i64 0),(.str []),(.int .i64 0),(.int .i64 0),(.sl [])]]),(.sl []),(.int .i64 0),(.str []),(.int .i64 0),(.int .i64 0),(.sl [])]]),(.sl []),(.int .i64 0),(.str []),(.int .i64 0),(.int .i64 0),(.sl [])],[(.int .i64 6),(.int .i64 0),(.str [110]),(.int .i64 0),(.sl [[(.int .i64 5),(.int .i64 0),(.str []),(.int .i64 0),(.sl [[(.int .i64 1),(.int .i64 0),(.str [102]),(.int .i64 0),(.sl []),(.sl []),(.int .i64 0),(.str []),(.int .i64 0),(.int .i64 0),(.sl [])],[(.int .i64 3),(.int .i64 0),(.str []),(.int .i64 1),(.sl []),(.sl []),(.int .i64 0),(.str []),(.int .i64 0),(.int .i64 0),(.sl [])]]),(.sl []),(.int .i64 0),(.str []),(.int .i64 0),(.int .i64 0),(.sl [])],[(.int .i64 1),(.int .i64 0),(.str [110]),(.int .i64 0),(.sl []),(.sl []),(.int .i64 0),(.str []),(.int .i64 0),(.int .i64 0),(.sl [])]]),(.sl []),(.int .i64 0),(.str []),(.int .i64 0),(.int .i64 0),(.sl [])]])),(.c (.sl [])),(.c (.int .i64 0)),(.c (.str [])),(.c (.int .i64 0)),(.c (.int .i64 0)),(.c (.sl []))])
def rlE1:V:=(.ag [(.c (.int .i64 6)),(.c (.int .i64 0)),(.c (.str [110])),(.c (.int .i64 0)),(.c (.sl [[(.int .i64 5),(.int .i64 0),(.str []),(.int .i64 0),(.sl [[(.int .i64 7),(.int .i64 0),(.str [102]),(.int .i64 0),(.sl [[(.int .i64 4),(.int .i64 0),(.str [120]),(.int .i64 0),(.sl [[(.int .i64 5),(.int .i64 0),(.str []),(.int .i64 0),(.sl [[(.int .i64 1),(.int .i64 0),(.str [102]),(.int .i64 0),(.sl []),(.sl []),(.int .i64 0),(.str []),(.int .i64 0),(.int .i64 0),(.sl [])],[(.int .i64 1),(.int .i64 0),(.str [120]),(.int .i64 0),(.sl []),(.sl []),(.int .i64 0),(.str []),(.int .i64 0),(.int .i64 0),(.sl [])]]),(.sl []),(.int .i64 0),(.str []),(.int .i64 0),(.int .i64 0),(.sl [])]]),(.sl []),(.int .i64 0),(.str []),(.int .i64 0),(.int .i64 0),(.sl [])],[(.int .i64 4),(.int .i64 0),(.str [120]),(.int .i64 0),(.sl [[(.int .i64 5),(.int .i64 0),(.str []),(.int .i64 0),(.sl [[(.int .i64 1),(.int .i64 0),(.str [102]),(.int .i64 0),(.sl []),(.sl []),(.int .i64 0),(.str []),(.int .i64 0),(.int .i64 0),(.sl [])],[(.int .i64 1),(.int .i64 0),(.str [120]),(.int .i64 0),(.sl []),(.sl []),(.int .i64 0),(.str []),(.int .i64 0),(.int .i64 0),(.sl [])]]),(.sl []),(.int .i64 0),(.str []),(.int .i64 0),(.int .i64 0),(.sl [])]]),(.sl []),(.int .i64 0),(.str []),(.int .i64 0),(.int .i64 0),(.sl [])]]),(.sl []),(.int .i64 0),(.str []),(.int .i64 0),(.int .i64 0),(.sl [])],[(.int .i64 3),(.int .i64 0),(.str []),(.int .i64 1),(.sl []),(.sl []),(.int .i64 0),(.str []),(.int .i64 0),(.int .i64 0),(.sl [])]]),(.sl []),(.int .i64 0),(.str []),(.int .i64 0),(.int .i64 0),(.sl [])],[(.int .i64 1),(.int .i64 0),(.str [110]),(.int .i64 0),(.sl []),(.sl []),(.int .i64 0),(.str []),(.int .i64 0),(.int .i64 0),(.sl [])]])),(.c (.sl [])),(.c (.int .i64 0)),(.c (.str [])),(.c (.int .i64 0)),(.c (.int .i64 0)),(.c (.sl []))])
def rlE2:V:=(.ag [(.c (.int .i64 5)),(.c (.int .i64 0)),(.c (.str [])),(.c (.int .i64 0)),(.c (.sl [[(.int .i64 7),(.int .i64 0),(.str [102]),(.int .i64 0),(.sl [[(.int .i64 4),(.int .i64 0),(.str [120]),(.int .i64 0),(.sl [[(.int .i64 5),(.int .i64 0),(.str []),(.int .i64 0),(.sl [[(.int .i64 1),(.int .i64 0),(.str [102]),(.int .i64 0),(.sl []),(.sl []),(.int .i64 0),(.str []),(.int .i64 0),(.int .i64 0),(.sl [])],[(.int .i64 1),(.int .i64 0),(.str [120]),(.int .i64 0),(.sl []),(.sl []),(.int .i64 0),(.str []),(.int .i64 0),(.int .i64 0),(.sl [])]]),(.sl []),(.int .i64 0),(.str []),(.int .i64 0),(.int .i64 0),(.sl [])]]),(.sl []),(.int .i64 0),(.str []),(.int .i64 0),(.int .i64 0),(.sl [])],[(.int .i64 4),(.int .i64 0),(.str [120]),(.int .i64 0),(.sl [[(.int .i64 5),(.int .i64 0),(.str []),(.int .i64 0),(.sl [[(.int .i64 1),(.int .i64 0),(.str [102]),(.int .i64 0),(.sl []),(.sl []),(.int .i64 0),(.str []),(.int .i64 0),(.int .i64 0),(.sl [])],[(.int .i64 1),(.int .i64 0),(.str [120]),(.int .i64 0),(.sl []),(.sl []),(.int .i64 0),(.str []),(.int .i64 0),(.int .i64 0),(.sl [])]]),(.sl []),(.int .i64 0),(.str []),(.int .i64 0),(.int .i64 0),(.sl [])]]),(.sl []),(.int .i64 0),(.str []),(.int .i64 0),(.int .i64 0),(.sl [])]]),(.sl []),(.int .i64 0),(.str []),(.int .i64 0),(.int .i64 0),(.sl [])],[(.int .i64 3),(.int .i64 0),(.str []),(.int .i64 1),(.sl []),(.sl []),(.int .i64 0),(.str []),(.int .i64 0),(.int .i64 0),(.sl [])]])),(.c (.sl [])),(.c (.int .i64 0)),(.c (.str [])),(.c (.int .i64 0)),(.c (.int .i64 0)),(.c (.sl []))])
def rlE3:V:=(.ag [(.c (.int .i64 5)),(.c (.int .i64 0)),(.c (.str [])),(.c (.int .i64 0)),(.c (.sl [[(.int .i64 4),(.int .i64 0),(.str [120]),(.int .i64 0),(.sl [[(.int .i64 5),(.int .i64 0),(.str []),(.int .i64 0),(.sl [[(.int .i64 7),(.int .i64 0),(.str [102]),(.int .i64 0),(.sl [[(.int .i64 4),(.int .i64 0),(.str [120]),(.int .i64 0),(.sl [[(.int .i64 5),(.int .i64 0),(.str []),(.int .i64 0),(.sl [[(.int .i64 1),(.int .i64 0),(.str [102]),(.int .i64 0),(.sl []),(.sl []),(.int .i64 0),(.str []),(.int .i64 0),(.int .i64 0),(.sl [])],[(.int .i64 1),(.int .i64 0),(.str [120]),(.int .i64 0),(.sl []),(.sl []),(.int .i64 0),(.str []),(.int .i64 0),(.int .i64 0),(.sl [])]]),(.sl []),(.int .i64 0),(.str []),(.int .i64 0),(.int .i64 0),(.sl [])]]),(.sl []),(.int .i64 0),(.str []),(.int .i64 0),(.int .i64 0),(.sl [])],[(.int .i64 4),(.int .i64 0),(.str [120]),(.int .i64 0),(.sl [[(.int .i64 5),(.int .i64 0),(.str []),(.int .i64 0),(.sl [[(.int .i64 1),(.int .i64 0),(.str [102]),(.int .i64 0),(.sl []),(.sl []),(.int .i64 0),(.str []),(.int .i64 0),(.int .i64 0),(.sl [])],[(.int .i64 1),(.int .i64 0),(.str [120]),(.int .i64 0),(.sl []),(.sl []),(.int .i64 0),(.str []),(.int .i64 0),(.int .i64 0),(.sl [])]]),(.sl []),(.int .i64 0),(.str []),(.int .i64 0),(.int .i64 0),(.sl [])]]),(.sl []),(.int .i64 0),(.str []),(.int .i64 0),(.int .i64 0),(.sl [])]]),(.sl []),(.int .i64 0),(.str []),(.int .i64 0),(.int .i64 0),(.sl [])],[(.int .i64 1),(.int .i64 0),(.str [120]),(.int .i64 0),(.sl []),(.sl []),(.int .i64 0),(.str []),(.int .i64 0),(.int .i64 0),(.sl [])]]),(.sl []),(.int .i64 0),(.str []),(.int .i64 0),(.int .i64 0),(.sl [])]]),(.sl []),(.int .i64 0),(.str []),(.int .i64 0),(.int .i64 0),(.sl [])],[(.int .i64 3),(.int .i64 0),(.str []),(.int .i64 1),(.sl []),(.sl []),(.int .i64 0),(.str []),(.int .i64 0),(.int .i64 0),(.sl [])]])),(.c (.sl [])),(.c (.int .i64 0)),(.c (.str [])),(.c (.int .i64 0)),(.c (.int .i64 0)),(.c (.sl []))])
def To:List V:=[(.sc (.c (.str [108,101,116,32,105,100,32,61,32,92,120,46,32,120,59,32,108,101,116,32,110,32,61,32,105,100,32,49,59])))]
def Uh:V:=(.ag [(.c (.sl [])),(.c (.sl [[(.int .i64 0),(.bool false),(.str [105,100]),(.bool false),(.int .i64 0),(.str []),(.int .i64 0),(.int .i64 0),(.sl []),(.int .i64 4),(.int .i64 9),(.str [120]),(.int .i64 0),(.sl [[(.int .i64 1),(.int .i64 13),(.str [120]),(.int .i64 0),(.sl []),(.sl []),(.int .i64 0),(.str []),(.int .i64 0),(.int .i64 0),(.sl [])]]),(.sl []),(.int .i64 0),(.str []),(.int .i64 0),(.int .i64 0),(.sl [])],[(.int .i64 16),(.bool false),(.str [110]),(.bool false),(.int .i64 0),(.str []),(.int .i64 0),(.int .i64 0),(.sl []),(.int .i64 5),(.int .i64 24),(.str []),(.int .i64 0),(.sl [[(.int .i64 1),(.int .i64 24),(.str [105,100]),(.int .i64 0),(.sl []),(.sl []),(.int .i64 0),(.str []),(.int .i64 0),(.int .i64 0),(.sl [])],[(.int .i64 3),(.int .i64 27),(.str []),(.int .i64 1),(.sl []),(.sl []),(.int .i64 0),(.str []),(.int .i64 0),(.int .i64 0),(.sl [])]]),(.sl []),(.int .i64 0),(.str []),(.int .i64 0),(.int .i64 0),(.sl [])]]))])
theorem UY:(ev 60 34 To []).map (B4 false)=some (Uh,[]):=by kernel_rfl
def R6:List V:=[(.ag [(.c (.sl [])),(.c (.sl [[(.int .i64 0),(.bool false),(.str [105,100]),(.bool false),(.int .i64 0),(.str []),(.int .i64 0),(.int .i64 0),(.sl []),(.int .i64 4),(.int .i64 9),(.str [120]),(.int .i64 0),(.sl [[(.int .i64 1),(.int .i64 13),(.str [120]),(.int .i64 0),(.sl []),(.sl []),(.int .i64 0),(.str []),(.int .i64 0),(.int .i64 0),(.sl [])]]),(.sl []),(.int .i64 0),(.str []),(.int .i64 0),(.int .i64 0),(.sl [])],[(.int .i64 16),(.bool false),(.str [110]),(.bool false),(.int .i64 0),(.str []),(.int .i64 0),(.int .i64 0),(.sl []),(.int .i64 5),(.int .i64 24),(.str []),(.int .i64 0),(.sl [[(.int .i64 1),(.int .i64 24),(.str [105,100]),(.int .i64 0),(.sl []),(.sl []),(.int .i64 0),(.str []),(.int .i64 0),(.int .i64 0),(.sl [])],[(.int .i64 3),(.int .i64 27),(.str []),(.int .i64 1),(.sl []),(.sl []),(.int .i64 0),(.str []),(.int .i64 0),(.int .i64 0),(.sl [])]]),(.sl []),(.int .i64 0),(.str []),(.int .i64 0),(.int .i64 0),(.sl [])]]))]),(.sc (.c (.int .i64 20)))]
def Sb:V:=(.tu [(.ag [(.c (.int .i64 3)),(.c (.int .i64 0)),(.c (.str [])),(.c (.int .i64 1)),(.c (.sl [])),(.c (.sl [])),(.c (.int .i64 0)),(.c (.str [])),(.c (.int .i64 0)),(.c (.int .i64 0)),(.c (.sl []))]),(.sc (.c (.int .i64 3))),(.sc (.c (.bool true)))])
theorem ZaM:(ev 60 31 R6 []).map (B4 false)=some (Sb,[]):=by kernel_rfl
def Qv:List V:=[(.ag [(.c (.int .i64 3)),(.c (.int .i64 0)),(.c (.str [])),(.c (.int .i64 1)),(.c (.sl [])),(.c (.sl [])),(.c (.int .i64 0)),(.c (.str [])),(.c (.int .i64 0)),(.c (.int .i64 0)),(.c (.sl []))]),(.ag [(.c (.int .i64 3)),(.c (.int .i64 0)),(.c (.str [])),(.c (.int .i64 1)),(.c (.sl [])),(.c (.sl [])),(.c (.int .i64 0)),(.c (.str [])),(.c (.int .i64 0)),(.c (.int .i64 0)),(.c (.sl []))])]
def O4:V:=(.sc (.c (.bool true)))
theorem Zaw:(ev 60 18 Qv []).map (B4 false)=some (O4,[]):=by kernel_rfl
def R9:List V:=[(.ag [(.c (.sl [])),(.c (.sl []))])]
def S7:V:=(.ag [(.c (.int .i64 3)),(.c (.int .i64 0)),(.c (.str [])),(.c (.int .i64 0)),(.c (.sl [])),(.c (.sl [])),(.c (.int .i64 0)),(.c (.str [])),(.c (.int .i64 0)),(.c (.int .i64 0)),(.c (.sl []))])
theorem Yf:(ev 60 27 R9 []).map (B4 false)=some (S7,[]):=by kernel_rfl
def Q8:JA:=[(34,To,Uh),(31,R6,Sb),(18,Qv,O4),(27,R9,S7)]
theorem Wa:∀p∈Q8,FnOk Go.Proofs.Tryz.prog gl0 p.1 p.2.1 [] p.2.2 []:=by
 intro p hp;simp only[Q8,qD,qas,or_false]at hp;rcases hp with rfl|rfl|rfl|rfl
 .exact Ko UY
 .exact Ko ZaM
 .exact Ko Zaw
 .exact Ko Yf
theorem Zb7:FnOk Go.Proofs.Tryz.prog gl0 25 [] [] (.sc (.c (.bool true))) []:=
 Zh (n:=2) follows T_ok Wa (by kernel_rfl)
def A27:Ab:=fun f args objs=>match args,objs with
 |[],[]=>bif f==25 then some (Aa true,[]) else none
 |_,_=>none
theorem XR:EQ A27:=by
 intro f args objs rv objs' _ h;unfold A27 at h;split at h
 .cases h15:f == 25 with
  |true=>
   rw[h15]at h;simp only[cond_true,qc,qh]at h;obtain⟨rfl,rfl⟩:=h;obtain rfl:f=25:=(by simpa using h15);exact Zb7
  |false=>rw[h15]at h;cases h
 .cases h
theorem runLists_fn (x0 x1:List Int):FnOk Go.Proofs.Tryz.prog gl0 10 [.sc (.c (.sl (Bm x0))),.sc (.c (.sl (Bm x1)))] [] (Aa true) []:=
 Zcl XR x0 x1 (I5 (by kernel_rfl) (by simp[X2,skip,A27]))
end Go.Vs.Tryz
