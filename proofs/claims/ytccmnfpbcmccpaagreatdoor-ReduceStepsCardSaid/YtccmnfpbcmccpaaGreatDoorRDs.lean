/- Numbers as text, walked: what FormatUint needs. -/
import Derived.Test.YtccmnfpbcmccpaaGreatDoorRCs
set_option linter.unusedSimpArgs false
set_option linter.unusedVariables false
set_option linter.deprecated false
set_option maxRecDepth 9999
set_option maxHeartbeats 16000000
namespace Go.Vs
open Go
variable {C:Ctx}{E:Nat->Option V}{L:Nat->Option Obj}{oid:Nat}
@[simp] theorem x_idxAA {s len:Nat} {x i:Opd}:Zah C E L oid (.idxAA s len x i)=ZbF (Zap (i.val C E) len) fun j=>onBy L (j*s) (x.val C E):=by
 simp only[Zah];cases Zap (i.val C E) len<;>rfl
@[simp] theorem x_newA {n:Nat} {zero:List W}:Zah C E L oid (.newA n zero)=newK (L oid) (bif Nat.ble n ZaJ then some (.sc (.el oid n 0 0),[(oid,some (.arr zero.length (List.replicate n zero) 0))]) else none):=by
 simp only[Zah];cases L oid<;>rfl
def slAK (L:Nat->Option Obj)(s n:Nat)(v:V)(lo hi:Option V):Option (V×Upd):=match v with
 |.sc (.el k N i off)=>arrK (L k) fun s' rows _=>ZbF (Zaz hi n n) fun h=>ZbF (Zaz lo 0 h) fun l=>
  bif N==n&&i==0&&off==0&&rows.length==N&&s'==s&&Nat.blt 0 N then some (.sc (.vw k N l (h-l)),[]) else none
 |_=>none
@[simp] theorem x_slA {s n:Nat} {x:Opd} {lo hi:Option Opd}:Zah C E L oid (.slA s n x lo hi)=slAK L s n (x.val C E) (lo.map (·.val C E)) (hi.map (·.val C E)):=by
 simp only[Zah];generalize x.val C E=v;cases v with
 |sc w=>
  cases w with
  |el k N i off=>
   simp only[slAK,arrK];cases L k with
   |none=>rfl
   |some o=>
    cases o with
    |box c=>rfl
    |arr s' rows p=>
     simp only;cases Zaz (hi.map (·.val C E)) n n with
     |none=>rfl
     |some h=>
      simp only[ZbF];cases Zaz (lo.map (·.val C E)) 0 h<;>rfl
  |c y=>cases y<;>rfl
  |_=>rfl
 |_=>rfl
@[simp] theorem slAK_to {s n k N h:Nat} {kk:IntKind} (hh:h<=n):slAK L s n (.sc (.el k N 0 0)) none (some (.sc (.c (.int kk (h:Int)))))=
 arrK (L k) fun s' rows _=>bif N==n&&rows.length==N&&s'==s&&Nat.blt 0 N then some (.sc (.vw k N 0 h),[]) else none:=by
 simp[slAK,Zaz,Zcj,Zbg,qbh hh,ZbF]
def cvSK:Option (List (List W))->Option (V×Upd)
 |none=>none
 |some rows=>bif rows.isEmpty then none else (Zag ZdG rows).map fun l=>(.sc (.c (.str l)),[])
@[simp] theorem x_cvS {x:Opd}:Zah C E L oid (.cvS x)=cvSK (Zbm L (x.val C E)):=by
 simp only[Zah,cvSK];cases Zbm L (x.val C E)<;>rfl
def bRow (b:UInt8):List Cell:=[.int .u8 b.toNat]
def Zet (w:List UInt8):List (List Cell):=w.map bRow
@[simp] theorem bRow_len (b:UInt8):(bRow b).length=1:=rfl
@[simp] theorem bRows_len (w:List UInt8):(Zet w).length=w.length:=by simp[Zet]
@[simp] theorem bRows_get (w:List UInt8) (i:Nat):(Zet w)[i]?=(w[i]?).map bRow:=by simp[Zet]
@[simp] theorem wc_b (b:UInt8):wc (bRow b)=[.c (.int .u8 b.toNat)]:=rfl
@[simp] theorem b_set (w:List UInt8) (i:Nat) (b:UInt8):setRow (wr (Zet w)) i [W.c (.int .u8 (b.toNat:Int))]=wr (Zet (w.set i b)):=by
 rw[Tryz.setRow_set];simp[Zet,wr,qa0,bRow]
theorem Zia:∀w:List UInt8,Zag ZdG (wr (Zet w))=some w
 |[]=>rfl
 |b::w=>by
  have h:=Zia w;have hb:b.toNat<256:=b.toNat_lt;have e:ZdG (wc (bRow b))=some b:=by
   simp only[wc_b,ZdG];rw[show(decide ((0:Int)<=(b.toNat:Int))&&decide ((b.toNat:Int)<256))=true by simp;omega];simp
  show Zag ZdG (wc (bRow b)::wr (Zet w))=_;simp only[Zag,e,h]
@[simp] theorem cvSK_b {w:List UInt8} (h:w≠[]):cvSK (some (wr (Zet w)))=some (.sc (.c (.str w)),[]):=by
 simp only[cvSK];rw[show(wr (Zet w)).isEmpty=false by cases w<;>simp_all[wr,Zet],Zia];rfl
theorem cut_b {w:List UInt8}{n:Nat}(h:n<=w.length):cut (wr (Zet w)) 0 n=some (wr (Zet (w.take n))):=by
 unfold cut;simp[wr,Zet,h,qau]
theorem zero_b (n:Nat):List.replicate n [W.c (.int .u8 0)]=wr (Zet (List.replicate n 0)):=by simp[wr,Zet,bRow]
@[simp] theorem wrap_u32 (x:Int) (h:0<=x/\x<4294967296):IntKind.u32.wrap x=x:=by
 unfold IntKind.wrap;simp[IntKind.bits,IntKind.signed];omega
@[simp] theorem wrap_u8 (x:Int) (h:0<=x/\x<256):IntKind.u8.wrap x=x:=by
 unfold IntKind.wrap;simp[IntKind.bits,IntKind.signed];omega
end Go.Vs
namespace Go.Vs.Tryz
open Go Go.Vs
variable {A:Zab}
def dg (x:Nat):UInt8:=UInt8.ofNat (48+x % 10)
def pd:Nat->Nat->Str
 |0,_=>[]
 |m+1,k=>dg (k / 10 ^ m)::pd m k
theorem Zyx:∀(m k:Nat),(pd m k).length=m
 |0,_=>rfl
 |m+1,k=>by simp[pd,Zyx m]
theorem ZrK:∀(m k:Nat),pd (m+1) k=pd m (k / 10)++[dg k]
 |0,k=>by simp[pd]
 |m+1,k=>by
  rw[pd,ZrK m k,pd];simp only[qa3];rw[Nat.div_div_eq_div_mul,qbb,Nat.mul_comm]
theorem Zyo:∀(m k:Nat),10 ^ m<=k->k<10 ^ (m+1)->pd (m+1) k=numS k
 |0,k,h1,h2=>by
  have:k<10:=by simpa using h2
  rw[ZdQ this];simp[pd,dg,qQ this]
 |m+1,k,h1,h2=>by
  have hp:1<=10 ^ m:=Nat.one_le_pow _ _ (by omega);have h10:10 ^ (m+1)=10 ^ m*10:=qbb ..;have h20:10 ^ (m+2)=10 ^ m*10*10:=by rw[qbb,qbb]
  rw[ZdF (by omega),ZrK,Zyo m (k / 10) (by omega) (by omega)];rfl
theorem ZAC (n:Nat)(h:n<18446744073709551616):(K A).call 280 [u64V n] []=some (intV (Sort.bitsLen n),[]):=by
 by_cases h0:n<2147483648
 .exact Zto n h0
 refine fnO v280 ?_;unfold v280 G;obtain⟨T,hT⟩:∃T,d256=T:=⟨_,rfl⟩;obtain⟨t1,t2⟩:=tab8 T hT;unfold d256 at hT;rw[hT];clear hT;have key:∀(m sh:Nat),m<4294967296->65536<=m->Sort.bitsLen n=Sort.bitsLen m+sh->Sort.bitsLen n=Sort.bitsLen (m / 2 ^ 16)+(sh+16):=fun m sh h1 h2 h3=>by
  rw[h3,ZcB 16 m (by omega)];omega
 have fin:∀m:Nat,m<256->IntKind.u8.wrap (m:Int)=m:=fun m hm=>wrap_u8 _ ⟨by omega,by omega⟩;by_cases h32:4294967296<=n
 .have h32I:(4294967296:Int)<=n:=by omega
  have s32:shrI .u64 (n:Int) 32=((n / 2 ^ 32:Nat):Int):=Zek n 32 (by omega);have hb:=ZcB 32 n (by omega);generalize hm:n / 2 ^ 32=m at *
  by_cases h1:65536<=m
  .have h1I:(65536:Int)<=m:=by omega
   have s16:shrI .u64 (m:Int) 16=((m / 2 ^ 16:Nat):Int):=Zek m 16 (by omega);have hb2:=ZcB 16 m (by omega);generalize hk:m / 2 ^ 16=k at *
   by_cases h2:256<=k
   .have h2I:(256:Int)<=k:=by omega
    have s8:shrI .u64 (k:Int) 8=((k / 2 ^ 8:Nat):Int):=Zek k 8 (by omega);have hb3:=ZcB 8 k (by omega);generalize hj:k / 2 ^ 8=j at *
    have hj2:j<256:=(by omega);have e1:=t2 j hj2;have e2:=bl8 hj2;have e3:=Zge (n:=j) (k:=8) hj2;rw[hb,hb2,hb3];simp(maxSteps:=4000000) (disch:=first|exact zd|fail) [h32I,h1I,h2I,s32,s16,s8,t1,e1,e2,fin,-getElem?_pos];omega
   .have h2I:¬(256:Int)<=k:=by omega
    have hj2:k<256:=(by omega);have e1:=t2 k hj2;have e2:=bl8 hj2;have e3:=Zge (n:=k) (k:=8) hj2;rw[hb,hb2];simp(maxSteps:=4000000) (disch:=first|exact zd|fail) [h32I,h1I,h2I,s32,s16,t1,e1,e2,fin,-getElem?_pos];omega
  .have h1I:¬(65536:Int)<=m:=by omega
   by_cases h2:256<=m
   .have h2I:(256:Int)<=m:=by omega
    have s8:shrI .u64 (m:Int) 8=((m / 2 ^ 8:Nat):Int):=Zek m 8 (by omega);have hb3:=ZcB 8 m (by omega);generalize hj:m / 2 ^ 8=j at *
    have hj2:j<256:=(by omega);have e1:=t2 j hj2;have e2:=bl8 hj2;have e3:=Zge (n:=j) (k:=8) hj2;rw[hb,hb3];simp(maxSteps:=4000000) (disch:=first|exact zd|fail) [h32I,h1I,h2I,s32,s8,t1,e1,e2,fin,-getElem?_pos];omega
   .have h2I:¬(256:Int)<=m:=by omega
    have hj2:m<256:=(by omega);have e1:=t2 m hj2;have e2:=bl8 hj2;have e3:=Zge (n:=m) (k:=8) hj2;rw[hb];simp(maxSteps:=4000000) (disch:=first|exact zd|fail) [h32I,h1I,h2I,s32,t1,e1,e2,fin,-getElem?_pos];omega
 .have h32I:¬(4294967296:Int)<=n:=by omega
  have h1I:(65536:Int)<=n:=by omega
  have s16:shrI .u64 (n:Int) 16=((n / 2 ^ 16:Nat):Int):=Zek n 16 (by omega);have hb2:=ZcB 16 n (by omega);generalize hk:n / 2 ^ 16=k at *
  have h2I:(256:Int)<=k:=by omega
  have s8:shrI .u64 (k:Int) 8=((k / 2 ^ 8:Nat):Int):=Zek k 8 (by omega);have hb3:=ZcB 8 k (by omega);generalize hj:k / 2 ^ 8=j at *
  have hj2:j<256:=by omega
  have e1:=t2 j hj2;have e2:=bl8 hj2;have e3:=Zge (n:=j) (k:=8) hj2;rw[hb2,hb3];simp(maxSteps:=4000000) (disch:=first|exact zd|fail) [h32I,h1I,h2I,s16,s8,t1,e1,e2,fin,-getElem?_pos];omega
def gs (L:Nat):Nat:=L*78913 / 262144
def ndig (k:Nat):Nat:=gs (Sort.bitsLen k)+if 10 ^ gs (Sort.bitsLen k)<=k then 1 else 0
theorem ZpK {L:Nat}(h:L<65):gs L<20/\2 ^ L<=10 ^ (gs L+1)/\(L=0\/10 ^ (gs L-1)<=2 ^ (L-1)):=by
 have h1:(List.range 65).all (fun L=>decide (gs L<20)&&decide (2 ^ L<=10 ^ (gs L+1))&&(decide (L=0)||decide (10 ^ (gs L-1)<=2 ^ (L-1))))=true:=by kernel_rfl
 have h2:=ZjJ h1 h;simp only[qc,qay,decide_eq_true_eq]at h2;exact⟨h2.1.1,h2.1.2,h2.2⟩
theorem bl_hi (n:Nat):n<2 ^ Sort.bitsLen n:=by
 unfold Sort.bitsLen;split
 .omega
 .exact Nat.lt_log2_self
theorem bl_lo {n:Nat}(h:n≠0):2 ^ (Sort.bitsLen n-1)<=n:=by
 unfold Sort.bitsLen;rw[if_neg h];exact Nat.log2_self_le h
theorem Zq9 {k:Nat}(h1:1<=k)(h:k<18446744073709551616):1<=ndig k/\ndig k<=20/\10 ^ (ndig k-1)<=k/\k<10 ^ ndig k:=by
 have hL:Sort.bitsLen k<=64:=Zge (k:=64) h;obtain⟨g1,g2,g3⟩:=ZpK (L:=Sort.bitsLen k) (by omega);have b1:=bl_hi k;have b2:=bl_lo (n:=k) (by omega);unfold ndig;by_cases hc:10 ^ gs (Sort.bitsLen k)<=k
 .rw [if_pos hc]
  exact⟨by omega,by omega,by rw[qaX];exact hc,qaq b1 g2⟩
 .rw [if_neg hc,qa7]
  have hg:1<=gs (Sort.bitsLen k):=by
   rcases Nat.eq_zero_or_pos (gs (Sort.bitsLen k))with h0|h0
   .rw [h0] at hc
    simp at hc;omega
   .exact h0
  refine⟨hg,by omega,?_,by omega⟩;rcases g3 with g3|g3
  .have:k=0:=by
    rw[g3]at b1;simpa using b1
   omega
  .exact qu g3 b2
theorem tabPow {j:Nat}(h:j<20):cut (tabOf .u64 pow10Tab) j 1=some [.int .u64 ((10 ^ j:Nat):Int)]:=by
 have h1:(List.range 20).all (fun j=>decide (pow10Tab[j]?=some ((10 ^ j:Nat):Int)))=true:=by kernel_rfl
 have h2:=of_decide_eq_true (ZjJ h1 h);unfold cut tabOf;have hl:pow10Tab.length=20:=rfl;have h3:(pow10Tab.drop j).take 1=[((10 ^ j:Nat):Int)]:=by
  rw[List.drop_eq_getElem_cons (by omega)];rw[qh (by omega)]at h2;rw[qaL h2];rfl
 simp only[qan,hl];rw[show Nat.ble (j+1) 20=true from qR (by omega),cond_true,<-List.map_drop,<-qau,h3];rfl
theorem ZzP (n k:Nat)(hk:k<64):shrI .i64 (n:Int) (k:Int)=((n / 2 ^ k:Nat):Int):=by
 unfold shrI;rw[qag,show min k IntKind.i64.bits=k from qbe (Nat.le_of_lt hk),Int.fdiv_eq_ediv_of_nonneg _ (Int.le_of_lt (Int.pow_pos (by decide)))];simp
theorem log236 (x:Nat)(h:x<65):(K A).call 287 [intV x] []=some (intV (gs x),[]):=by
 refine fnO v287 ?_;have h1:(x:Int)*78913=((x*78913:Nat):Int):=by omega
 have h2:shrI .i64 ((x*78913:Nat):Int) 18=((gs x:Nat):Int):=ZzP (x*78913) 18 (by omega);generalize hy:x*78913=y at *
 have hyb:y<6000000:=by omega
 unfold v287;simp(disch:=first|exact zd|fail) [h1,h2]
theorem Zzc (b:Bool):(K A).call 288 [Zae b] []=some (intV (if b=true then 1 else 0),[]):=by
 refine fnO v288 ?_;unfold v288;cases b<;>simp
theorem gl2:gl0 2=tabOf .u64 pow10Tab:=rfl
theorem ZBc (k:Nat)(h:k<18446744073709551616):(K A).call 267 [u64V k] []=some (intV (ndig k),[]):=by
 have hL:Sort.bitsLen k<=64:=Zge (k:=64) h;obtain⟨g1,_⟩:=ZpK (L:=Sort.bitsLen k) (by omega);have c1:=ZAC (A:=A) k h;have c2:=log236 (A:=A) (Sort.bitsLen k) (by omega);have c3:=tabPow g1;have c4:=Zzc (A:=A) (decide (10 ^ gs (Sort.bitsLen k)<=k));unfold ndig;generalize Sort.bitsLen k=L at *
 generalize gs L=g at *
 have hcI:decide (((10 ^ g:Nat):Int)<=(k:Int))=decide (10 ^ g<=k):=by rw[decide_eq_decide];omega
 generalize hp:10 ^ g=p at *
 refine fnO v267 ?_;unfold v267;by_cases hc:p<=k
 .have hcI2:(p:Int)<=(k:Int):=by omega
  simp only[hc,decide_true,if_true]at c4 |-;simp(maxSteps:=4000000) (disch:=first|exact zd|fail) [c1,c2,c3,c4,gl2,hc,hcI2,Opd.val]
 .have hcI2:¬(p:Int)<=(k:Int):=by omega
  simp only[hc,decide_false,qE,if_false]at c4 |-;simp(maxSteps:=4000000) (disch:=first|exact zd|fail) [c1,c2,c3,c4,gl2,hc,hcI2,Opd.val]
variable {A:Zab}
abbrev arrB (w:Str):Obj:=.arr 1 (wr (Zet w)) 0
theorem tab2 (T:List UInt8)(hT:(d200:List UInt8)=T):T.length=200/\∀x,x<100->T[x*2]?=some (dg (x / 10))/\T[x*2+1]?=some (dg x):=by
 subst hT;refine⟨by kernel_rfl,fun x hx=>?_⟩;have h:(List.range 100).all (fun x=>((d200:List UInt8)[x*2]?==some (dg (x / 10)))&&((d200:List UInt8)[x*2+1]?==some (dg x)))=true:=by kernel_rfl
 have h1:=ZjJ h hx;simp only[qc,beq_iff_eq]at h1;exact h1
theorem Zgw {x y:Nat}(h:x % 10=y % 10):dg x=dg y:=by unfold dg;rw[h]
theorem vset {w:Str}{n i:Nat}{x:UInt8}(hi:i<n)(hn:n<=w.length):((w.set i x).take n).drop i=x::(w.take n).drop (i+1):=by
 apply qC;intro j;cases j with
 |zero=>simp[qZ,qW,qaG,hi];omega
 |succ j=>
  simp only[qZ,qW,qa6];rw[qaC (by omega),show i+(j+1)=i+1+j by omega]
theorem ZjP (k m j:Nat):k / 10 ^ (m+j)=k / 10 ^ m / 10 ^ j:=by rw[Nat.pow_add,Nat.div_div_eq_div_mul]
theorem ZAI (m k:Nat):pd (m+1) k=dg (k / 10 ^ m)::pd m k:=rfl
theorem ZwF (m k:Nat):pd (m+8) k=dg (k / 10 ^ m / 10 ^ 7)::dg (k / 10 ^ m / 10 ^ 6)::dg (k / 10 ^ m / 10 ^ 5)::dg (k / 10 ^ m / 10 ^ 4)::dg (k / 10 ^ m / 10 ^ 3)::dg (k / 10 ^ m / 10 ^ 2)::dg (k / 10 ^ m / 10 ^ 1)::dg (k / 10 ^ m)::pd m k:=by
 simp only[<-ZjP];rfl
theorem Zw6 (m k:Nat):pd (m+4) k=dg (k / 10 ^ m / 10 ^ 3)::dg (k / 10 ^ m / 10 ^ 2)::dg (k / 10 ^ m / 10 ^ 1)::dg (k / 10 ^ m)::pd m k:=by
 simp only[<-ZjP];rfl
theorem Zww (m k:Nat):pd (m+2) k=dg (k / 10 ^ m / 10 ^ 1)::dg (k / 10 ^ m)::pd m k:=by
 simp only[<-ZjP];rfl
theorem vset8 {w:Str}{n i:Nat}{x1 x2 x3 x4 x5 x6 x7 x8:UInt8}(hp:8<=i)(hi:i<=n)(hn:n<=w.length):(((((((((w.set (i-1) (x1)).set (i-2) (x2)).set (i-3) (x3)).set (i-4) (x4)).set (i-5) (x5)).set (i-6) (x6)).set (i-7) (x7)).set (i-8) (x8)).take n).drop (i-8)=x8::x7::x6::x5::x4::x3::x2::x1::(w.take n).drop i:=by
 have h0:(w.take n).drop i=(w.take n).drop i:=rfl;have h1:=vset (w:=w) (n:=n) (i:=i-1) (x:=x1) (by omega) (by first | omega | (simp;omega));rw[show i-1+1=i-0 by omega,qa8]at h1;have h2:=vset (w:=(w.set (i-1) (x1))) (n:=n) (i:=i-2) (x:=x2) (by omega) (by first | omega | (simp;omega));rw[show i-2+1=i-1 by omega,h1]at h2
 have h3:=vset (w:=((w.set (i-1) (x1)).set (i-2) (x2))) (n:=n) (i:=i-3) (x:=x3) (by omega) (by first | omega | (simp;omega));rw[show i-3+1=i-2 by omega,h2]at h3;have h4:=vset (w:=(((w.set (i-1) (x1)).set (i-2) (x2)).set (i-3) (x3))) (n:=n) (i:=i-4) (x:=x4) (by omega) (by first | omega | (simp;omega));rw[show i-4+1=i-3 by omega,h3]at h4
 have h5:=vset (w:=((((w.set (i-1) (x1)).set (i-2) (x2)).set (i-3) (x3)).set (i-4) (x4))) (n:=n) (i:=i-5) (x:=x5) (by omega) (by first | omega | (simp;omega));rw[show i-5+1=i-4 by omega,h4]at h5;have h6:=vset (w:=(((((w.set (i-1) (x1)).set (i-2) (x2)).set (i-3) (x3)).set (i-4) (x4)).set (i-5) (x5))) (n:=n) (i:=i-6) (x:=x6) (by omega) (by first | omega | (simp;omega))
 rw[show i-6+1=i-5 by omega,h5]at h6;have h7:=vset (w:=((((((w.set (i-1) (x1)).set (i-2) (x2)).set (i-3) (x3)).set (i-4) (x4)).set (i-5) (x5)).set (i-6) (x6))) (n:=n) (i:=i-7) (x:=x7) (by omega) (by first | omega | (simp;omega));rw[show i-7+1=i-6 by omega,h6]at h7
 have h8:=vset (w:=(((((((w.set (i-1) (x1)).set (i-2) (x2)).set (i-3) (x3)).set (i-4) (x4)).set (i-5) (x5)).set (i-6) (x6)).set (i-7) (x7))) (n:=n) (i:=i-8) (x:=x8) (by omega) (by first | omega | (simp;omega));rw[show i-8+1=i-7 by omega,h7]at h8;exact h8
theorem vset4 {w:Str}{n i:Nat}{x1 x2 x3 x4:UInt8}(hp:4<=i)(hi:i<=n)(hn:n<=w.length):(((((w.set (i-1) (x1)).set (i-2) (x2)).set (i-3) (x3)).set (i-4) (x4)).take n).drop (i-4)=x4::x3::x2::x1::(w.take n).drop i:=by
 have h0:(w.take n).drop i=(w.take n).drop i:=rfl;have h1:=vset (w:=w) (n:=n) (i:=i-1) (x:=x1) (by omega) (by first | omega | (simp;omega));rw[show i-1+1=i-0 by omega,qa8]at h1;have h2:=vset (w:=(w.set (i-1) (x1))) (n:=n) (i:=i-2) (x:=x2) (by omega) (by first | omega | (simp;omega));rw[show i-2+1=i-1 by omega,h1]at h2
 have h3:=vset (w:=((w.set (i-1) (x1)).set (i-2) (x2))) (n:=n) (i:=i-3) (x:=x3) (by omega) (by first | omega | (simp;omega));rw[show i-3+1=i-2 by omega,h2]at h3;have h4:=vset (w:=(((w.set (i-1) (x1)).set (i-2) (x2)).set (i-3) (x3))) (n:=n) (i:=i-4) (x:=x4) (by omega) (by first | omega | (simp;omega));rw[show i-4+1=i-3 by omega,h3]at h4;exact h4
theorem vset2 {w:Str}{n i:Nat}{x1 x2:UInt8}(hp:2<=i)(hi:i<=n)(hn:n<=w.length):(((w.set (i-1) (x1)).set (i-2) (x2)).take n).drop (i-2)=x2::x1::(w.take n).drop i:=by
 have h0:(w.take n).drop i=(w.take n).drop i:=rfl;have h1:=vset (w:=w) (n:=n) (i:=i-1) (x:=x1) (by omega) (by first | omega | (simp;omega));rw[show i-1+1=i-0 by omega,qa8]at h1;have h2:=vset (w:=(w.set (i-1) (x1))) (n:=n) (i:=i-2) (x:=x2) (by omega) (by first | omega | (simp;omega));rw[show i-2+1=i-1 by omega,h1]at h2;exact h2
def FB (n k i:Nat)(w:Str):Prop:=w.length=24/\i<=n/\(w.take n).drop i=pd (n-i) k
theorem Zx2 (n k:Nat)(hn:n<=24)(hk:k<18446744073709551616){i:Nat}{w:Str}(hw:FB n k i w)(hi:8<=i)(Q:Ex->St->Prop)
 (hQ:∀w',FB n k (i-8) w'->Q .normal ⟨[(0,.sc (.vw 0 24 0 n)),(1,u64V (k / 10 ^ (n-(i-8)))),(4,intV ((i-8:Nat):Int))],[(0,some (arrB w'))]⟩):
 wp (K A) ZmF Q ⟨[(0,.sc (.vw 0 24 0 n)),(1,u64V (k / 10 ^ (n-i))),(4,intV i)],[(0,some (arrB w))]⟩:=by
 obtain⟨h1,h2,h3⟩:=hw;have hul:k / 10 ^ (n-i)<=k:=Nat.div_le_self ..;have hnext:k / 10 ^ (n-(i-8))=k / 10 ^ (n-i) / 100000000:=by
  rw[show n-(i-8)=n-i+8 by omega,ZjP]
 have hpd:=ZwF (n-i) k;rw[<-h3]at hpd;generalize hu:k / 10 ^ (n-i)=u at *
 rw[hnext]at hQ;have t1:Int.tmod (u:Int) 100000000=((u % 100000000:Nat):Int):=by rw[qB (by omega)];omega
 have t2:Int.tdiv (u:Int) 100000000=((u / 100000000:Nat):Int):=by rw[qt (by omega)];omega
 have x1:u / 100000000<=u:=Nat.div_le_self ..;generalize hun:u / 100000000=un at *
 generalize huh:u % 100000000=uh at *
 have t3:Int.tdiv (uh:Int) 10000=((uh / 10000:Nat):Int):=by rw[qt (by omega)];omega
 have t4:Int.tmod (uh:Int) 10000=((uh % 10000:Nat):Int):=by rw[qB (by omega)];omega
 generalize hd0:uh / 10000=d0 at *
 generalize hd1:uh % 10000=d1 at *
 have t5:Int.tdiv (d1:Int) 100=((d1 / 100:Nat):Int):=by rw[qt (by omega)];omega
 have t6:Int.tmod (d1:Int) 100=((d1 % 100:Nat):Int):=by rw[qB (by omega)];omega
 have t7:Int.tdiv (d0:Int) 100=((d0 / 100:Nat):Int):=by rw[qt (by omega)];omega
 have t8:Int.tmod (d0:Int) 100=((d0 % 100:Nat):Int):=by rw[qB (by omega)];omega
 generalize ha1:d1 / 100=a1 at *
 generalize ha0:d1 % 100=a0 at *
 generalize hb1:d0 / 100=b1 at *
 generalize hb0:d0 % 100=b0 at *
 have hfin:FB n k (i-8) ((((((((w.set (i-1) (dg a0)).set (i-2) (dg (a0 / 10))).set (i-3) (dg a1)).set (i-4) (dg (a1 / 10))).set (i-5) (dg b0)).set (i-6) (dg (b0 / 10))).set (i-7) (dg b1)).set (i-8) (dg (b1 / 10))):=by
  refine⟨by simp[h1],by omega,?_⟩;rw[vset8 hi h2 (by omega),show n-(i-8)=n-i+8 by omega,hpd];rw[Zgw (x:=b1 / 10) (y:=u / 10 ^ 7) (by omega),Zgw (x:=b1) (y:=u / 10 ^ 6) (by omega),Zgw (x:=b0 / 10) (y:=u / 10 ^ 5) (by omega),Zgw (x:=b0) (y:=u / 10 ^ 4) (by omega),
   Zgw (x:=a1 / 10) (y:=u / 10 ^ 3) (by omega),Zgw (x:=a1) (y:=u / 10 ^ 2) (by omega),Zgw (x:=a0 / 10) (y:=u / 10 ^ 1) (by omega),Zgw (x:=a0) (y:=u) (by omega)]
 have fin:=hQ _ hfin;unfold ZmF G;obtain⟨T,hT⟩:∃T,d200=T:=⟨_,rfl⟩;obtain⟨y1,y2⟩:=tab2 T hT;unfold d200 at hT;rw[hT];clear hT;obtain⟨ya0,ya1⟩:=y2 a0 (by omega);obtain⟨yb0,yb1⟩:=y2 a1 (by omega);obtain⟨yc0,yc1⟩:=y2 b0 (by omega);obtain⟨yd0,yd1⟩:=y2 b1 (by omega);have z0:(a0:Int)*2=((a0*2:Nat):Int):=by omega
 have z1:(a1:Int)*2=((a1*2:Nat):Int):=by omega
 have z2:(b0:Int)*2=((b0*2:Nat):Int):=by omega
 have z3:(b1:Int)*2=((b1*2:Nat):Int):=by omega
 have q0:a0*2<199:=by omega
 have q1:a1*2<199:=by omega
 have q2:b0*2<199:=by omega
 have q3:b1*2<199:=by omega
 generalize a0*2=e0 at *
 generalize a1*2=e1 at *
 generalize b0*2=e2 at *
 generalize b1*2=e3 at *
 have w0:(e0:Int)+1=((e0+1:Nat):Int):=by omega
 have w1:(e1:Int)+1=((e1+1:Nat):Int):=by omega
 have w2:(e2:Int)+1=((e2+1:Nat):Int):=by omega
 have w3:(e3:Int)+1=((e3+1:Nat):Int):=by omega
 have q10:e0+1<200:=by omega
 have q11:e1+1<200:=by omega
 have q12:e2+1<200:=by omega
 have q13:e3+1<200:=by omega
 generalize e0+1=f0 at *
 generalize e1+1=f1 at *
 generalize e2+1=f2 at *
 generalize e3+1=f3 at *
 obtain⟨v0,hv0⟩:=Zaa (l:=w) (i:=i-1) (by first|omega|(simp;omega));obtain⟨v1,hv1⟩:=Zaa (l:=(w.set (i-1) (dg a0))) (i:=i-2) (by first|omega|(simp;omega));obtain⟨v2,hv2⟩:=Zaa (l:=((w.set (i-1) (dg a0)).set (i-2) (dg (a0 / 10)))) (i:=i-3) (by first|omega|(simp;omega));obtain⟨v3,hv3⟩:=Zaa (l:=(((w.set (i-1) (dg a0)).set (i-2) (dg (a0 / 10))).set (i-3) (dg a1))) (i:=i-4) (by first|omega|(simp;omega))
 obtain⟨v4,hv4⟩:=Zaa (l:=((((w.set (i-1) (dg a0)).set (i-2) (dg (a0 / 10))).set (i-3) (dg a1)).set (i-4) (dg (a1 / 10)))) (i:=i-5) (by first|omega|(simp;omega));obtain⟨v5,hv5⟩:=Zaa (l:=(((((w.set (i-1) (dg a0)).set (i-2) (dg (a0 / 10))).set (i-3) (dg a1)).set (i-4) (dg (a1 / 10))).set (i-5) (dg b0))) (i:=i-6) (by first|omega|(simp;omega))
 obtain⟨v6,hv6⟩:=Zaa (l:=((((((w.set (i-1) (dg a0)).set (i-2) (dg (a0 / 10))).set (i-3) (dg a1)).set (i-4) (dg (a1 / 10))).set (i-5) (dg b0)).set (i-6) (dg (b0 / 10)))) (i:=i-7) (by first|omega|(simp;omega))
 obtain⟨v7,hv7⟩:=Zaa (l:=(((((((w.set (i-1) (dg a0)).set (i-2) (dg (a0 / 10))).set (i-3) (dg a1)).set (i-4) (dg (a1 / 10))).set (i-5) (dg b0)).set (i-6) (dg (b0 / 10))).set (i-7) (dg b1))) (i:=i-8) (by first|omega|(simp;omega));have iI1:(i:Int)-1=((i-1:Nat):Int):=by omega
 have iI2:(i:Int)-2=((i-2:Nat):Int):=by omega
 have iI3:(i:Int)-3=((i-3:Nat):Int):=by omega
 have iI4:(i:Int)-4=((i-4:Nat):Int):=by omega
 have iI5:(i:Int)-5=((i-5:Nat):Int):=by omega
 have iI6:(i:Int)-6=((i-6:Nat):Int):=by omega
 have iI7:(i:Int)-7=((i-7:Nat):Int):=by omega
 have iI8:(i:Int)-8=((i-8:Nat):Int):=by omega
 have hiI:(8:Int)<=i:=by omega
 have hun64:un<18446744073709551616:=by omega
 have hw64:=fun h=>Zba un h;simp(maxSteps:=8000000) (disch:=first|exact zd|fail) [hiI,t1,t2,t3,t4,t5,t6,t7,t8,z0,z1,z2,z3,w0,w1,w2,w3,y1,ya0,ya1,yb0,yb1,yc0,yc1,yd0,yd1,hv0,hv1,hv2,hv3,hv4,hv5,hv6,hv7,iI1,iI2,iI3,iI4,iI5,iI6,iI7,iI8,hn,h1,hw64 hun64,-getElem?_pos];exact fin
theorem FB4 {n k i:Nat}{w:Str}(hn:n<=24)(hw:FB n k i w)(hi:4<=i){u a0 a1:Nat}(hu:k / 10 ^ (n-i)=u)(h1:a1=u % 10000 / 100)(h0:a0=u % 10000 % 100):
 FB n k (i-4) ((((w.set (i-1) (dg a0)).set (i-2) (dg (a0 / 10))).set (i-3) (dg a1)).set (i-4) (dg (a1 / 10)))/\k / 10 ^ (n-(i-4))=u / 10000:=by
 obtain⟨k1,k2,k3⟩:=hw;have hpd:=Zw6 (n-i) k;rw[<-k3,hu]at hpd;refine⟨⟨by simp[k1],by omega,?_⟩,by rw[show n-(i-4)=n-i+4 by omega,ZjP,hu]⟩;rw[vset4 hi k2 (by omega),show n-(i-4)=n-i+4 by omega,hpd];rw[Zgw (x:=a1 / 10) (y:=u / 10 ^ 3) (by omega),Zgw (x:=a1) (y:=u / 10 ^ 2) (by omega),Zgw (x:=a0 / 10) (y:=u / 10 ^ 1) (by omega),Zgw (x:=a0) (y:=u) (by omega)]
theorem FB2 {n k i:Nat}{w:Str}(hn:n<=24)(hw:FB n k i w)(hi:2<=i){u a0:Nat}(hu:k / 10 ^ (n-i)=u)(h0:a0=u % 100):
 FB n k (i-2) ((w.set (i-1) (dg a0)).set (i-2) (dg (a0 / 10)))/\k / 10 ^ (n-(i-2))=u / 100:=by
 obtain⟨k1,k2,k3⟩:=hw;have hpd:=Zww (n-i) k;rw[<-k3,hu]at hpd;refine⟨⟨by simp[k1],by omega,?_⟩,by rw[show n-(i-2)=n-i+2 by omega,ZjP,hu]⟩;rw[vset2 hi k2 (by omega),show n-(i-2)=n-i+2 by omega,hpd];rw[Zgw (x:=a0 / 10) (y:=u / 10 ^ 1) (by omega),Zgw (x:=a0) (y:=u) (by omega)]
theorem FB1 {n k:Nat}{w:Str}(hn:n<=24)(hw:FB n k 1 w){u:Nat}(hu:k / 10 ^ (n-1)=u):FB n k 0 (w.set 0 (dg u)):=by
 obtain⟨k1,k2,k3⟩:=hw;have hv:=vset (w:=w) (n:=n) (i:=0) (x:=dg u) (by omega) (by omega);refine⟨by simp[k1],by omega,?_⟩;rw[hv,k3,qa8,show n=n-1+1 by omega,ZAI,show n-1+1-1=n-1 by omega,hu]
theorem FB0 {n k:Nat}{w:Str}(hw:FB n k 0 w):w.take n=pd n k:=by
 obtain⟨_,_,h⟩:=hw;simpa using h
end Go.Vs.Tryz
