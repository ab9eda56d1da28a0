/- Clearing, as the simplifier sees it; compacting, walked. (Parts of one proof, put together.) -/
import Derived.Test.YtlcncicmkkelcaaGreatDoorR9b
import Derived.Test.YtlcncicmkkelcaaGreatDoorR5b
set_option linter.unusedSimpArgs false
set_option linter.unusedVariables false
set_option linter.deprecated false
set_option maxHeartbeats 8000000
namespace Go.Vs
open Go
variable {C:Ctx}{E:Nat→Option V}{L:Nat→Option Obj}{oid:Nat}
def clrK (L:Nat→Option Obj)(s:Nat)(zero:List W):V→Option (V × Upd)
 | .sc (.vw k N lo n)=>arrK (L k) fun s' rows p=>bif rows.length == N && s' == s && zero.length == s && zero.all Zav && Nat.ble (lo+n) N && Nat.ble p lo && Nat.blt 0 n then
  some (.sc .un,[(k,some (.arr s (rows.take lo++List.replicate n zero++rows.drop (lo+n)) p))]) else none
 | _=>none
@[simp] theorem x_clr {s:Nat} {zero:List W} {x:Opd}:Zad C E L oid (.clr s zero x)=clrK L s zero (x.val C E):=by
 simp only [Zad]
 generalize x.val C E=v
 cases v with
 | sc w =>
  cases w with
  | vw k N lo n =>
   simp only [clrK,arrK]
   cases L k with
   | none=>rfl
   | some o=>cases o<;>rfl
  | c y=>cases y<;>rfl
  | _=>rfl
 | _=>rfl
@[simp] theorem clrK_vw {s:Nat} {zero:List W} {k N lo n:Nat}:clrK L s zero (.sc (.vw k N lo n))=arrK (L k) fun s' rows p=>bif rows.length == N && s' == s && zero.length == s && zero.all Zav && Nat.ble (lo+n) N && Nat.ble p lo && Nat.blt 0 n then
 some (.sc .un,[(k,some (.arr s (rows.take lo++List.replicate n zero++rows.drop (lo+n)) p))]) else none:=rfl
@[simp] theorem slice_arr_from {s k n i:Nat} {kk:IntKind} (h:i≤n):Zbl L s (.sc (.arr k n)) (some (.sc (.c (.int kk (i:Int))))) none none =
 arrK (L k) fun s' rows _=>bif rows.length == n && s' == s then some (.sc (.vw k n i (n-i)),[]) else none:=by
 cases hL:L k with
 | none=>simp [Zbl,hL,arrK]
 | some o =>
  cases o with
  | box c=>simp [Zbl,hL,arrK]
  | arr s' rows p=>simp [Zbl,hL,arrK,Zaq,ZbO,Zbi,Nat.lt_succ_of_le h]
@[simp] theorem slice_arr_to {s k n i:Nat} {kk:IntKind} (h:i≤n):Zbl L s (.sc (.arr k n)) none (some (.sc (.c (.int kk (i:Int))))) none =
 arrK (L k) fun s' rows _=>bif rows.length == n && s' == s then some (.sc (.vw k n 0 i),[]) else none:=by
 cases hL:L k with
 | none=>simp [Zbl,hL,arrK]
 | some o =>
  cases o with
  | box c=>simp [Zbl,hL,arrK]
  | arr s' rows p=>simp [Zbl,hL,arrK,Zaq,ZbO,Zbi,Nat.lt_succ_of_le h]
end Go.Vs
namespace Go.Vs.Tryz
open Go Go.Vs
variable {A:Zac}
theorem Zd6 {d:List Nat}:∀ m,m≤d.length→(∀ k x,0<k→k<m→d[k]?=some x→d[k-1]?≠some x)→ZbF d m=d.take m
 | 0,_,_=>rfl
 | m+1,h,hn=>by
  obtain ⟨x,hx⟩:=Zaa (l:=d) (i:=m) (by omega)
  rw [Zei hx (fun hc=>hn m x hc.1 (by omega) hx hc.2),Zd6 m (by omega) (fun k x h1 h2=>hn k x h1 (by omega)),Zat hx]
theorem Zo7 {α:Type}{l:List α}{o n:Nat}(h:o+n≤l.length):∃ r,cut l o n=some r:=by
 unfold cut
 simp [h]
def ZpL (d:List Nat)(r:V × List Obj):Prop:=∃ (m:Nat) (d':List Nat),d'.length=d.length∧m≤d.length∧d'.take m=ZbF d d.length ∧
 ((m=d.length∧r=(.sc (.arr 0 d.length),[arrU d']))∨r=(.sc (.vw 0 d.length 0 m),[arrU d']))
theorem Zqx (d:List Nat)(k m:Nat):(wr (Zbk d)).take k++List.replicate m [W.c (.int .u64 0)]++(wr (Zbk d)).drop (k+m)=wr (Zbk (d.take k++List.replicate m 0++d.drop (k+m))):=by
 simp [wr,Zbk,ZgZ,List.map_take,List.map_drop]
theorem Zob (d:List Nat)(hl:d.length≤1073741824):∃ r,ZpL d r∧(K A).call 77 [.sc (.arr 0 d.length)] [arrU d]=some r:=by
 refine ZcI _ (vf:=v77) (by kernel_rfl) rfl (by simp) ?_
 generalize hn:d.length=n at *
 generalize hQ:Zfq v77.keep [arrU d].length v77.results (ZpL d)=Q
 have hret:∀ r,ZpL d r→∀ (s:St),((ZbW v77.keep 1 v77.results s).map (ZeD v77.keep))=some r→Q .ret s:=by
  intro r h1 s h2
  rw [←hQ]
  show Zfq v77.keep 1 v77.results (ZpL d) .ret s
  rw [endsQ_ret,h2,isR_some]
  exact h1
 clear hQ
 unfold v77
 by_cases h2:n<2
 ·have h2I:(n:Int)<2:=by omega
  simp (maxSteps:=4000000) (disch:=first|omega|(simp;done)|(simp;omega)) [hn,h2I,h2,-getElem?_pos]
  refine hret (.sc (.arr 0 n),[arrU d]) ⟨n,d,by omega,by omega,?_,.inl ⟨hn.symm,by rw [hn]⟩⟩ _ ?_
  ·rw [hn,Zd6 n (by omega) (fun k x h1 h2=>by omega)]
  ·simp [v77,hn]
 ·have h2I:¬(n:Int)<2:=by omega
  simp (maxSteps:=4000000) (disch:=first|omega|(simp;done)|(simp;omega)) [hn,h2I,h2,-getElem?_pos]
  refine Zam (fun r s=>(∀ k x,0<k→k<1+r→d[k]?=some x→d[k-1]?≠some x)∧s=⟨[(0,.sc (.arr 0 n)),(3,intV ((1+r:Nat):Int))],[(0,some (arrU d))]⟩) (n-1)
   ⟨fun k x h1 h2=>by omega,by simp⟩ ?_ ?_
  ·rintro r s hr ⟨hdis,rfl⟩
   generalize hk:1+r=k at *
   obtain ⟨x,hx⟩:=Zaa (l:=d) (i:=k) (by omega)
   obtain ⟨y,hy⟩:=Zaa (l:=d) (i:=k-1) (by omega)
   have hkl:k<d.length:=by omega
   have hkl1:k-1<d.length:=by omega
   have hkI:(k:Int)-1=((k-1:Nat):Int):=by omega
   have hkn:(k:Int)<n:=by omega
   unfold ZsY
   by_cases hxy:x=y
   ·subst hxy
    have hc0:ZbF d (k+1)=d.take k:=by
     rw [Zed hx (by omega) hy,Zd6 k (by omega) hdis]
    simp (maxSteps:=4000000) (disch:=first|omega|(simp;done)|(simp;omega)) [hn,hkn,hkI,hx,hy,-getElem?_pos]
    refine Zam (fun t s=>∃ (q:Nat) (e:List Nat),e.length=n∧e.take q=ZbF d (k+1+t)∧q≤k+t∧k≤q∧(∀ p,k+t≤p→e[p]?=d[p]?) ∧
     s=⟨[(0,.sc (.arr 0 n)),(3,intV q),(4,.sc (.vw 0 n k (n-k))),(5,intV ((1+t:Nat):Int))],[(0,some (arrU e))]⟩) (n-k-1)
     ⟨k,d,hn,hc0.symm,Nat.le_refl _,Nat.le_refl _,fun _ _=>rfl,by simp⟩ ?_ ?_
    ·rintro t s ht ⟨q,e,he,htk,hq,hkq,hsame,rfl⟩
     obtain ⟨u,hu⟩:=Zaa (l:=d) (i:=k+(1+t)) (by omega)
     obtain ⟨v,hv⟩:=Zaa (l:=d) (i:=k+t) (by omega)
     have hue:e[k+(1+t)]?=some u:=by rw [hsame _ (by omega)];exact hu
     have hve:e[k+t]?=some v:=by rw [hsame _ (Nat.le_refl _)];exact hv
     have ht1:((1+t:Nat):Int)-1=((t:Nat):Int):=by omega
     have htn:((1+t:Nat):Int)<((n-k:Nat):Int):=by omega
     have htn2:(1:Int)+t<((n-k:Nat):Int):=by omega
     have ht12:(1:Int)+t-1=(t:Int):=by omega
     have ht13:(1:Int)+t=((1+t:Nat):Int):=by omega
     have ht2:1+t<n-k:=by omega
     have hql:q<e.length:=by omega
     generalize hpp:1+t=t1 at *
     generalize hp1:k+t1=p1 at *
     generalize hp0:k+t=p0 at *
     have hpl1:p1<e.length:=by omega
     have hpl0:p0<e.length:=by omega
     obtain ⟨cs,hcut⟩:=Zo7 (l:=wr (Zbk e)) (o:=k) (n:=n-k) (by simp;omega)
     obtain ⟨vq,hvq⟩:=Zaa (l:=e) (i:=q) hql
     unfold ZsB
     by_cases huv:u=v
     ·subst huv
      have hc1:ZbF d (k+1+(t+1))=ZbF d (k+1+t):=by
       rw [show k+1+(t+1)=p1+1 by omega,Zed hu (by omega) (by rw [show p1-1=p0 by omega];exact hv),show k+1+t=p1 by omega]
      have fin:∃ (q':Nat) (e':List Nat),e'.length=n∧e'.take q'=ZbF d (k+1+(t+1))∧q'≤k+(t+1)∧k≤q'∧(∀ p,k+(t+1)≤p→e'[p]?=d[p]?) ∧
       (⟨[(0,.sc (.arr 0 n)),(3,intV q),(4,.sc (.vw 0 n k (n-k))),(5,intV ((t1:Int)+1))],[(0,some (arrU e))]⟩:St)=⟨[(0,.sc (.arr 0 n)),(3,intV q'),(4,.sc (.vw 0 n k (n-k))),(5,intV ((1+(t+1):Nat):Int))],[(0,some (arrU e'))]⟩ :=
       ⟨q,e,he,by rw [hc1];exact htk,by omega,hkq,fun p hp=>hsame p (by omega),by rw [show ((1+(t+1):Nat):Int)=(t1:Int)+1 by omega]⟩
      simp (maxSteps:=4000000) (disch:=first|omega|(simp;done)|(simp;omega)) [he,hcut,hvq,htn,htn2,ht1,ht12,ht13,ht2,hue,hve,hp1,hp0,-getElem?_pos]
      simpa using fin
     ·have hc1:ZbF d (k+1+(t+1))=ZbF d (k+1+t)++[u]:=by
       rw [show k+1+(t+1)=p1+1 by omega,Zei hu (fun hc=>huv (Option.some.inj (hc.2.symm.trans (by rw [show p1-1=p0 by omega];exact hv)))),show k+1+t=p1 by omega]
      have huvI:¬(u:Int)=v:=by omega
      have hset:(e.set q u).take (q+1)=e.take q++[u]:=by
       have:(e.set q u)[q]?=some u:=by simp [hql]
       rw [Zat this,List.take_set_of_le (Nat.le_refl _)]
      have fin:∃ (q':Nat) (e':List Nat),e'.length=n∧e'.take q'=ZbF d (k+1+(t+1))∧q'≤k+(t+1)∧k≤q'∧(∀ p,k+(t+1)≤p→e'[p]?=d[p]?) ∧
       (⟨[(0,.sc (.arr 0 n)),(3,intV ((q:Int)+1)),(4,.sc (.vw 0 n k (n-k))),(5,intV ((t1:Int)+1))],[(0,some (arrU (e.set q u)))]⟩:St)=⟨[(0,.sc (.arr 0 n)),(3,intV q'),(4,.sc (.vw 0 n k (n-k))),(5,intV ((1+(t+1):Nat):Int))],[(0,some (arrU e'))]⟩ :=
       ⟨q+1,e.set q u,by simp [he],by rw [hset,hc1,htk],by omega,by omega,fun p hp=>by rw [List.getElem?_set_ne (by omega)];exact hsame p (by omega),by rw [show ((1+(t+1):Nat):Int)=(t1:Int)+1 by omega];simp⟩
      simp (maxSteps:=4000000) (disch:=first|omega|(simp;done)|(simp;omega)) [he,hcut,hvq,htn,htn2,ht1,ht12,ht13,ht2,hue,hve,hp1,hp0,huv,huvI,-getElem?_pos]
      simpa using fin
    ·rintro s ⟨q,e,he,htk,hq,hkq,hsame,rfl⟩
     have ht1:¬((1+(n-k-1):Nat):Int)<((n-k:Nat):Int):=by omega
     rw [show 1+(n-k-1)=n-k by omega]
     have hqn:q<n:=by omega
     have hqI:(n:Int)-q=((n-q:Nat):Int):=by omega
     have hwc:=Zqx e q (n-q)
     rw [show q+(n-q)=n by omega,List.append_assoc] at hwc
     have hlen2:(e.take q++List.replicate (n-q) 0++e.drop n).length=n:=by simp;omega
     have htk2:(e.take q++List.replicate (n-q) 0++e.drop n).take q=ZbF d d.length:=by
      rw [List.append_assoc,List.take_left' (by simp;omega),htk,show k+1+(n-k-1)=n by omega,hn]
     generalize e.take q++List.replicate (n-q) 0++e.drop n=e2 at *
     have fin:=hret (.sc (.vw 0 n 0 q),[arrU e2]) ⟨q,e2,by omega,by omega,htk2,.inr (by rw [hn])⟩
     have hq0:q+(n-q)=n:=by omega
     have h0q:0<n-q:=by omega
     obtain ⟨cs,hcut⟩:=Zo7 (l:=wr (Zbk e)) (o:=k) (n:=n-k) (by simp;omega)
     unfold ZsB
     simp (maxSteps:=4000000) (disch:=first|omega|(simp;done)|(simp;omega)) [he,hcut,hqn,hq0,h0q,hwc,hlen2,-getElem?_pos]
     refine fin _ ?_
     simp [v77,hlen2]
   ·have hxyI:¬(x:Int)=y:=by omega
    simp (maxSteps:=4000000) (disch:=first|omega|(simp;done)|(simp;omega)) [hn,hkn,hkI,hx,hy,hxy,hxyI,-getElem?_pos]
    refine ⟨?_,by omega⟩
    intro k' x' h1 h2 h3
    rcases Nat.lt_or_ge k' k with h4|h4
    ·exact hdis k' x' h1 h4 h3
    ·obtain rfl:k'=k:=by omega
     rw [hx] at h3
     cases h3
     rw [hy]
     intro h5
     cases h5
     exact hxy rfl
  ·rintro s ⟨hdis,rfl⟩
   rw [show 1+(n-1)=n by omega] at hdis ⊢
   unfold ZsY
   simp (maxSteps:=4000000) (disch:=first|omega|(simp;done)|(simp;omega)) [hn,-getElem?_pos]
   refine hret (.sc (.arr 0 n),[arrU d]) ⟨n,d,by omega,by omega,?_,.inl ⟨hn.symm,by rw [hn]⟩⟩ _ ?_
   ·rw [hn,Zd6 n (by omega) hdis]
   ·simp [v77,hn]
end Go.Vs.Tryz
namespace Go.Vs
open Go
variable {C:Ctx}{E:Nat→Option V}{L:Nat→Option Obj}{oid:Nat}
@[simp] theorem x_idxAA {s len:Nat} {x i:Opd}:Zad C E L oid (.idxAA s len x i)=Zbd (Zal (i.val C E) len) fun j=>onBy L (j*s) (x.val C E):=by
 simp only [Zad]
 cases Zal (i.val C E) len<;>rfl
@[simp] theorem x_newA {n:Nat} {zero:List W}:Zad C E L oid (.newA n zero)=newK (L oid) (bif Nat.ble n Zaw then some (.sc (.el oid n 0 0),[(oid,some (.arr zero.length (List.replicate n zero) 0))]) else none):=by
 simp only [Zad]
 cases L oid<;>rfl
def slAK (L:Nat→Option Obj)(s n:Nat)(v:V)(lo hi:Option V):Option (V × Upd):=match v with
 | .sc (.el k N i off)=>arrK (L k) fun s' rows _=>Zbd (Zaq hi n n) fun h=>Zbd (Zaq lo 0 h) fun l =>
  bif N == n && i == 0 && off == 0 && rows.length == N && s' == s && Nat.blt 0 N then some (.sc (.vw k N l (h-l)),[]) else none
 | _=>none
@[simp] theorem x_slA {s n:Nat} {x:Opd} {lo hi:Option Opd}:Zad C E L oid (.slA s n x lo hi)=slAK L s n (x.val C E) (lo.map (·.val C E)) (hi.map (·.val C E)):=by
 simp only [Zad]
 generalize x.val C E=v
 cases v with
 | sc w =>
  cases w with
  | el k N i off =>
   simp only [slAK,arrK]
   cases L k with
   | none=>rfl
   | some o =>
    cases o with
    | box c=>rfl
    | arr s' rows p =>
     simp only
     cases Zaq (hi.map (·.val C E)) n n with
     | none=>rfl
     | some h =>
      simp only [Zbd]
      cases Zaq (lo.map (·.val C E)) 0 h<;>rfl
  | c y=>cases y<;>rfl
  | _=>rfl
 | _=>rfl
@[simp] theorem slAK_to {s n k N h:Nat} {kk:IntKind} (hh:h≤n):slAK L s n (.sc (.el k N 0 0)) none (some (.sc (.c (.int kk (h:Int))))) =
 arrK (L k) fun s' rows _=>bif N == n && rows.length == N && s' == s && Nat.blt 0 N then some (.sc (.vw k N 0 h),[]) else none:=by
 simp [slAK,Zaq,ZbO,Zbi,Nat.lt_succ_of_le hh,Zbd]
def cvSK:Option (List (List W))→Option (V × Upd)
 | none=>none
 | some rows=>bif rows.isEmpty then none else (Zae Zc0 rows).map fun l=>(.sc (.c (.str l)),[])
@[simp] theorem x_cvS {x:Opd}:Zad C E L oid (.cvS x)=cvSK (ZaW L (x.val C E)):=by
 simp only [Zad,cvSK]
 cases ZaW L (x.val C E)<;>rfl
def bRow (b:UInt8):List Cell:=[.int .u8 b.toNat]
def Zdr (w:List UInt8):List (List Cell):=w.map bRow
@[simp] theorem bRow_len (b:UInt8):(bRow b).length=1:=rfl
@[simp] theorem bRows_len (w:List UInt8):(Zdr w).length=w.length:=by simp [Zdr]
@[simp] theorem bRows_get (w:List UInt8) (i:Nat):(Zdr w)[i]?=(w[i]?).map bRow:=by simp [Zdr]
@[simp] theorem wc_b (b:UInt8):wc (bRow b)=[.c (.int .u8 b.toNat)]:=rfl
@[simp] theorem b_set (w:List UInt8) (i:Nat) (b:UInt8):setRow (wr (Zdr w)) i [W.c (.int .u8 (b.toNat:Int))]=wr (Zdr (w.set i b)):=by
 rw [Tryz.setRow_set]
 simp [Zdr,wr,List.map_set,bRow]
theorem Zg3:∀ w:List UInt8,Zae Zc0 (wr (Zdr w))=some w
 | []=>rfl
 | b::w=>by
  have h:=Zg3 w
  have hb:b.toNat<256:=b.toNat_lt
  have e:Zc0 (wc (bRow b))=some b:=by
   simp only [wc_b,Zc0]
   rw [show (decide ((0:Int)≤(b.toNat:Int)) && decide ((b.toNat:Int)<256))=true by simp;omega]
   simp
  show Zae Zc0 (wc (bRow b)::wr (Zdr w))=_
  simp only [Zae,e,h]
@[simp] theorem cvSK_b {w:List UInt8} (h:w≠[]):cvSK (some (wr (Zdr w)))=some (.sc (.c (.str w)),[]):=by
 simp only [cvSK]
 rw [show (wr (Zdr w)).isEmpty=false by cases w<;>simp_all [wr,Zdr],Zg3]
 rfl
theorem cut_b {w:List UInt8}{n:Nat}(h:n≤w.length):cut (wr (Zdr w)) 0 n=some (wr (Zdr (w.take n))):=by
 unfold cut
 simp [wr,Zdr,h,List.map_take]
theorem zero_b (n:Nat):List.replicate n [W.c (.int .u8 0)]=wr (Zdr (List.replicate n 0)):=by simp [wr,Zdr,bRow]
@[simp] theorem wrap_u32 (x:Int) (h:0≤x∧x<4294967296):IntKind.u32.wrap x=x:=by
 unfold IntKind.wrap
 simp [IntKind.bits,IntKind.signed]
 omega
@[simp] theorem wrap_u8 (x:Int) (h:0≤x∧x<256):IntKind.u8.wrap x=x:=by
 unfold IntKind.wrap
 simp [IntKind.bits,IntKind.signed]
 omega
end Go.Vs
namespace Go.Vs.Tryz
open Go Go.Vs
variable {A:Zac}
def dg (x:Nat):UInt8:=UInt8.ofNat (48+x % 10)
def pd:Nat→Nat→Str
 | 0,_=>[]
 | m+1,k=>dg (k / 10 ^ m)::pd m k
theorem Zq3:∀ (m k:Nat),(pd m k).length=m
 | 0,_=>rfl
 | m+1,k=>by simp [pd,Zq3 m]
theorem ZnN:∀ (m k:Nat),pd (m+1) k=pd m (k / 10)++[dg k]
 | 0,k=>by simp [pd]
 | m+1,k=>by
  rw [pd,ZnN m k,pd]
  simp only [List.cons_append]
  rw [Nat.div_div_eq_div_mul,Nat.pow_succ,Nat.mul_comm]
theorem Zrl:∀ (m k:Nat),10 ^ m≤k→k<10 ^ (m+1)→pd (m+1) k=numS k
 | 0,k,h1,h2=>by
  have:k<10:=by simpa using h2
  rw [Zcs this]
  simp [pd,dg,Nat.mod_eq_of_lt this]
 | m+1,k,h1,h2=>by
  have hp:1≤10 ^ m:=Nat.one_le_pow _ _ (by omega)
  have h10:10 ^ (m+1)=10 ^ m*10:=Nat.pow_succ ..
  have h20:10 ^ (m+2)=10 ^ m*10*10:=by rw [Nat.pow_succ,Nat.pow_succ]
  rw [Zc1 (by omega),ZnN,Zrl m (k / 10) (by omega) (by omega)]
  rfl
theorem ZsH (n:Nat)(h:n<18446744073709551616):(K A).call 202 [u64V n] []=some (intV (Sort.bitsLen n),[]):=by
 by_cases h0:n<2147483648
 ·exact Zol n h0
 refine Zan (vf:=v202) (by kernel_rfl) rfl (by simp) ?_
 unfold v202
 generalize hT:(d256:List UInt8)=T
 obtain ⟨t1,t2⟩:=tab8 T hT
 clear hT
 have key:∀ (m sh:Nat),m<4294967296→65536≤m→Sort.bitsLen n=Sort.bitsLen m+sh→Sort.bitsLen n=Sort.bitsLen (m / 2 ^ 16)+(sh+16):=fun m sh h1 h2 h3=>by
  rw [h3,ZbZ 16 m (by omega)]
  omega
 have fin:∀ m:Nat,m<256→IntKind.u8.wrap (m:Int)=m:=fun m hm=>wrap_u8 _ ⟨by omega,by omega⟩
 by_cases h32:4294967296≤n
 ·have h32I:(4294967296:Int)≤n:=by omega
  have s32:shrI .u64 (n:Int) 32=((n / 2 ^ 32:Nat):Int):=Zdz n 32 (by omega)
  have hb:=ZbZ 32 n (by omega)
  generalize hm:n / 2 ^ 32=m at *
  by_cases h1:65536≤m
  ·have h1I:(65536:Int)≤m:=by omega
   have s16:shrI .u64 (m:Int) 16=((m / 2 ^ 16:Nat):Int):=Zdz m 16 (by omega)
   have hb2:=ZbZ 16 m (by omega)
   generalize hk:m / 2 ^ 16=k at *
   by_cases h2:256≤k
   ·have h2I:(256:Int)≤k:=by omega
    have s8:shrI .u64 (k:Int) 8=((k / 2 ^ 8:Nat):Int):=Zdz k 8 (by omega)
    have hb3:=ZbZ 8 k (by omega)
    generalize hj:k / 2 ^ 8=j at *
    have hj2:j<256:=by omega
    have e1:=t2 j hj2
    have e2:=bl8 hj2
    have e3:=ZeO (n:=j) (k:=8) hj2
    rw [hb,hb2,hb3]
    simp (maxSteps:=4000000) (disch:=first|omega|(simp;done)|(simp;omega)) [h32I,h1I,h2I,s32,s16,s8,t1,e1,e2,fin,-getElem?_pos]
    omega
   ·have h2I:¬(256:Int)≤k:=by omega
    have hj2:k<256:=by omega
    have e1:=t2 k hj2
    have e2:=bl8 hj2
    have e3:=ZeO (n:=k) (k:=8) hj2
    rw [hb,hb2]
    simp (maxSteps:=4000000) (disch:=first|omega|(simp;done)|(simp;omega)) [h32I,h1I,h2I,s32,s16,t1,e1,e2,fin,-getElem?_pos]
    omega
  ·have h1I:¬(65536:Int)≤m:=by omega
   by_cases h2:256≤m
   ·have h2I:(256:Int)≤m:=by omega
    have s8:shrI .u64 (m:Int) 8=((m / 2 ^ 8:Nat):Int):=Zdz m 8 (by omega)
    have hb3:=ZbZ 8 m (by omega)
    generalize hj:m / 2 ^ 8=j at *
    have hj2:j<256:=by omega
    have e1:=t2 j hj2
    have e2:=bl8 hj2
    have e3:=ZeO (n:=j) (k:=8) hj2
    rw [hb,hb3]
    simp (maxSteps:=4000000) (disch:=first|omega|(simp;done)|(simp;omega)) [h32I,h1I,h2I,s32,s8,t1,e1,e2,fin,-getElem?_pos]
    omega
   ·have h2I:¬(256:Int)≤m:=by omega
    have hj2:m<256:=by omega
    have e1:=t2 m hj2
    have e2:=bl8 hj2
    have e3:=ZeO (n:=m) (k:=8) hj2
    rw [hb]
    simp (maxSteps:=4000000) (disch:=first|omega|(simp;done)|(simp;omega)) [h32I,h1I,h2I,s32,t1,e1,e2,fin,-getElem?_pos]
    omega
 ·have h32I:¬(4294967296:Int)≤n:=by omega
  have h1I:(65536:Int)≤n:=by omega
  have s16:shrI .u64 (n:Int) 16=((n / 2 ^ 16:Nat):Int):=Zdz n 16 (by omega)
  have hb2:=ZbZ 16 n (by omega)
  generalize hk:n / 2 ^ 16=k at *
  have h2I:(256:Int)≤k:=by omega
  have s8:shrI .u64 (k:Int) 8=((k / 2 ^ 8:Nat):Int):=Zdz k 8 (by omega)
  have hb3:=ZbZ 8 k (by omega)
  generalize hj:k / 2 ^ 8=j at *
  have hj2:j<256:=by omega
  have e1:=t2 j hj2
  have e2:=bl8 hj2
  have e3:=ZeO (n:=j) (k:=8) hj2
  rw [hb2,hb3]
  simp (maxSteps:=4000000) (disch:=first|omega|(simp;done)|(simp;omega)) [h32I,h1I,h2I,s16,s8,t1,e1,e2,fin,-getElem?_pos]
  omega
def gs (L:Nat):Nat:=L*78913 / 262144
def ndig (k:Nat):Nat:=gs (Sort.bitsLen k)+if 10 ^ gs (Sort.bitsLen k)≤k then 1 else 0
theorem Zl2 {L:Nat}(h:L<65):gs L<20∧2 ^ L≤10 ^ (gs L+1)∧(L=0∨10 ^ (gs L-1)≤2 ^ (L-1)):=by
 have h1:(List.range 65).all (fun L=>decide (gs L<20) && decide (2 ^ L≤10 ^ (gs L+1)) && (decide (L=0) || decide (10 ^ (gs L-1)≤2 ^ (L-1))))=true:=by kernel_rfl
 have h2:=ZhA h1 h
 simp only [Bool.and_eq_true,Bool.or_eq_true,decide_eq_true_eq] at h2
 exact ⟨h2.1.1,h2.1.2,h2.2⟩
theorem bl_hi (n:Nat):n<2 ^ Sort.bitsLen n:=by
 unfold Sort.bitsLen
 split
 ·omega
 ·exact Nat.lt_log2_self
theorem bl_lo {n:Nat}(h:n≠0):2 ^ (Sort.bitsLen n-1)≤n:=by
 unfold Sort.bitsLen
 rw [if_neg h]
 exact Nat.log2_self_le h
theorem ZmF {k:Nat}(h1:1≤k)(h:k<18446744073709551616):1≤ndig k∧ndig k≤20∧10 ^ (ndig k-1)≤k∧k<10 ^ ndig k:=by
 have hL:Sort.bitsLen k≤64:=ZeO (k:=64) h
 obtain ⟨g1,g2,g3⟩:=Zl2 (L:=Sort.bitsLen k) (by omega)
 have b1:=bl_hi k
 have b2:=bl_lo (n:=k) (by omega)
 unfold ndig
 by_cases hc:10 ^ gs (Sort.bitsLen k)≤k
 ·rw [if_pos hc]
  exact ⟨by omega,by omega,by rw [Nat.add_sub_cancel];exact hc,Nat.lt_of_lt_of_le b1 g2⟩
 ·rw [if_neg hc,Nat.add_zero]
  have hg:1≤gs (Sort.bitsLen k):=by
   rcases Nat.eq_zero_or_pos (gs (Sort.bitsLen k)) with h0|h0
   ·rw [h0] at hc
    simp at hc
    omega
   ·exact h0
  refine ⟨hg,by omega,?_,by omega⟩
  rcases g3 with g3|g3
  ·have:k=0:=by
    rw [g3] at b1
    simpa using b1
   omega
  ·exact Nat.le_trans g3 b2
theorem tabPow {j:Nat}(h:j<20):cut (tabOf .u64 pow10Tab) j 1=some [.int .u64 ((10 ^ j:Nat):Int)]:=by
 have h1:(List.range 20).all (fun j=>decide (pow10Tab[j]?=some ((10 ^ j:Nat):Int)))=true:=by kernel_rfl
 have h2:=of_decide_eq_true (ZhA h1 h)
 unfold cut tabOf
 have hl:pow10Tab.length=20:=rfl
 have h3:(pow10Tab.drop j).take 1=[((10 ^ j:Nat):Int)]:=by
  rw [List.drop_eq_getElem_cons (by omega)]
  rw [List.getElem?_eq_getElem (by omega)] at h2
  rw [Option.some.inj h2]
  rfl
 simp only [List.length_map,hl]
 rw [show Nat.ble (j+1) 20=true from Nat.ble_eq_true_of_le (by omega),cond_true,←List.map_drop,←List.map_take,h3]
 rfl
theorem ZrN (n k:Nat)(hk:k<64):shrI .i64 (n:Int) (k:Int)=((n / 2 ^ k:Nat):Int):=by
 unfold shrI
 rw [Int.toNat_natCast,show min k IntKind.i64.bits=k from Nat.min_eq_left (Nat.le_of_lt hk),Int.fdiv_eq_ediv_of_nonneg _ (Int.le_of_lt (Int.pow_pos (by decide)))]
 simp
theorem log236 (x:Nat)(h:x<65):(K A).call 236 [intV x] []=some (intV (gs x),[]):=by
 refine Zan (vf:=v236) (by kernel_rfl) rfl (by simp) ?_
 have h1:(x:Int)*78913=((x*78913:Nat):Int):=by omega
 have h2:shrI .i64 ((x*78913:Nat):Int) 18=((gs x:Nat):Int):=ZrN (x*78913) 18 (by omega)
 generalize hy:x*78913=y at *
 have hyb:y<6000000:=by omega
 unfold v236
 simp (disch:=first|omega|(simp;done)|(simp;omega)) [h1,h2]
theorem Zss (b:Bool):(K A).call 237 [Zah b] []=some (intV (if b=true then 1 else 0),[]):=by
 refine Zan (vf:=v237) (by kernel_rfl) rfl (by simp) ?_
 unfold v237
 cases b<;>simp
theorem gl2:gl0 2=tabOf .u64 pow10Tab:=rfl
theorem Zsb (k:Nat)(h:k<18446744073709551616):(K A).call 189 [u64V k] []=some (intV (ndig k),[]):=by
 have hL:Sort.bitsLen k≤64:=ZeO (k:=64) h
 obtain ⟨g1,_⟩:=Zl2 (L:=Sort.bitsLen k) (by omega)
 have c1:=ZsH (A:=A) k h
 have c2:=log236 (A:=A) (Sort.bitsLen k) (by omega)
 have c3:=tabPow g1
 have c4:=Zss (A:=A) (decide (10 ^ gs (Sort.bitsLen k)≤k))
 unfold ndig
 generalize Sort.bitsLen k=L at *
 generalize gs L=g at *
 have hcI:decide (((10 ^ g:Nat):Int)≤(k:Int))=decide (10 ^ g≤k):=by rw [decide_eq_decide];omega
 generalize hp:10 ^ g=p at *
 refine Zan (vf:=v189) (by kernel_rfl) rfl (by simp) ?_
 unfold v189
 by_cases hc:p≤k
 ·have hcI2:(p:Int)≤(k:Int):=by omega
  simp only [hc,decide_true,if_true] at c4 ⊢
  simp (maxSteps:=4000000) (disch:=first|omega|(simp;done)|(simp;omega)) [c1,c2,c3,c4,gl2,hc,hcI2,Opd.val]
 ·have hcI2:¬(p:Int)≤(k:Int):=by omega
  simp only [hc,decide_false,Bool.false_eq_true,if_false] at c4 ⊢
  simp (maxSteps:=4000000) (disch:=first|omega|(simp;done)|(simp;omega)) [c1,c2,c3,c4,gl2,hc,hcI2,Opd.val]
end Go.Vs.Tryz
