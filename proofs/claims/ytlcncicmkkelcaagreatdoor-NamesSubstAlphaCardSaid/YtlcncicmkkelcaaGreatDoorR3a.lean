/- slices.Reverse, walked. (Parts of one proof, put together.) -/
import Derived.Test.YtlcncicmkkelcaaGreatDoorR2a
import Derived.Test.YtlcncicmkkelcaaGreatDoorR1a
set_option linter.unusedSimpArgs false
set_option linter.unusedVariables false
set_option linter.deprecated false
set_option maxHeartbeats 16000000
set_option maxRecDepth 10000
namespace Go.Vs.Tryz
open Go Go.Vs
variable {A:Zac}
def ZhA (l:List Exp):Nat→List Exp
 | 0=>l
 | i+1=>match (ZhA l i)[i]?,(ZhA l i)[l.length-1-i]? with
  | some x,some y=>((ZhA l i).set i y).set (l.length-1-i) x
  | _,_=>ZhA l i
@[simp] theorem swapTo_len (l:List Exp):∀ i,(ZhA l i).length=l.length
 | 0=>rfl
 | i+1=>by
  have:=swapTo_len l i
  simp only [ZhA]
  split
  ·simp [this]
  ·exact this
theorem setRow_set {α:Type}:∀ (l:List α)(i:Nat)(a:α),setRow l i a=l.set i a
 | [],_,_=>rfl
 | _::_,0,_=>rfl
 | b::r,n+1,a=>by simp only [setRow,List.set_cons_succ,setRow_set r n a]
theorem Zfy (l:List Exp)(i:Nat)(x:Exp):setRow (wr (Exp.rows l)) i (wc x.row)=wr (Exp.rows (l.set i x)):=by
 rw [setRow_set]
 simp [Exp.rows_map,wr,List.map_set]
end Go.Vs.Tryz
namespace Go.Vs
open Go
def elK (x:Option Obj)(N i:Nat):Bool:=match x with
 | some (.arr _ rows _)=>rows.length == N && Nat.blt i N
 | _=>false
@[simp] theorem elK_some {s p N i:Nat} {rows:List (List W)}:elK (some (.arr s rows p)) N i=(rows.length == N && Nat.blt i N):=rfl
@[simp] theorem elOk_eq {L:Nat→Option Obj} {k N i:Nat}:elOk L k N i=elK (L k) N i:=rfl
end Go.Vs
namespace Go.Vs.Tryz
open Go Go.Vs
variable {A:Zac}
abbrev exsV (l:List Exp):V:=.sc (.c (.sl (Exp.rows l)))
def Za5 (zz:List (ArmH × Exp))(cs:List Exp):List (ArmH × Exp):=List.zipWith (fun (a:ArmH × Exp) c=>(a.1,c)) zz cs
@[simp] theorem armsW_len (zz:List (ArmH × Exp)) (cs:List Exp):(Za5 zz cs).length=min zz.length cs.length:=by simp [Za5]
theorem Zb8 {α:Type}{zs zz:List α}{i:Nat}{x:α}(hl:zs.length=zz.length)(hx:zs[i]?=some x):(zs.take i++zz.drop i).set i x=zs.take (i+1)++zz.drop (i+1):=by
 have hi:=(List.getElem?_eq_some_iff.1 hx).1
 have htl:(zs.take i).length=i:=by simp;omega
 rw [ZaC hx,List.append_assoc]
 have hd:zz.drop i=zz[i]'(by omega)::zz.drop (i+1):=List.drop_eq_getElem_cons (by omega)
 rw [hd,List.set_append_right _ _ (by omega),htl,Nat.sub_self,List.set_cons_zero]
 rfl
theorem ZcU (l:List (ArmH × Exp))(i:Nat)(x:ArmH × Exp):setRow (wr (Exp.armRows l)) i (wc (Zar x))=wr (Exp.armRows (l.set i x)):=by
 rw [setRow_set]
 simp [Exp.armRows_map,wr,List.map_set]
theorem ZhH (a:ArmH × Exp)(c:Exp):splice (wc (Zar a)) 3 (wc c.row)=some (wc (Zar (a.1,c))):=by
 rw [Zar,Zar,Exp.row_eq a.2,Exp.row_eq c]
 rfl
theorem Zb2 {α:Type}{zs zz:List α}{i:Nat}(hl:zs.length=zz.length)(hi:i<zz.length):(zs.take i++zz.drop i)[i]?=zz[i]?:=by
 have htl:(zs.take i).length=i:=by simp;omega
 rw [List.getElem?_append_right (by omega),htl,Nat.sub_self,List.getElem?_drop]
 rfl
theorem Zb1 {α:Type}{zs zz:List α}{i:Nat}(hl:zs.length=zz.length):(zs.take i++zz.drop i).length=zz.length:=by
 simp
 omega
theorem Zrp (e:Exp)(cs:List Exp)(h:cs.length=e.kids.length+e.arms.length)(hl:e.weight≤1073741824):(K A).call 92 [expV e,exsV cs] [] =
 some (.ag [.c (.int .i64 e.kind),.c (.int .i64 e.pos),.c (.str e.name),.c (.int .i64 e.num),.arr 0 e.kids.length,.arr 1 e.arms.length,.c (.int .i64 e.ty.kind),.c (.str e.ty.name),.c (.int .i64 e.ty.id),.c (.int .i64 e.ty.home),.c (.sl (Ty.rows e.ty.args))],
  [.arr 11 (wr (Exp.rows (cs.take e.kids.length))) 0,.arr 14 (wr (Exp.armRows (Za5 e.arms (cs.drop e.kids.length)))) 0]):=by
 refine Zas (vf:=v92) (by kernel_rfl) rfl (by simp) ?_
 have hle:=e.children_le
 rw [e.children_len] at hle
 have hrow:wc e.row=[.c (.int .i64 e.kind),.c (.int .i64 e.pos),.c (.str e.name),.c (.int .i64 e.num),.c (.sl (Exp.rows e.kids)),.c (.sl (Exp.armRows e.arms)),.c (.int .i64 e.ty.kind),.c (.str e.ty.name),.c (.int .i64 e.ty.id),.c (.int .i64 e.ty.home),.c (.sl (Ty.rows e.ty.args))]:=by rw [Exp.row_eq];rfl
 have hzl:(Za5 e.arms (cs.drop e.kids.length)).length=e.arms.length:=by rw [armsW_len,List.length_drop];omega
 have hfit:Zbv 11 (Exp.rows cs)=true:=by rw [Exp.rows_map];exact Zih Exp.row_len cs
 have htk:(Exp.rows cs).take e.kids.length=Exp.rows (cs.take e.kids.length):=by simp [Exp.rows_map,List.map_take]
 have hcl:(cs.take e.kids.length).length=e.kids.length:=by rw [List.length_take];omega
 unfold v92
 simp (maxSteps:=4000000) (disch:=first|omega|(simp;done)|(simp;omega)) [h,hrow,hfit,htk,hcl,-getElem?_pos]
 refine Zaz (fun i=>⟨[(1,exsV cs),(4,.sc (.ptr 128 0)),(5,intV e.kids.length),(6,.sc (.ptr 1152 0)),(7,intV i)],
  [(128,some (.box [zi,zi,zs,zi,.nil,.nil,zi,zs,zi,zi,.nil])),(1152,some (.box [.c (.int .i64 e.kind),.c (.int .i64 e.pos),.c (.str e.name),.c (.int .i64 e.num),.arr 1472 e.kids.length,.arr 1664 e.arms.length,.c (.int .i64 e.ty.kind),.c (.str e.ty.name),.c (.int .i64 e.ty.id),.c (.int .i64 e.ty.home),.c (.sl (Ty.rows e.ty.args))])),
    (1472,some (.arr 11 (wr (Exp.rows (cs.take e.kids.length))) 0)),(1664,some (.arr 14 (wr (Exp.armRows ((Za5 e.arms (cs.drop e.kids.length)).take i++e.arms.drop i))) 0))]⟩) e.arms.length ?_ ?_ ?_
 ·simp
 ·intro i hi
  obtain ⟨a,ha⟩:=Zaa hi
  obtain ⟨c,hc⟩:=Zaa (l:=cs) (i:=e.kids.length+i) (by omega)
  have hz:(Za5 e.arms (cs.drop e.kids.length))[i]?=some (a.1,c):=by
   unfold Za5
   rw [List.getElem?_zipWith,ha,List.getElem?_drop,hc]
  have hg:=Zb2 hzl hi
  rw [ha] at hg
  have hs:=Zb8 hzl hz
  have hln:=Zb1 (i:=i) hzl
  rw [←hs]
  generalize (Za5 e.arms (cs.drop e.kids.length)).take i++e.arms.drop i=zz at hg hln ⊢
  have hset:=ZcU zz i (a.1,c)
  have hsp:=ZhH a c
  have hnb:Zam (intV ((e.kids.length:Int)+i)) cs.length=some (e.kids.length+i):=natBelow_cast (k:=.i64) (n:=e.kids.length+i) (by omega)
  unfold Zte
  simp (maxSteps:=4000000) (disch:=first|omega|(simp;done)|(simp;omega)) [hi,hg,hln,hc,hnb,hsp,hset,Za6,-getElem?_pos]
 ·have ht:(Za5 e.arms (cs.drop e.kids.length)).take e.arms.length++e.arms.drop e.arms.length=Za5 e.arms (cs.drop e.kids.length):=by
   rw [List.drop_length,List.append_nil,List.take_of_length_le (by omega)]
  rw [ht]
  unfold Zte
  simp (maxSteps:=4000000) (disch:=first|omega|(simp;done)|(simp;omega)) [hzl,-getElem?_pos]
def Zhy (l:List (ArmH × Exp)):List (ArmH × Exp):=l.map fun a=>(⟨0,a.1.con,a.1.vars⟩,a.2)
@[simp] theorem armsP_len (l:List (ArmH × Exp)):(Zhy l).length=l.length:=by simp [Zhy]
theorem Zmm (a:ArmH × Exp):splice (wc (Zar a)) 0 [W.c (.int .i64 0)]=some (wc (Zar ((⟨0,a.1.con,a.1.vars⟩:ArmH),a.2))):=by
 rw [Zar,Zar,Exp.row_eq a.2]
 rfl
theorem Zmd (e:Exp):Zhy (Za5 e.arms ((e.children.map Zan).drop e.kids.length))=(Zan e).arms:=by
 obtain ⟨_,_,_,_,_,h6,_,h8⟩:=ZaZ e
 have hd:(e.children.map Zan).drop e.kids.length=e.arms.map fun a=>Zan a.2:=by simp [Exp.children]
 refine List.ext_getElem? fun i => ?_
 rw [h8,hd]
 unfold Zhy Za5
 rw [List.getElem?_map,List.getElem?_zipWith,List.getElem?_map]
 cases e.arms[i]?<;>rfl
theorem Zmj (e:Exp):(e.children.map Zan).take e.kids.length=(Zan e).kids:=by
 rw [Zhc]
 rfl
theorem Zn7 (e:Exp):wc (Zan e).row=[.c (.int .i64 e.kind),.c (.int .i64 0),.c (.str e.name),.c (.int .i64 e.num),.c (.sl (Exp.rows (Zan e).kids)),.c (.sl (Exp.armRows (Zan e).arms)),.c (.int .i64 e.ty.kind),.c (.str e.ty.name),.c (.int .i64 e.ty.id),.c (.int .i64 e.ty.home),.c (.sl (Ty.rows e.ty.args))]:=by
 obtain ⟨h1,h2,h3,h4,_,_,_,_⟩:=ZaZ e
 have hp:(Zan e).pos=0:=by rw [Zhc];rfl
 rw [Exp.row_eq,h1,h2,h3,h4,hp]
 rfl
theorem Zse (e:Exp):e.weight≤1073741824→(K A).call 97 [expV e] []=some (expV (Zan e),[]):=by
 induction e using Exp.ind with
 | h e ih =>
 intro hl
 refine Zas (vf:=v97) (by kernel_rfl) rfl (by simp) ?_
 have hle:=e.children_le
 rw [e.children_len] at hle
 have hc:=ZcJ (A:=A) e (by omega)
 have hml:(e.children.map Zan).length=e.children.length:=by simp
 have hw:=Zrp (A:=A) e (e.children.map Zan) (by rw [hml,e.children_len]) hl
 have hal:(Za5 e.arms ((e.children.map Zan).drop e.kids.length)).length=e.arms.length:=by rw [armsW_len,List.length_drop,hml,e.children_len];omega
 rw [Zmj] at hw
 have hks:(Zan e).kids.length=e.kids.length:=(ZaZ e).2.2.2.2.1
 have has:(Zan e).arms.length=e.arms.length:=(ZaZ e).2.2.2.2.2.1
 unfold v97
 simp (maxSteps:=4000000) (disch:=first|omega|(simp;done)|(simp;omega)) [hc,-getElem?_pos]
 refine Zaz (fun i=>⟨[(1,.sc (.ptr 64 0)),(2,.sc (.ptr 128 0)),(3,.sc (.arr 288 e.children.length)),(4,intV i)],
  [(64,some (.box (wc e.row))),(128,some (.box [zi,zi,zs,zi,.nil,.nil,zi,zs,zi,zi,.nil])),(288,some (.arr 11 (wr (Exp.rows ((e.children.map Zan).take i++e.children.drop i))) 0))]⟩) e.children.length ?_ ?_ ?_
 ·simp
 ·intro i hi
  obtain ⟨x,hx⟩:=Zaa hi
  have hmem:=List.mem_of_getElem? hx
  have hrec:=ih x hmem (by have:=Exp.child_lt hmem;omega)
  have hz:(e.children.map Zan)[i]?=some (Zan x):=by simp [hx]
  have hg:=Zb2 hml hi
  rw [hx] at hg
  have hs:=Zb8 hml hz
  have hln:=Zb1 (i:=i) hml
  rw [←hs]
  generalize (e.children.map Zan).take i++e.children.drop i=zz at hg hln ⊢
  have hset:=Zfy zz i (Zan x)
  have hi':(i:Int)<(e.kids.length:Int)+e.arms.length:=by rw [e.children_len] at hi;omega
  rw [e.children_len] at hln hi
  unfold ZrO
  simp (maxSteps:=4000000) (disch:=first|omega|(simp;done)|(simp;omega)) [hi,hi',hg,hln,hrec,hset,Za6,-getElem?_pos]
 ·have ht:(e.children.map Zan).take e.children.length++e.children.drop e.children.length=e.children.map Zan:=by
   rw [List.drop_length,List.append_nil,List.take_of_length_le (by omega)]
  rw [ht]
  unfold ZrO
  simp (maxSteps:=4000000) (disch:=first|omega|(simp;done)|(simp;omega)) [hw,hml,-getElem?_pos]
  have hsa:=Zmd e
  generalize Za5 e.arms ((e.children.map Zan).drop e.kids.length)=ws at *
  have hpl:(Zhy ws).length=ws.length:=armsP_len ws
  refine Zaz (fun i=>⟨[(2,.sc (.ptr 128 0)),(5,.sc (.ptr 1664 0)),(6,intV i)],
   [(128,some (.box [zi,zi,zs,zi,.nil,.nil,zi,zs,zi,zi,.nil])),(288,some (.arr 11 (wr (Exp.rows (e.children.map Zan))) (e.kids.length+e.arms.length))),(1632,some (.arr 11 (wr (Exp.rows (Zan e).kids)) 0)),
     (1633,some (.arr 14 (wr (Exp.armRows ((Zhy ws).take i++ws.drop i))) 0)),
     (1664,some (.box [.c (.int .i64 e.kind),zi,.c (.str e.name),.c (.int .i64 e.num),.arr 1632 e.kids.length,.arr 1633 e.arms.length,.c (.int .i64 e.ty.kind),.c (.str e.ty.name),.c (.int .i64 e.ty.id),.c (.int .i64 e.ty.home),.c (.sl (Ty.rows e.ty.args))]))]⟩) e.arms.length ?_ ?_ ?_
  ·simp
  ·intro i hi
   obtain ⟨a,ha⟩:=Zaa (l:=ws) (i:=i) (by omega)
   have hz:(Zhy ws)[i]?=some ((⟨0,a.1.con,a.1.vars⟩:ArmH),a.2):=by
    unfold Zhy
    rw [List.getElem?_map,ha]
    rfl
   have hg:=Zb2 (i:=i) hpl (by omega)
   rw [ha] at hg
   have hs:=Zb8 hpl hz
   have hln:=Zb1 (i:=i) hpl
   rw [←hs]
   generalize (Zhy ws).take i++ws.drop i=zz at hg hln ⊢
   have hset:=ZcU zz i ((⟨0,a.1.con,a.1.vars⟩:ArmH),a.2)
   have hsp:=Zmm a
   have hln2:zz.length=e.arms.length:=by omega
   unfold Ztz
   simp (maxSteps:=4000000) (disch:=first|omega|(simp;done)|(simp;omega)) [hi,hg,hln2,hsp,hset,Za6,-getElem?_pos]
  ·have ht:(Zhy ws).take e.arms.length++ws.drop e.arms.length=(Zan e).arms:=by
    rw [←hal,List.drop_length,List.append_nil,List.take_of_length_le (by omega),hsa]
   rw [ht]
   have hsr:=Zn7 e
   unfold Ztz
   simp (maxSteps:=4000000) (disch:=first|omega|(simp;done)|(simp;omega)) [hsr,hks,has,-getElem?_pos]
end Go.Vs.Tryz
namespace Go.Vs
open Go
section
variable {C:Ctx}{E:Nat→Option V}{L:Nat→Option Obj}{oid:Nat}
def mkSK (oid s bytes:Nat)(zero:List W)(v:V):Option (V × Upd):=match Zqq v with
 | some (.ofNat m)=>bif Nat.ble (m*bytes) Za9 && zero.length == s && Nat.blt 0 s && Nat.ble m Zaw then
  some (.sc (.arr oid m),[(oid,some (.arr s (List.replicate m zero) 0))]) else none
 | _=>none
@[simp] theorem x_mkS {s bytes:Nat} {zero:List W} {n:Opd}:Zad C E L oid (.mkS s bytes zero n)=newK (L oid) (mkSK oid s bytes zero (n.val C E)):=by
 simp only [Zad,newK,mkSK]
 cases L oid with
 | some _=>rfl
 | none =>
  cases Zqq (n.val C E) with
  | none=>rfl
  | some z=>cases z<;>rfl
@[simp] theorem mkSK_nat {s bytes m:Nat} {zero:List W} {k:IntKind} (h1:m*bytes≤140737488355328) (h2:zero.length=s) (h3:0<s) (h4:m≤9223372036854775807):mkSK oid s bytes zero (.sc (.c (.int k (m:Int))))=some (.sc (.arr oid m),[(oid,some (.arr s (List.replicate m zero) 0))]):=by
 have e:mkSK oid s bytes zero (.sc (.c (.int k (m:Int))))=bif Nat.ble (m*bytes) Za9 && zero.length == s && Nat.blt 0 s && Nat.ble m Zaw then
  some (.sc (.arr oid m),[(oid,some (.arr s (List.replicate m zero) 0))]) else none:=rfl
 rw [e,Nat.ble_eq_true_of_le (by unfold Za9;exact h1),Nat.ble_eq_true_of_le (by unfold Zaw;exact h4),show Nat.blt 0 s=true from Nat.ble_eq_true_of_le h3,h2]
 simp
end
end Go.Vs
namespace Go.Vs.Tryz
open Go Go.Vs
variable {A:Zac}
theorem ZiV (l:List Str)(s:Str)(h:l.length≤1073741824):(K A).call 125 [ZaB l,strV s] []=some (intV (rlast l s),[]):=by
 refine Zas (vf:=v125) (by kernel_rfl) rfl (by simp) ?_
 unfold v125
 have hp:=Zgs l.reverse s
 rw [List.length_reverse] at hp
 simp (disch:=first|omega|(simp;done)|(simp;omega))
 refine Zaz (fun i=>⟨[(0,ZaB l),(1,strV s),(5,intV ((l.length:Int)-1-i))],[]⟩) (Zbg l.reverse s) ?_ ?_ ?_
 ·simp
 ·intro i hi
  obtain ⟨x,hx,hne⟩:=Ze4 hi
  have hlt:i<l.length:=by omega
  rw [ZgX hlt] at hx
  have hc:(l.length:Int)-1-i=((l.length-1-i:Nat):Int):=by omega
  have hc2:(l.length:Int)-1-(i+1)=((l.length-1-i:Nat):Int)-1:=by omega
  unfold ZmX
  simp (disch:=first|omega|(simp;done)|(simp;omega)) [hc,hc2,hx,hne,-getElem?_pos]
 ·unfold ZmX
  by_cases hm:Zbg l.reverse s<l.length
  ·have hx:=ZdG (l:=l.reverse) (s:=s) (by simpa using hm)
   have hmem:s∈l:=by
    have:=ZaN.1 (show Zbg l.reverse s<l.reverse.length by simpa using hm)
    simpa using this
   rw [ZgX hm] at hx
   have hc:(l.length:Int)-1-(Zbg l.reverse s:Nat)=((l.length-1-Zbg l.reverse s:Nat):Int):=by omega
   simp (disch:=first|omega|(simp;done)|(simp;omega)) [hc,hx,hmem,rlast,-getElem?_pos]
  ·have hn:s∉l:=fun h=>hm (by have:=ZaN.2 (List.mem_reverse.2 h);simpa using this)
   have hc:(l.length:Int)-1-(Zbg l.reverse s:Nat)=-1:=by omega
   simp (disch:=first|omega|(simp;done)|(simp;omega)) [hc,hn,rlast,-getElem?_pos]
def Zew (taken:List Str)(n:Nat)(l:List (ArmH × Exp)):List (ArmH × Exp):=l.map fun a=>(⟨a.1.pos,a.1.con,news taken n a.1.vars.length⟩,a.2)
@[simp] theorem armsN_len (taken:List Str) (n:Nat) (l:List (ArmH × Exp)):(Zew taken n l).length=l.length:=by simp [Zew]
theorem ZkL (a:ArmH × Exp)(vs:List Str):splice (wc (Zar a)) 2 [W.c (.sl (Zaf vs))]=some (wc (Zar ((⟨a.1.pos,a.1.con,vs⟩:ArmH),a.2))):=by
 rw [Zar,Zar,Exp.row_eq a.2]
 rfl
theorem ZgO (l:List Str)(i:Nat)(x:Str):setRow (wr (Zaf l)) i [W.c (.str x)]=wr (Zaf (l.set i x)):=by
 rw [setRow_set]
 simp [Zaf,wr,List.map_set,Zfg]
theorem Zp0 (n:Nat):List.replicate n [zs]=wr (Zaf (List.replicate n [])):=by
 simp [wr,Zaf,Zfg]
theorem ZmJ (taken:List Str)(e:Exp)(old names:List Str):Zew taken old.length (Za5 e.arms ((ZaL taken e old names).drop e.kids.length)) =
 List.zipWith (fun (a:ArmH × Exp) c=>((⟨a.1.pos,a.1.con,news taken old.length a.1.vars.length⟩:ArmH),c)) e.arms ((ZaL taken e old names).drop e.kids.length):=by
 unfold Zew Za5
 rw [List.map_zipWith]
theorem Zo9 (taken:List Str)(n k:Nat):news taken n (k+1)=news taken n k++[ZaX (n+k) taken]:=by
 simp [news,List.range_succ]
abbrev Zde:Obj:=.box [zi,zi,zs,zi,.nil,.nil,zi,zs,zi,zi,.nil]
theorem Zj4 (taken:List Str)(ht:taken.length≤500000)(e:Exp):∀ old names:List Str,e.wf→names.length=old.length→old.length+e.weight≤500000 →
 (K A).call 96 [expV e,ZaB taken,ZaB old,ZaB names] []=some (expV (ZbD taken e old names),[]):=by
 induction e using Exp.ind with
 | h e ih =>
 intro old names hw hn hl
 refine Zas (vf:=v96) (by kernel_rfl) rfl (by simp) ?_
 have hle:=e.children_le
 rw [e.children_len] at hle
 by_cases hk:e.kind=1
 ·have hp:=ZiV (A:=A) old e.name (by omega)
  rw [Zcj hk]
  by_cases hm:e.name∈old
  ·obtain ⟨q1,q2⟩:0≤rlast old e.name∧rlast old e.name<old.length:=by
    refine ⟨Zdm hm,?_⟩
    unfold rlast
    rw [if_pos hm]
    have:=ZaN.2 (List.mem_reverse.2 hm)
    rw [List.length_reverse] at this
    omega
   obtain ⟨k,hk2⟩:∃ k:Nat,rlast old e.name=k:=⟨(rlast old e.name).toNat,by omega⟩
   obtain ⟨s,hs⟩:=Zaa (l:=names) (i:=k) (by omega)
   rw [hk2] at hp
   have hrow:wc (Exp.mk e.kind e.pos s e.num e.kids e.arms e.ty).row=[.c (.int .i64 e.kind),.c (.int .i64 e.pos),.c (.str s),.c (.int .i64 e.num),.c (.sl (Exp.rows e.kids)),.c (.sl (Exp.armRows e.arms)),.c (.int .i64 e.ty.kind),.c (.str e.ty.name),.c (.int .i64 e.ty.id),.c (.int .i64 e.ty.home),.c (.sl (Ty.rows e.ty.args))]:=by rw [Exp.row_eq];rfl
   have hrow0:wc e.row=[.c (.int .i64 e.kind),.c (.int .i64 e.pos),.c (.str e.name),.c (.int .i64 e.num),.c (.sl (Exp.rows e.kids)),.c (.sl (Exp.armRows e.arms)),.c (.int .i64 e.ty.kind),.c (.str e.ty.name),.c (.int .i64 e.ty.id),.c (.int .i64 e.ty.home),.c (.sl (Ty.rows e.ty.args))]:=by rw [Exp.row_eq];rfl
   rw [if_pos q1,hk2,Int.toNat_natCast,hs,Option.getD_some]
   have hrow1:=hrow
   rw [hk] at hrow1
   unfold v96
   simp (maxSteps:=4000000) (disch:=first|omega|(simp;done)|(simp;omega)) [hk,hp,hs,hrow1,hrow0,-getElem?_pos]
  ·have hr:rlast old e.name=-1:=Zb6 hm
   rw [hr] at hp
   rw [hr,if_neg (by decide)]
   unfold v96
   simp (maxSteps:=4000000) (disch:=first|omega|(simp;done)|(simp;omega)) [hk,hp,-getElem?_pos]
 ·rw [Zd1 hk]
  have hc:=ZcJ (A:=A) e (by omega)
  have hcl:=canonC_len taken e old names
  unfold v96
  simp (maxSteps:=4000000) (disch:=first|omega|(simp;done)|(simp;omega)) [hk,hc,-getElem?_pos]
  refine Zaz (fun i=>⟨[(1,ZaB taken),(2,ZaB old),(3,ZaB names),(4,.sc (.ptr 64 0)),(8,.sc (.ptr 128 0)),(10,.sc (.arr 1440 e.children.length)),(11,.sc (.arr 1537 i)),(12,intV i)],
   [(64,some (.box (wc e.row))),(128,some Zde),(1440,some (.arr 11 (wr (Exp.rows e.children)) 0)),(1537,some (.arr 11 (wr (Exp.rows ((ZaL taken e old names).take i))) 0))]⟩) e.children.length ?_ ?_ ?_
  ·simp
  ·intro i hi
   obtain ⟨x,hx⟩:=Zaa hi
   have hmem:=List.mem_of_getElem? hx
   have hxw:=Exp.child_lt hmem
   have hbc:=ZcR hx
   have hb:=Zir (A:=A) e i hw.one hi (by omega)
   have hcx:=Zcd (taken:=taken) (old:=old) (names:=names) hx
   have hrec:=ih x hmem (old++e.bound i) (names++news taken old.length (e.bound i).length) (hw.child hmem) (by simp [hn]) (by simp;omega)
   generalize e.bound i=b at *
   rw [ZaC hcx]
   have hi':(i:Int)<(e.kids.length:Int)+e.arms.length:=by rw [e.children_len] at hi;omega
   have hctl:((ZaL taken e old names).take i).length=i:=by rw [List.length_take,hcl];rw [e.children_len] at hi;omega
   generalize (ZaL taken e old names).take i=cs at *
   unfold Zmx
   simp (maxSteps:=4000000) (disch:=first|omega|(simp;done)|(simp;omega)) [hi',hx,hb,hctl,hn,-getElem?_pos]
   refine Zaz (fun k=>⟨[(1,ZaB taken),(2,ZaB old),(3,ZaB names),(4,.sc (.ptr 64 0)),(8,.sc (.ptr 128 0)),(10,.sc (.arr 1440 e.children.length)),(11,.sc (.arr 1537 i)),(12,intV i),(13,.sc (.arr 1984 (old.length+k))),(14,.sc (.arr 2112 (old.length+k))),(15,ZaB b),(16,intV k)],
    [(64,some (.box (wc e.row))),(128,some Zde),(1440,some (.arr 11 (wr (Exp.rows e.children)) 0)),(1537,some (.arr 11 (wr (Exp.rows cs)) 0)),(1984,some (.arr 1 (wr (Zaf (old++b.take k))) 0)),(2112,some (.arr 1 (wr (Zaf (names++news taken old.length k))) 0))]⟩) b.length ?_ ?_ ?_
   ·simp [news]
   ·intro k hk3
    obtain ⟨s,hs⟩:=Zaa hk3
    have hf:=ZkR (A:=A) (old.length+k) taken (by omega) (by omega)
    have hbk:(b.take k).length=k:=by simp;omega
    rw [show ((old.length+k:Nat):Int)=(old.length:Int)+k by omega] at hf
    rw [Zo9,ZaC hs]
    unfold Ztc
    simp (maxSteps:=4000000) (disch:=first|omega|(simp;done)|(simp;omega)) [hk3,hs,hf,hbk,hn,Nat.add_assoc,-getElem?_pos]
   ·have hbt:b.take b.length=b:=List.take_of_length_le (by omega)
    rw [hbt]
    unfold Ztc
    simp (maxSteps:=4000000) (disch:=first|omega|(simp;done)|(simp;omega)) [hrec,hx,hctl,hn,-getElem?_pos]
  ·have hcl2:(ZaL taken e old names).length=e.children.length:=by rw [hcl,e.children_len]
   have ht2:(ZaL taken e old names).take e.children.length=ZaL taken e old names:=List.take_of_length_le (by omega)
   rw [ht2]
   have hwith:=Zrp (A:=A) e (ZaL taken e old names) hcl (by omega)
   have harm:=ZmJ taken e old names
   obtain ⟨ws,hws⟩:∃ ws,ws=Za5 e.arms ((ZaL taken e old names).drop e.kids.length):=⟨_,rfl⟩
   have hwl:ws.length=e.arms.length:=by rw [hws,armsW_len,List.length_drop,hcl];omega
   have hwv:∀ a∈ws,a.1.vars.length≤e.weight:=by
    intro a ha
    obtain ⟨j,hj⟩:=List.mem_iff_getElem?.1 ha
    rw [hws] at hj
    unfold Za5 at hj
    rw [List.getElem?_zipWith] at hj
    cases h1:e.arms[j]? with
    | none=>rw [h1] at hj;simp at hj
    | some b =>
     rw [h1] at hj
     cases h2:((ZaL taken e old names).drop e.kids.length)[j]? with
     | none=>rw [h2] at hj;simp at hj
     | some c =>
      rw [h2] at hj
      simp only [Option.some.injEq] at hj
      subst hj
      have hb:=Exp.vars_le (e:=e) (a:=b) (List.mem_of_getElem? h1)
      exact hb
   rw [←hws] at hwith harm
   rw [←harm]
   have hkl:((ZaL taken e old names).take e.kids.length).length=e.kids.length:=by rw [List.length_take,hcl];omega
   generalize (ZaL taken e old names).take e.kids.length=ks at *
   have hf0:=ZkR (A:=A) old.length taken (by omega) (by omega)
   have fin:∀ nm:Str,wp (K A) (.loop ZpV) (ZcY 4 (Zgd (K A) (.seq (.region [] [o 139 (.load true 11 (tv 17)),on (.store 11 (tv 8) (tv 139) [])] [] [8]) .ret) (Zgh false 0 [.cell 8 true 11] (expV (.mk e.kind e.pos nm e.num ks (Zew taken old.length ws) e.ty),[]))))
    ⟨[(1,ZaB taken),(2,ZaB old),(8,.sc (.ptr 128 0)),(17,.sc (.ptr 5248 0)),(18,intV 0)],
      [(128,some Zde),(1440,some (.arr 11 (wr (Exp.rows e.children)) 0)),(1537,some (.arr 11 (wr (Exp.rows (ZaL taken e old names))) (e.kids.length+e.arms.length))),(5216,some (.arr 11 (wr (Exp.rows ks)) 0)),(5217,some (.arr 14 (wr (Exp.armRows ws)) 0)),
        (5248,some (.box [.c (.int .i64 e.kind),.c (.int .i64 e.pos),.c (.str nm),.c (.int .i64 e.num),.arr 5216 e.kids.length,.arr 5217 e.arms.length,.c (.int .i64 e.ty.kind),.c (.str e.ty.name),.c (.int .i64 e.ty.id),.c (.int .i64 e.ty.home),.c (.sl (Ty.rows e.ty.args))]))]⟩:=by
    intro nm
    generalize ZaL taken e old names=cc
    have hpl:(Zew taken old.length ws).length=ws.length:=armsN_len _ _ _
    refine Zaz (fun i=>⟨[(1,ZaB taken),(2,ZaB old),(8,.sc (.ptr 128 0)),(17,.sc (.ptr 5248 0)),(18,intV i)],
     [(128,some Zde),(1440,some (.arr 11 (wr (Exp.rows e.children)) 0)),(1537,some (.arr 11 (wr (Exp.rows cc)) (e.kids.length+e.arms.length))),(5216,some (.arr 11 (wr (Exp.rows ks)) 0)),(5217,some (.arr 14 (wr (Exp.armRows ((Zew taken old.length ws).take i++ws.drop i))) 0)),
       (5248,some (.box [.c (.int .i64 e.kind),.c (.int .i64 e.pos),.c (.str nm),.c (.int .i64 e.num),.arr 5216 e.kids.length,.arr 5217 e.arms.length,.c (.int .i64 e.ty.kind),.c (.str e.ty.name),.c (.int .i64 e.ty.id),.c (.int .i64 e.ty.home),.c (.sl (Ty.rows e.ty.args))]))]⟩) e.arms.length ?_ ?_ ?_
    ·simp
    ·intro i hi
     obtain ⟨a,ha⟩:=Zaa (l:=ws) (i:=i) (by omega)
     have hav:=hwv a (List.mem_of_getElem? ha)
     have hz:(Zew taken old.length ws)[i]?=some ((⟨a.1.pos,a.1.con,news taken old.length a.1.vars.length⟩:ArmH),a.2):=by
      unfold Zew
      rw [List.getElem?_map,ha]
      rfl
     have hg:=Zb2 (i:=i) hpl (by omega)
     rw [ha] at hg
     have hs:=Zb8 hpl hz
     have hln:=Zb1 (i:=i) hpl
     rw [←hs]
     generalize (Zew taken old.length ws).take i++ws.drop i=zz at hg hln ⊢
     have hset:=ZcU zz i ((⟨a.1.pos,a.1.con,news taken old.length a.1.vars.length⟩:ArmH),a.2)
     have hsp:=ZkL a (news taken old.length a.1.vars.length)
     have hln2:zz.length=e.arms.length:=by omega
     have hrl:(List.replicate a.1.vars.length ([]:Str)).length=a.1.vars.length:=by simp
     have hnl:(news taken old.length a.1.vars.length).length=(List.replicate a.1.vars.length ([]:Str)).length:=by simp
     unfold ZpV
     simp (maxSteps:=4000000) (disch:=first|omega|(simp;done)|(simp;omega)) [hi,hg,hln2,Zp0,Za6,-getElem?_pos]
     refine Zaz (fun k=>⟨[(1,ZaB taken),(2,ZaB old),(8,.sc (.ptr 128 0)),(17,.sc (.ptr 5248 0)),(18,intV i),(19,.sc (.arr 7424 a.1.vars.length)),(20,intV k)],
      [(128,some Zde),(1440,some (.arr 11 (wr (Exp.rows e.children)) 0)),(1537,some (.arr 11 (wr (Exp.rows cc)) (e.kids.length+e.arms.length))),(5216,some (.arr 11 (wr (Exp.rows ks)) 0)),(5217,some (.arr 14 (wr (Exp.armRows zz)) 0)),
        (5248,some (.box [.c (.int .i64 e.kind),.c (.int .i64 e.pos),.c (.str nm),.c (.int .i64 e.num),.arr 5216 e.kids.length,.arr 5217 e.arms.length,.c (.int .i64 e.ty.kind),.c (.str e.ty.name),.c (.int .i64 e.ty.id),.c (.int .i64 e.ty.home),.c (.sl (Ty.rows e.ty.args))])),
        (7424,some (.arr 1 (wr (Zaf ((news taken old.length a.1.vars.length).take k++(List.replicate a.1.vars.length ([]:Str)).drop k))) 0))]⟩) a.1.vars.length ?_ ?_ ?_
     ·simp
     ·intro k hk3
      have hz2:=ZbN (taken:=taken) (n:=old.length) hk3
      have hs2:=Zb8 hnl hz2
      have hln3:=Zb1 (i:=k) hnl
      have hf:=ZkR (A:=A) (old.length+k) taken (by omega) (by omega)
      rw [show ((old.length+k:Nat):Int)=(old.length:Int)+k by omega] at hf
      have hg3:=Zb2 (i:=k) hnl (by rw [hrl];exact hk3)
      rw [List.getElem?_replicate,if_pos hk3] at hg3
      rw [←hs2]
      generalize (news taken old.length a.1.vars.length).take k++(List.replicate a.1.vars.length ([]:Str)).drop k=vv at hg3 hln3 ⊢
      rw [hrl] at hln3
      have hst:=ZgO vv k (ZaX (old.length+k) taken)
      unfold ZsI
      simp (maxSteps:=4000000) (disch:=first|omega|(simp;done)|(simp;omega)) [hk3,hf,hln3,hg3,hst,Za6,-getElem?_pos]
     ·have hend:(news taken old.length a.1.vars.length).take a.1.vars.length++(List.replicate a.1.vars.length ([]:Str)).drop a.1.vars.length=news taken old.length a.1.vars.length:=by
       rw [List.take_of_length_le (by simp),List.drop_of_length_le (by simp),List.append_nil]
      rw [hend]
      unfold ZsI
      simp (maxSteps:=4000000) (disch:=first|omega|(simp;done)|(simp;omega)) [hi,hg,hln2,hsp,hset,Za6,-getElem?_pos]
    ·have hend:(Zew taken old.length ws).take e.arms.length++ws.drop e.arms.length=Zew taken old.length ws:=by
      rw [List.take_of_length_le (by omega),List.drop_of_length_le (by omega),List.append_nil]
     rw [hend]
     have hrow:wc (Exp.mk e.kind e.pos nm e.num ks (Zew taken old.length ws) e.ty).row=[.c (.int .i64 e.kind),.c (.int .i64 e.pos),.c (.str nm),.c (.int .i64 e.num),.c (.sl (Exp.rows ks)),.c (.sl (Exp.armRows (Zew taken old.length ws))),.c (.int .i64 e.ty.kind),.c (.str e.ty.name),.c (.int .i64 e.ty.id),.c (.int .i64 e.ty.home),.c (.sl (Ty.rows e.ty.args))]:=by rw [Exp.row_eq];rfl
     have hal:(Zew taken old.length ws).length=e.arms.length:=by omega
     unfold ZpV
     simp (maxSteps:=4000000) (disch:=first|omega|(simp;done)|(simp;omega)) [hrow,hal,hkl,-getElem?_pos]
   by_cases h4:e.kind=4
   ·have f:=fin (ZaX old.length taken)
    rw [if_pos (.inl h4)]
    unfold Zmx
    rw [h4] at f hwith
    simp (maxSteps:=4000000) (disch:=first|omega|(simp;done)|(simp;omega)) [hwith,hcl,hcl2,h4,hf0,-getElem?_pos]
    exact f
   ·by_cases h6:e.kind=6
    ·have f:=fin (ZaX old.length taken)
     rw [if_pos (.inr (.inl h6))]
     unfold Zmx
     rw [h6] at f hwith
     simp (maxSteps:=4000000) (disch:=first|omega|(simp;done)|(simp;omega)) [hwith,hcl,hcl2,h6,hf0,-getElem?_pos]
     exact f
    ·by_cases h7:e.kind=7
     ·have f:=fin (ZaX old.length taken)
      rw [if_pos (.inr (.inr h7))]
      unfold Zmx
      rw [h7] at f hwith
      simp (maxSteps:=4000000) (disch:=first|omega|(simp;done)|(simp;omega)) [hwith,hcl,hcl2,h7,hf0,-getElem?_pos]
      exact f
     ·have f:=fin e.name
      rw [if_neg (by omega)]
      unfold Zmx
      simp (maxSteps:=4000000) (disch:=first|omega|(simp;done)|(simp;omega)) [hwith,hcl,hcl2,h4,h6,h7,-getElem?_pos]
      exact f
variable {A:Zac}
theorem Zj7 (e:Exp)(taken:List Str)(hw:e.wf)(ht:taken.length+e.weight≤500000) :
 (K A).call 40 [expV e,ZaB taken] []=some (expV (Zdq e taken),[]):=by
 refine Zas (vf:=v40) (by kernel_rfl) rfl (by simp) ?_
 have h1:=Zse (A:=A) e (by omega)
 have h2:=Zrc (A:=A) e hw (by omega)
 have hl:=ZjU e [] []
 rw [ZiY e hw] at h2 hl
 have h3:=Zj4 (A:=A) (taken++Zag e) (by simp at hl ⊢;omega) (Zan e) [] [] (Zeg e hw) rfl (by rw [ZdZ];simp;omega)
 simp [ZaB] at h3
 simp at hl
 unfold v40 Zdq
 simp (maxSteps:=4000000) (disch:=first|omega|(simp;done)|(simp;omega)) [h1,h2,h3,-getElem?_pos]
def Zdy (k:Nat):List Str:=[[118,49],118::numS (k+2)]
theorem Zjj (e:Exp)(n:Int)(hw:e.wf)(he:e.weight≤400000) :
 ∃ r,(∃ k:Nat,k<5∧r=(expV (Zdq e (Zdy k)),[]))∧(K A).call 25 [expV e,intV n] []=some r:=by
 refine ZcD _ (vf:=v25) (by kernel_rfl) rfl (by simp) ?_
 obtain ⟨k,hk,h1⟩:=mod10 (A:=A) n 5 (by omega) (by omega)
 have h2:=ZiA (A:=A) (k+2) (by omega) (by omega)
 rw [show ((k+2:Nat):Int)=(k:Int)+2 by omega] at h2
 have h3:=Zj7 (A:=A) e (Zdy k) hw (by simp [Zdy];omega)
 have hs:Zaf (Zdy k)=[[.str [118,49]],[.str (118::numS (k+2))]]:=rfl
 simp [ZaB,hs] at h3
 have hr:wr (Zaf (Zdy k))=[[W.c (.str [118,49])],[W.c (.str (118::numS (k+2)))]]:=rfl
 have ha:binV .add 0 (.sc (.c (.str [118]))) (.sc (.c (.str (numS (k+2)))))=some (.sc (.c (.str (118::numS (k+2)))),[]):=b_sadd (by have:=Zei (k+2) 2 (by omega) (by omega);simp;omega)
 unfold v25
 simp (maxSteps:=4000000) (disch:=first|omega|(simp;done)|(simp;omega)) [h1,h2,h3,hr,ha,-getElem?_pos]
 exact ⟨k,by omega,rfl⟩
variable {A:Zac}
def charOk (c:UInt8):Bool:=(97≤c.toNat && c.toNat≤122) || (65≤c.toNat && c.toNat≤90) || (48≤c.toNat && c.toNat≤57) || c.toNat == 95
def ZpH:List Str:=[[100,97,116,97],[108,101,116],[114,101,99],[105,110],[99,97,115,101],[111,102],[101,110,100]]
def Zdg (lo hi:Nat)(s:Str):Prop:=s.length≤12∧(∃ c,s[0]?=some c∧lo≤c.toNat∧c.toNat≤hi)∧(∀ c∈s,charOk c=true)∧s∉ZpH
variable {A:Zac}
def IffB (P:Prop)(r:V × List Obj):Prop:=∃ b:Bool,(b=true↔P)∧r=(Zah b,[])
theorem IffB.yes {P:Prop}(h:P):IffB P (Zah true,[]):=⟨true,by simp [h],rfl⟩
theorem IffB.no {P:Prop}(h:¬P):IffB P (Zah false,[]):=⟨false,by simp [h],rfl⟩
theorem Ty.ext {a b:Ty}(h1:a.kind=b.kind)(h2:a.name=b.name)(h3:a.id=b.id)(h4:a.home=b.home)(h5:a.args=b.args):a=b:=by
 cases a;cases b;simp only [Ty.kind,Ty.name,Ty.id,Ty.home,Ty.args] at *;subst h1 h2 h3 h4 h5;rfl
theorem Ztr {α:Type}{l m:List α}(hn:l.length=m.length)(h:∀ (i:Nat)(x y:α),l[i]?=some x→m[i]?=some y→x=y):l=m:=by
 refine List.ext_getElem? fun i => ?_
 by_cases hi:i<l.length
 ·rw [List.getElem?_eq_getElem hi,List.getElem?_eq_getElem (hn▸hi)]
  exact congrArg some (h i _ _ (List.getElem?_eq_getElem hi) (List.getElem?_eq_getElem (hn▸hi)))
 ·rw [List.getElem?_eq_none (by omega),List.getElem?_eq_none (by omega)]
theorem teq134 (l m:List Ty)(hl:l.length≤1073741824)(ih:∀ x∈l,∀ b,∃ r,IffB (x=b) r∧(K A).call 84 [tyV x,tyV b] []=some r):∃ r,IffB (l=m) r∧(K A).call 147 [tysV l,tysV m] []=some r:=by
 refine ZcD _ (vf:=v147) (by kernel_rfl) rfl (by simp) ?_
 unfold v147
 by_cases hn:l.length=m.length
 ·simp (disch:=first|omega|(simp;done)|(simp;omega)) [hn]
  refine Zal (fun i s=>(∀ (j:Nat) x y,j<i→l[j]?=some x→m[j]?=some y→x=y)∧s=⟨[(0,tysV l),(1,tysV m),(5,intV i)],[]⟩) l.length ⟨by omega,by simp⟩ ?_ ?_
  ·rintro i s hi ⟨hs,rfl⟩
   obtain ⟨x,hx⟩:=Zaa hi
   obtain ⟨y,hy⟩:=Zaa (l:=m) (i:=i) (by omega)
   obtain ⟨_,⟨b,hb,rfl⟩,hc⟩:=ih x (List.mem_of_getElem? hx) y
   unfold Znt
   cases b with
   | true =>
    have hxy:x=y:=hb.1 rfl
    simp (disch:=first|omega|(simp;done)|(simp;omega)) [hi,hx,hy,hc,-getElem?_pos]
    intro j x' y' hj hx' hy'
    by_cases hji:j=i
    ·subst hji
     rw [hx] at hx'
     rw [hy] at hy'
     cases hx'
     cases hy'
     exact hxy
    ·exact hs j x' y' (by omega) hx' hy'
   | false =>
    have hne:l≠m:=by
     rintro rfl
     rw [hx] at hy
     cases hy
     exact absurd (hb.2 rfl) (by simp)
    simp (disch:=first|omega|(simp;done)|(simp;omega)) [hi,hx,hy,hc,-getElem?_pos]
    exact IffB.no hne
  ·rintro s ⟨hs,rfl⟩
   have he:l=m:=Ztr hn fun i x y hx hy=>hs i x y (List.getElem?_eq_some_iff.1 hx).1 hx hy
   unfold Znt
   simp (disch:=first|omega|(simp;done)|(simp;omega))
   exact IffB.yes he
 ·have hn':¬(l.length:Int)=m.length:=by omega
  have hne:l≠m:=fun h=>hn (by rw [h])
  simp (disch:=first|omega|(simp;done)|(simp;omega)) [hn,hn']
  exact IffB.no hne
theorem teq85:∀ (n:Nat)(a b:Ty),a.size≤n→n≤1073741824→∃ r,IffB (a=b) r∧(K A).call 84 [tyV a,tyV b] []=some r:=by
 intro n
 induction n with
 | zero =>
  intro a b ha
  have:=a.size_pos
  omega
 | succ n ih =>
  intro a b ha hn
  have hal:=a.args_lt
  obtain ⟨_,⟨v,hv,rfl⟩,hc⟩:=teq134 (A:=A) a.args b.args (by omega) (fun x hx b=>ih x b (by have:=Ty.arg_lt hx;omega) (by omega))
  refine ZcD _ (vf:=v84) (by kernel_rfl) rfl (by simp) ?_
  unfold v84
  by_cases h1:a.kind=b.kind
  ·by_cases h2:a.name=b.name
   ·by_cases h3:a.id=b.id
    ·by_cases h4:a.home=b.home
     ·simp (disch:=first|omega|(simp;done)|(simp;omega)) [h1,h2,h3,h4,hc]
      exact ⟨v,hv.trans ⟨fun h5=>Ty.ext h1 h2 h3 h4 h5,fun h=>by rw [h]⟩,rfl⟩
     ·simp (disch:=first|omega|(simp;done)|(simp;omega)) [h1,h2,h3,h4,hc]
      exact IffB.no fun h=>h4 (by rw [h])
    ·simp (disch:=first|omega|(simp;done)|(simp;omega)) [h1,h2,h3,hc]
     exact IffB.no fun h=>h3 (by rw [h])
   ·simp (disch:=first|omega|(simp;done)|(simp;omega)) [h1,h2,hc]
    exact IffB.no fun h=>h2 (by rw [h])
  ·simp (disch:=first|omega|(simp;done)|(simp;omega)) [h1,hc]
   exact IffB.no fun h=>h1 (by rw [h])
end Go.Vs.Tryz
