/- With and Strip by the reference, walked. -/
import Derived.Test.YtccmnfpbcmccpaaGreatDoorR6s
set_option linter.unusedSimpArgs false
set_option linter.unusedVariables false
set_option linter.deprecated false
set_option maxRecDepth 9999
set_option maxHeartbeats 4000000
set_option maxRecDepth 10000
namespace Go.Vs
open Go
def elK (x:Option Obj)(N i:Nat):Bool:=match x with
 |some (.arr _ rows _)=>rows.length==N&&Nat.blt i N
 |_=>false
@[simp] theorem elK_some {s p N i:Nat} {rows:List (List W)}:elK (some (.arr s rows p)) N i=(rows.length==N&&Nat.blt i N):=rfl
@[simp] theorem elOk_eq {L:Nat->Option Obj} {k N i:Nat}:elOk L k N i=elK (L k) N i:=rfl
end Go.Vs
namespace Go.Vs.Tryz
open Go Go.Vs
variable {A:Zab}
abbrev exsV (l:List Exp):V:=.sc (.c (.sl (Exp.rows l)))
def ZaX (zz:List (ArmH×Exp))(cs:List Exp):List (ArmH×Exp):=List.zipWith (fun(a:ArmH×Exp) c=>(a.1,c)) zz cs
@[simp] theorem armsW_len (zz:List (ArmH×Exp)) (cs:List Exp):(ZaX zz cs).length=min zz.length cs.length:=by simp[ZaX]
theorem Zbz {α:Type}{zs zz:List α}{i:Nat}{x:α}(hl:zs.length=zz.length)(hx:zs[i]?=some x):(zs.take i++zz.drop i).set i x=zs.take (i+1)++zz.drop (i+1):=by
 have hi:=(qd.1 hx).1;have htl:(zs.take i).length=i:=by simp;omega
 rw[Zam hx,qab];have hd:zz.drop i=zz[i]'(by omega)::zz.drop (i+1):=List.drop_eq_getElem_cons (by omega);rw[hd,List.set_append_right _ _ (by omega),htl,qaV,List.set_cons_zero];rfl
theorem Zb1 (l:List (ArmH×Exp))(i:Nat)(x:ArmH×Exp):setRow (wr (Exp.armRows l)) i (wc (Zaw x))=wr (Exp.armRows (l.set i x)):=by
 rw[setRow_set];simp[Exp.armRows_map,wr,qa0]
theorem Zg5 (a:ArmH×Exp)(c:Exp):splice (wc (Zaw a)) 3 (wc c.row)=some (wc (Zaw (a.1,c))):=by
 rw[Zaw,Zaw,Exp.row_eq a.2,Exp.row_eq c];rfl
theorem ZbL {α:Type}{zs zz:List α}{i:Nat}(hl:zs.length=zz.length)(hi:i<zz.length):(zs.take i++zz.drop i)[i]?=zz[i]?:=by
 have htl:(zs.take i).length=i:=by simp;omega
 rw[qN (by omega),htl,qaV,qZ];rfl
theorem ZbN {α:Type}{zs zz:List α}{i:Nat}(hl:zs.length=zz.length):(zs.take i++zz.drop i).length=zz.length:=by
 simp;omega
theorem Zym (e:Exp)(cs:List Exp)(h:cs.length=e.kids.length+e.arms.length)(hl:e.weight<=1073741824):(K A).call 106 [expV e,exsV cs] []=
 some (.ag [.c (.int .i64 e.kind),.c (.int .i64 e.pos),.c (.str e.name),.c (.int .i64 e.num),.arr 0 e.kids.length,.arr 1 e.arms.length,.c (.int .i64 e.ty.kind),.c (.str e.ty.name),.c (.int .i64 e.ty.id),.c (.int .i64 e.ty.home),.c (.sl (Ty.rows e.ty.args))],
  [.arr 11 (wr (Exp.rows (cs.take e.kids.length))) 0,.arr 14 (wr (Exp.armRows (ZaX e.arms (cs.drop e.kids.length)))) 0]):=by
 refine fnO v106 ?_;have hle:=e.children_le;rw[e.children_len]at hle;have hrow:wc e.row=[.c (.int .i64 e.kind),.c (.int .i64 e.pos),.c (.str e.name),.c (.int .i64 e.num),.c (.sl (Exp.rows e.kids)),.c (.sl (Exp.armRows e.arms)),.c (.int .i64 e.ty.kind),.c (.str e.ty.name),.c (.int .i64 e.ty.id),.c (.int .i64 e.ty.home),.c (.sl (Ty.rows e.ty.args))]:=by rw[Exp.row_eq];rfl
 have hzl:(ZaX e.arms (cs.drop e.kids.length)).length=e.arms.length:=by rw[armsW_len,qV];omega
 have hfit:Zbx 11 (Exp.rows cs)=true:=by rw[Exp.rows_map];exact ZgE Exp.row_len cs
 have htk:(Exp.rows cs).take e.kids.length=Exp.rows (cs.take e.kids.length):=by simp[Exp.rows_map,qau]
 have hcl:(cs.take e.kids.length).length=e.kids.length:=by rw[qK];omega
 unfold v106;simp(maxSteps:=4000000) (disch:=first|exact zd|fail) [h,hrow,hfit,htk,hcl,-getElem?_pos];refine Zak (fun i=>⟨[(1,exsV cs),(4,.sc (.ptr 128 0)),(5,intV e.kids.length),(6,.sc (.ptr 1152 0)),(7,intV i)],
  [(128,some (.box [zi,zi,zs,zi,.nil,.nil,zi,zs,zi,zi,.nil])),(1152,some (.box [.c (.int .i64 e.kind),.c (.int .i64 e.pos),.c (.str e.name),.c (.int .i64 e.num),.arr 1472 e.kids.length,.arr 1664 e.arms.length,.c (.int .i64 e.ty.kind),.c (.str e.ty.name),.c (.int .i64 e.ty.id),.c (.int .i64 e.ty.home),.c (.sl (Ty.rows e.ty.args))])),
    (1472,some (.arr 11 (wr (Exp.rows (cs.take e.kids.length))) 0)),(1664,some (.arr 14 (wr (Exp.armRows ((ZaX e.arms (cs.drop e.kids.length)).take i++e.arms.drop i))) 0))]⟩) e.arms.length ?_ ?_ ?_
 .simp
 .intro i hi
  obtain⟨a,ha⟩:=Zaa hi;obtain⟨c,hc⟩:=Zaa (l:=cs) (i:=e.kids.length+i) (by omega);have hz:(ZaX e.arms (cs.drop e.kids.length))[i]?=some (a.1,c):=by
   unfold ZaX;rw[qah,ha,qZ,hc]
  have hg:=ZbL hzl hi;rw[ha]at hg;have hs:=Zbz hzl hz;have hln:=ZbN (i:=i) hzl;rw[<-hs];generalize (ZaX e.arms (cs.drop e.kids.length)).take i++e.arms.drop i=zz at hg hln |-;have hset:=Zb1 zz i (a.1,c);have hsp:=Zg5 a c;have hnb:Zap (intV ((e.kids.length:Int)+i)) cs.length=some (e.kids.length+i):=natBelow_cast (k:=.i64) (n:=e.kids.length+i) (by omega);unfold ZmN
  simp(maxSteps:=4000000) (disch:=first|exact zd|fail) [hi,hg,hln,hc,hnb,hsp,hset,Zbg,-getElem?_pos]
 .have ht:(ZaX e.arms (cs.drop e.kids.length)).take e.arms.length++e.arms.drop e.arms.length=ZaX e.arms (cs.drop e.kids.length):=by
   rw[qao,qF,qf (by omega)]
  rw[ht];unfold ZmN;simp(maxSteps:=4000000) (disch:=first|exact zd|fail) [hzl,-getElem?_pos]
def ZdK (l:List (ArmH×Exp)):List (ArmH×Exp):=l.map fun a=>(⟨0,a.1.con,a.1.vars⟩,a.2)
@[simp] theorem armsP_len (l:List (ArmH×Exp)):(ZdK l).length=l.length:=by simp[ZdK]
theorem ZgV (a:ArmH×Exp):splice (wc (Zaw a)) 0 [W.c (.int .i64 0)]=some (wc (Zaw ((⟨0,a.1.con,a.1.vars⟩:ArmH),a.2))):=by
 rw[Zaw,Zaw,Exp.row_eq a.2];rfl
theorem Zj7 (e:Exp):ZdK (ZaX e.arms ((e.children.map Zan).drop e.kids.length))=(Zan e).arms:=by
 obtain⟨_,_,_,_,_,h6,_,h8⟩:=ZbM e;have hd:(e.children.map Zan).drop e.kids.length=e.arms.map fun a=>Zan a.2:=by simp[Exp.children]
 refine qC fun i=>?_;rw[h8,hd];unfold ZdK ZaX;rw[qi,qah,qi];cases e.arms[i]?<;>rfl
theorem Zjw (e:Exp):(e.children.map Zan).take e.kids.length=(Zan e).kids:=by
 rw[ZdT];rfl
theorem Zi9 (e:Exp):wc (Zan e).row=[.c (.int .i64 e.kind),.c (.int .i64 0),.c (.str e.name),.c (.int .i64 e.num),.c (.sl (Exp.rows (Zan e).kids)),.c (.sl (Exp.armRows (Zan e).arms)),.c (.int .i64 e.ty.kind),.c (.str e.ty.name),.c (.int .i64 e.ty.id),.c (.int .i64 e.ty.home),.c (.sl (Ty.rows e.ty.args))]:=by
 obtain⟨h1,h2,h3,h4,_,_,_,_⟩:=ZbM e;have hp:(Zan e).pos=0:=by rw[ZdT];rfl
 rw[Exp.row_eq,h1,h2,h3,h4,hp];rfl
theorem ZBo (e:Exp):e.weight<=1073741824->(K A).call 51 [expV e] []=some (expV (Zan e),[]):=by
 induction e using Exp.ind with
 |h e ih=>
 intro hl;refine fnO v51 ?_;have hle:=e.children_le;rw[e.children_len]at hle;have hc:=ZbS (A:=A) e (by omega);have hml:(e.children.map Zan).length=e.children.length:=by simp
 have hw:=Zym (A:=A) e (e.children.map Zan) (by rw[hml,e.children_len]) hl;have hal:(ZaX e.arms ((e.children.map Zan).drop e.kids.length)).length=e.arms.length:=by rw[armsW_len,qV,hml,e.children_len];omega
 rw[Zjw]at hw;have hks:(Zan e).kids.length=e.kids.length:=(ZbM e).2.2.2.2.1;have has:(Zan e).arms.length=e.arms.length:=(ZbM e).2.2.2.2.2.1;unfold v51;simp(maxSteps:=4000000) (disch:=first|exact zd|fail) [hc,-getElem?_pos];refine Zak (fun i=>⟨[(1,.sc (.ptr 64 0)),(2,.sc (.ptr 128 0)),(3,.sc (.arr 288 e.children.length)),(4,intV i)],
  [(64,some (.box (wc e.row))),(128,some (.box [zi,zi,zs,zi,.nil,.nil,zi,zs,zi,zi,.nil])),(288,some (.arr 11 (wr (Exp.rows ((e.children.map Zan).take i++e.children.drop i))) 0))]⟩) e.children.length ?_ ?_ ?_
 .simp
 .intro i hi
  obtain⟨x,hx⟩:=Zaa hi;have hmem:=qa hx;have hrec:=ih x hmem (by have:=Exp.child_lt hmem;omega);have hz:(e.children.map Zan)[i]?=some (Zan x):=by simp[hx]
  have hg:=ZbL hml hi;rw[hx]at hg;have hs:=Zbz hml hz;have hln:=ZbN (i:=i) hml;rw[<-hs];generalize (e.children.map Zan).take i++e.children.drop i=zz at hg hln |-;have hset:=Zce zz i (Zan x);have hi':(i:Int)<(e.kids.length:Int)+e.arms.length:=by rw[e.children_len]at hi;omega
  rw[e.children_len]at hln hi;unfold ZwQ;simp(maxSteps:=4000000) (disch:=first|exact zd|fail) [hi,hi',hg,hln,hrec,hset,Zbg,-getElem?_pos]
 .have ht:(e.children.map Zan).take e.children.length++e.children.drop e.children.length=e.children.map Zan:=by
   rw[qao,qF,qf (by omega)]
  rw[ht];unfold ZwQ;simp(maxSteps:=4000000) (disch:=first|exact zd|fail) [hw,hml,-getElem?_pos];have hsa:=Zj7 e;generalize ZaX e.arms ((e.children.map Zan).drop e.kids.length)=ws at *
  have hpl:(ZdK ws).length=ws.length:=armsP_len ws;refine Zak (fun i=>⟨[(2,.sc (.ptr 128 0)),(5,.sc (.ptr 1664 0)),(6,intV i)],
   [(128,some (.box [zi,zi,zs,zi,.nil,.nil,zi,zs,zi,zi,.nil])),(288,some (.arr 11 (wr (Exp.rows (e.children.map Zan))) (e.kids.length+e.arms.length))),(1632,some (.arr 11 (wr (Exp.rows (Zan e).kids)) 0)),
     (1633,some (.arr 14 (wr (Exp.armRows ((ZdK ws).take i++ws.drop i))) 0)),
     (1664,some (.box [.c (.int .i64 e.kind),zi,.c (.str e.name),.c (.int .i64 e.num),.arr 1632 e.kids.length,.arr 1633 e.arms.length,.c (.int .i64 e.ty.kind),.c (.str e.ty.name),.c (.int .i64 e.ty.id),.c (.int .i64 e.ty.home),.c (.sl (Ty.rows e.ty.args))]))]⟩) e.arms.length ?_ ?_ ?_
  .simp
  .intro i hi
   obtain⟨a,ha⟩:=Zaa (l:=ws) (i:=i) (by omega);have hz:(ZdK ws)[i]?=some ((⟨0,a.1.con,a.1.vars⟩:ArmH),a.2):=by
    unfold ZdK;rw[qi,ha];rfl
   have hg:=ZbL (i:=i) hpl (by omega);rw[ha]at hg;have hs:=Zbz hpl hz;have hln:=ZbN (i:=i) hpl;rw[<-hs];generalize (ZdK ws).take i++ws.drop i=zz at hg hln |-;have hset:=Zb1 zz i ((⟨0,a.1.con,a.1.vars⟩:ArmH),a.2);have hsp:=ZgV a;have hln2:zz.length=e.arms.length:=(by omega);unfold ZAZ;simp(maxSteps:=4000000) (disch:=first|exact zd|fail) [hi,hg,hln2,hsp,hset,Zbg,-getElem?_pos]
  .have ht:(ZdK ws).take e.arms.length++ws.drop e.arms.length=(Zan e).arms:=by
    rw[<-hal,qao,qF,qf (by omega),hsa]
   rw[ht];have hsr:=Zi9 e;unfold ZAZ;simp(maxSteps:=4000000) (disch:=first|exact zd|fail) [hsr,hks,has,-getElem?_pos]
end Go.Vs.Tryz
namespace Go.Vs
open Go
section
variable {C:Ctx}{E:Nat->Option V}{L:Nat->Option Obj}{oid:Nat}
def mkSK (oid s bytes:Nat)(zero:List W)(v:V):Option (V×Upd):=match ZwB v with
 |some (.ofNat m)=>bif Nat.ble (m*bytes) ZbJ&&zero.length==s&&Nat.blt 0 s&&Nat.ble m ZaJ then
  some (.sc (.arr oid m),[(oid,some (.arr s (List.replicate m zero) 0))]) else none
 |_=>none
@[simp] theorem x_mkS {s bytes:Nat} {zero:List W} {n:Opd}:Zah C E L oid (.mkS s bytes zero n)=newK (L oid) (mkSK oid s bytes zero (n.val C E)):=by
 simp only[Zah,newK,mkSK];cases L oid with
 |some _=>rfl
 |none=>
  cases ZwB (n.val C E)with
  |none=>rfl
  |some z=>cases z<;>rfl
@[simp] theorem mkSK_nat {s bytes m:Nat} {zero:List W} {k:IntKind} (h1:m*bytes<=140737488355328) (h2:zero.length=s) (h3:0<s) (h4:m<=9223372036854775807):mkSK oid s bytes zero (.sc (.c (.int k (m:Int))))=some (.sc (.arr oid m),[(oid,some (.arr s (List.replicate m zero) 0))]):=by
 have e:mkSK oid s bytes zero (.sc (.c (.int k (m:Int))))=bif Nat.ble (m*bytes) ZbJ&&zero.length==s&&Nat.blt 0 s&&Nat.ble m ZaJ then
  some (.sc (.arr oid m),[(oid,some (.arr s (List.replicate m zero) 0))]) else none:=rfl
 rw[e,qR (by unfold ZbJ;exact h1),qR (by unfold ZaJ;exact h4),show Nat.blt 0 s=true from qR h3,h2];simp
end
end Go.Vs
namespace Go.Vs.Tryz
open Go Go.Vs
variable {A:Zab}
def Zzs (taken:List Str)(n:Nat)(l:List (ArmH×Exp)):List (ArmH×Exp):=l.map fun a=>(⟨a.1.pos,a.1.con,news taken n a.1.vars.length⟩,a.2)
@[simp] theorem armsN_len (taken:List Str) (n:Nat) (l:List (ArmH×Exp)):(Zzs taken n l).length=l.length:=by simp[Zzs]
theorem Zid (l:List Str)(i:Nat)(x:Str):setRow (wr (Zai l)) i [W.c (.str x)]=wr (Zai (l.set i x)):=by
 rw[setRow_set];simp[Zai,wr,qa0,ZeN]
abbrev Zd7:Obj:=.box [zi,zi,zs,zi,.nil,.nil,zi,zs,zi,zi,.nil]
variable {A:Zab}
def renTo (k:Nat):List Str:=[[118,49],118::numS (k+2)]
end Go.Vs.Tryz
