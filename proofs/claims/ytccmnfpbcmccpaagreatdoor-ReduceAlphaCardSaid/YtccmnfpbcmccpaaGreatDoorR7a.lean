/- With and Strip by the reference, walked. -/
import Derived.Test.YtccmnfpbcmccpaaGreatDoorR6a
set_option linter.unusedSimpArgs false
set_option linter.unusedVariables false
set_option linter.deprecated false
set_option maxHeartbeats 16000000
set_option maxRecDepth 10000
namespace Go.Vs
open Go
def elK (x:Option Obj)(N i:Nat):Bool:=match x with
 |some (.arr _ rows _)=>rows.length==N&&Nat.blt i N
 |_=>false
@[simp] theorem elK_some {s p N i:Nat} {rows:List (List W)}:elK (some (.arr s rows p)) N i=(rows.length==N&&Nat.blt i N):=rfl
@[simp] theorem elOk_eq {L:Nat->Option Obj} {k N i:Nat}:elOk L k N i=elK (L k) N i:=rfl
end Go.Vs
namespace Go.Vs.Tryz
open Go Go.Vs
variable {A:Zab}
abbrev exsV (l:List Exp):V:=.sc (.c (.sl (Exp.rows l)))
def Zbk (zz:List (ArmH×Exp))(cs:List Exp):List (ArmH×Exp):=List.zipWith (fun(a:ArmH×Exp) c=>(a.1,c)) zz cs
@[simp] theorem armsW_len (zz:List (ArmH×Exp)) (cs:List Exp):(Zbk zz cs).length=min zz.length cs.length:=by simp[Zbk]
theorem ZbU {α:Type}{zs zz:List α}{i:Nat}{x:α}(hl:zs.length=zz.length)(hx:zs[i]?=some x):(zs.take i++zz.drop i).set i x=zs.take (i+1)++zz.drop (i+1):=by
 have hi:=(qd.1 hx).1;have htl:(zs.take i).length=i:=by simp;omega
 rw[Zaq hx,qaq];have hd:zz.drop i=zz[i]'(by omega)::zz.drop (i+1):=List.drop_eq_getElem_cons (by omega);rw[hd,List.set_append_right _ _ (by omega),htl,qaS,List.set_cons_zero];rfl
theorem Zch (l:List (ArmH×Exp))(i:Nat)(x:ArmH×Exp):setRow (wr (Exp.armRows l)) i (wc (ZaD x))=wr (Exp.armRows (l.set i x)):=by
 rw[setRow_set];simp[Exp.armRows_map,wr,qaZ]
theorem ZjR (a:ArmH×Exp)(c:Exp):splice (wc (ZaD a)) 3 (wc c.row)=some (wc (ZaD (a.1,c))):=by
 rw[ZaD,ZaD,Exp.row_eq a.2,Exp.row_eq c];rfl
theorem ZbX {α:Type}{zs zz:List α}{i:Nat}(hl:zs.length=zz.length)(hi:i<zz.length):(zs.take i++zz.drop i)[i]?=zz[i]?:=by
 have htl:(zs.take i).length=i:=by simp;omega
 rw[qP (by omega),htl,qaS,qad];rfl
theorem ZbV {α:Type}{zs zz:List α}{i:Nat}(hl:zs.length=zz.length):(zs.take i++zz.drop i).length=zz.length:=by
 simp;omega
theorem ZyK (e:Exp)(cs:List Exp)(h:cs.length=e.kids.length+e.arms.length)(hl:e.weight<=1073741824):(K A).call 106 [expV e,exsV cs] []=
 some (.ag [.c (.int .i64 e.kind),.c (.int .i64 e.pos),.c (.str e.name),.c (.int .i64 e.num),.arr 0 e.kids.length,.arr 1 e.arms.length,.c (.int .i64 e.ty.kind),.c (.str e.ty.name),.c (.int .i64 e.ty.id),.c (.int .i64 e.ty.home),.c (.sl (Ty.rows e.ty.args))],
  [.arr 11 (wr (Exp.rows (cs.take e.kids.length))) 0,.arr 14 (wr (Exp.armRows (Zbk e.arms (cs.drop e.kids.length)))) 0]):=by
 refine fnO v106 ?_;have hle:=e.children_le;rw[e.children_len]at hle;have hrow:wc e.row=[.c (.int .i64 e.kind),.c (.int .i64 e.pos),.c (.str e.name),.c (.int .i64 e.num),.c (.sl (Exp.rows e.kids)),.c (.sl (Exp.armRows e.arms)),.c (.int .i64 e.ty.kind),.c (.str e.ty.name),.c (.int .i64 e.ty.id),.c (.int .i64 e.ty.home),.c (.sl (Ty.rows e.ty.args))]:=by rw[Exp.row_eq];rfl
 have hzl:(Zbk e.arms (cs.drop e.kids.length)).length=e.arms.length:=by rw[armsW_len,qZ];omega
 have hfit:ZbA 11 (Exp.rows cs)=true:=by rw[Exp.rows_map];exact ZiI Exp.row_len cs
 have htk:(Exp.rows cs).take e.kids.length=Exp.rows (cs.take e.kids.length):=by simp[Exp.rows_map,qax]
 have hcl:(cs.take e.kids.length).length=e.kids.length:=by rw[qS];omega
 unfold v106;simp(maxSteps:=4000000) (disch:=first|exact zd|fail) [h,hrow,hfit,htk,hcl,-getElem?_pos];refine Zaj (fun i=>⟨[(1,exsV cs),(4,.sc (.ptr 128 0)),(5,intV e.kids.length),(6,.sc (.ptr 1152 0)),(7,intV i)],
  [(128,some (.box [zi,zi,zs,zi,.nil,.nil,zi,zs,zi,zi,.nil])),(1152,some (.box [.c (.int .i64 e.kind),.c (.int .i64 e.pos),.c (.str e.name),.c (.int .i64 e.num),.arr 1472 e.kids.length,.arr 1664 e.arms.length,.c (.int .i64 e.ty.kind),.c (.str e.ty.name),.c (.int .i64 e.ty.id),.c (.int .i64 e.ty.home),.c (.sl (Ty.rows e.ty.args))])),
    (1472,some (.arr 11 (wr (Exp.rows (cs.take e.kids.length))) 0)),(1664,some (.arr 14 (wr (Exp.armRows ((Zbk e.arms (cs.drop e.kids.length)).take i++e.arms.drop i))) 0))]⟩) e.arms.length ?_ ?_ ?_
 .simp
 .intro i hi
  obtain⟨a,ha⟩:=Zaa hi;obtain⟨c,hc⟩:=Zaa (l:=cs) (i:=e.kids.length+i) (by omega);have hz:(Zbk e.arms (cs.drop e.kids.length))[i]?=some (a.1,c):=by
   unfold Zbk;rw[qah,ha,qad,hc]
  have hg:=ZbX hzl hi;rw[ha]at hg;have hs:=ZbU hzl hz;have hln:=ZbV (i:=i) hzl;rw[<-hs];generalize (Zbk e.arms (cs.drop e.kids.length)).take i++e.arms.drop i=zz at hg hln |-;have hset:=Zch zz i (a.1,c);have hsp:=ZjR a c;have hnb:Zan (intV ((e.kids.length:Int)+i)) cs.length=some (e.kids.length+i):=natBelow_cast (k:=.i64) (n:=e.kids.length+i) (by omega);unfold Zvq
  simp(maxSteps:=4000000) (disch:=first|exact zd|fail) [hi,hg,hln,hc,hnb,hsp,hset,Zbg,-getElem?_pos]
 .have ht:(Zbk e.arms (cs.drop e.kids.length)).take e.arms.length++e.arms.drop e.arms.length=Zbk e.arms (cs.drop e.kids.length):=by
   rw[qaN,qI,qi (by omega)]
  rw[ht];unfold Zvq;simp(maxSteps:=4000000) (disch:=first|exact zd|fail) [hzl,-getElem?_pos]
def ZdN (l:List (ArmH×Exp)):List (ArmH×Exp):=l.map fun a=>(⟨0,a.1.con,a.1.vars⟩,a.2)
@[simp] theorem armsP_len (l:List (ArmH×Exp)):(ZdN l).length=l.length:=by simp[ZdN]
theorem Zg7 (a:ArmH×Exp):splice (wc (ZaD a)) 0 [W.c (.int .i64 0)]=some (wc (ZaD ((⟨0,a.1.con,a.1.vars⟩:ArmH),a.2))):=by
 rw[ZaD,ZaD,Exp.row_eq a.2];rfl
theorem Zku (e:Exp):ZdN (Zbk e.arms ((e.children.map Zak).drop e.kids.length))=(Zak e).arms:=by
 obtain⟨_,_,_,_,_,h6,_,h8⟩:=ZaX e;have hd:(e.children.map Zak).drop e.kids.length=e.arms.map fun a=>Zak a.2:=by simp[Exp.children]
 refine qG fun i=>?_;rw[h8,hd];unfold ZdN Zbk;rw[qp,qah,qp];cases e.arms[i]?<;>rfl
theorem ZjF (e:Exp):(e.children.map Zak).take e.kids.length=(Zak e).kids:=by
 rw[Zgk];rfl
theorem Zio (e:Exp):wc (Zak e).row=[.c (.int .i64 e.kind),.c (.int .i64 0),.c (.str e.name),.c (.int .i64 e.num),.c (.sl (Exp.rows (Zak e).kids)),.c (.sl (Exp.armRows (Zak e).arms)),.c (.int .i64 e.ty.kind),.c (.str e.ty.name),.c (.int .i64 e.ty.id),.c (.int .i64 e.ty.home),.c (.sl (Ty.rows e.ty.args))]:=by
 obtain⟨h1,h2,h3,h4,_,_,_,_⟩:=ZaX e;have hp:(Zak e).pos=0:=by rw[Zgk];rfl
 rw[Exp.row_eq,h1,h2,h3,h4,hp];rfl
theorem Zzv (e:Exp):e.weight<=1073741824->(K A).call 51 [expV e] []=some (expV (Zak e),[]):=by
 induction e using Exp.ind with
 |h e ih=>
 intro hl;refine fnO v51 ?_;have hle:=e.children_le;rw[e.children_len]at hle;have hc:=Zck (A:=A) e (by omega);have hml:(e.children.map Zak).length=e.children.length:=by simp
 have hw:=ZyK (A:=A) e (e.children.map Zak) (by rw[hml,e.children_len]) hl;have hal:(Zbk e.arms ((e.children.map Zak).drop e.kids.length)).length=e.arms.length:=by rw[armsW_len,qZ,hml,e.children_len];omega
 rw[ZjF]at hw;have hks:(Zak e).kids.length=e.kids.length:=(ZaX e).2.2.2.2.1;have has:(Zak e).arms.length=e.arms.length:=(ZaX e).2.2.2.2.2.1;unfold v51;simp(maxSteps:=4000000) (disch:=first|exact zd|fail) [hc,-getElem?_pos];refine Zaj (fun i=>⟨[(1,.sc (.ptr 64 0)),(2,.sc (.ptr 128 0)),(3,.sc (.arr 288 e.children.length)),(4,intV i)],
  [(64,some (.box (wc e.row))),(128,some (.box [zi,zi,zs,zi,.nil,.nil,zi,zs,zi,zi,.nil])),(288,some (.arr 11 (wr (Exp.rows ((e.children.map Zak).take i++e.children.drop i))) 0))]⟩) e.children.length ?_ ?_ ?_
 .simp
 .intro i hi
  obtain⟨x,hx⟩:=Zaa hi;have hmem:=qb hx;have hrec:=ih x hmem (by have:=Exp.child_lt hmem;omega);have hz:(e.children.map Zak)[i]?=some (Zak x):=by simp[hx]
  have hg:=ZbX hml hi;rw[hx]at hg;have hs:=ZbU hml hz;have hln:=ZbV (i:=i) hml;rw[<-hs];generalize (e.children.map Zak).take i++e.children.drop i=zz at hg hln |-;have hset:=Zdc zz i (Zak x);have hi':(i:Int)<(e.kids.length:Int)+e.arms.length:=by rw[e.children_len]at hi;omega
  rw[e.children_len]at hln hi;unfold Zv1;simp(maxSteps:=4000000) (disch:=first|exact zd|fail) [hi,hi',hg,hln,hrec,hset,Zbg,-getElem?_pos]
 .have ht:(e.children.map Zak).take e.children.length++e.children.drop e.children.length=e.children.map Zak:=by
   rw[qaN,qI,qi (by omega)]
  rw[ht];unfold Zv1;simp(maxSteps:=4000000) (disch:=first|exact zd|fail) [hw,hml,-getElem?_pos];have hsa:=Zku e;generalize Zbk e.arms ((e.children.map Zak).drop e.kids.length)=ws at *
  have hpl:(ZdN ws).length=ws.length:=armsP_len ws;refine Zaj (fun i=>⟨[(2,.sc (.ptr 128 0)),(5,.sc (.ptr 1664 0)),(6,intV i)],
   [(128,some (.box [zi,zi,zs,zi,.nil,.nil,zi,zs,zi,zi,.nil])),(288,some (.arr 11 (wr (Exp.rows (e.children.map Zak))) (e.kids.length+e.arms.length))),(1632,some (.arr 11 (wr (Exp.rows (Zak e).kids)) 0)),
     (1633,some (.arr 14 (wr (Exp.armRows ((ZdN ws).take i++ws.drop i))) 0)),
     (1664,some (.box [.c (.int .i64 e.kind),zi,.c (.str e.name),.c (.int .i64 e.num),.arr 1632 e.kids.length,.arr 1633 e.arms.length,.c (.int .i64 e.ty.kind),.c (.str e.ty.name),.c (.int .i64 e.ty.id),.c (.int .i64 e.ty.home),.c (.sl (Ty.rows e.ty.args))]))]⟩) e.arms.length ?_ ?_ ?_
  .simp
  .intro i hi
   obtain⟨a,ha⟩:=Zaa (l:=ws) (i:=i) (by omega);have hz:(ZdN ws)[i]?=some ((⟨0,a.1.con,a.1.vars⟩:ArmH),a.2):=by
    unfold ZdN;rw[qp,ha];rfl
   have hg:=ZbX (i:=i) hpl (by omega);rw[ha]at hg;have hs:=ZbU hpl hz;have hln:=ZbV (i:=i) hpl;rw[<-hs];generalize (ZdN ws).take i++ws.drop i=zz at hg hln |-;have hset:=Zch zz i ((⟨0,a.1.con,a.1.vars⟩:ArmH),a.2);have hsp:=Zg7 a;have hln2:zz.length=e.arms.length:=(by omega);unfold ZA1;simp(maxSteps:=4000000) (disch:=first|exact zd|fail) [hi,hg,hln2,hsp,hset,Zbg,-getElem?_pos]
  .have ht:(ZdN ws).take e.arms.length++ws.drop e.arms.length=(Zak e).arms:=by
    rw[<-hal,qaN,qI,qi (by omega),hsa]
   rw[ht];have hsr:=Zio e;unfold ZA1;simp(maxSteps:=4000000) (disch:=first|exact zd|fail) [hsr,hks,has,-getElem?_pos]
end Go.Vs.Tryz
namespace Go.Vs
open Go
section
variable {C:Ctx}{E:Nat->Option V}{L:Nat->Option Obj}{oid:Nat}
def mkSK (oid s bytes:Nat)(zero:List W)(v:V):Option (V×Upd):=match Zxe v with
 |some (.ofNat m)=>bif Nat.ble (m*bytes) ZbK&&zero.length==s&&Nat.blt 0 s&&Nat.ble m ZaH then
  some (.sc (.arr oid m),[(oid,some (.arr s (List.replicate m zero) 0))]) else none
 |_=>none
@[simp] theorem x_mkS {s bytes:Nat} {zero:List W} {n:Opd}:Zag C E L oid (.mkS s bytes zero n)=newK (L oid) (mkSK oid s bytes zero (n.val C E)):=by
 simp only[Zag,newK,mkSK];cases L oid with
 |some _=>rfl
 |none=>
  cases Zxe (n.val C E)with
  |none=>rfl
  |some z=>cases z<;>rfl
@[simp] theorem mkSK_nat {s bytes m:Nat} {zero:List W} {k:IntKind} (h1:m*bytes<=140737488355328) (h2:zero.length=s) (h3:0<s) (h4:m<=9223372036854775807):mkSK oid s bytes zero (.sc (.c (.int k (m:Int))))=some (.sc (.arr oid m),[(oid,some (.arr s (List.replicate m zero) 0))]):=by
 have e:mkSK oid s bytes zero (.sc (.c (.int k (m:Int))))=bif Nat.ble (m*bytes) ZbK&&zero.length==s&&Nat.blt 0 s&&Nat.ble m ZaH then
  some (.sc (.arr oid m),[(oid,some (.arr s (List.replicate m zero) 0))]) else none:=rfl
 rw[e,qT (by unfold ZbK;exact h1),qT (by unfold ZaH;exact h4),show Nat.blt 0 s=true from qT h3,h2];simp
end
end Go.Vs
namespace Go.Vs.Tryz
open Go Go.Vs
variable {A:Zab}
theorem Zlb (l:List Str)(s:Str)(h:l.length<=1073741824):(K A).call 108 [ZaF l,strV s] []=some (intV (rlast l s),[]):=by
 refine fnO v108 ?_;unfold v108;have hp:=ZhQ l.reverse s;rw[qao]at hp;simp(disch:=first|exact zd|fail);refine Zaj (fun i=>⟨[(0,ZaF l),(1,strV s),(5,intV ((l.length:Int)-1-i))],[]⟩) (Zbw l.reverse s) ?_ ?_ ?_
 .simp
 .intro i hi
  obtain⟨x,hx,hne⟩:=ZfT hi;have hlt:i<l.length:=by omega
  rw[ZfK hlt]at hx;have hc:(l.length:Int)-1-i=((l.length-1-i:Nat):Int):=by omega
  have hc2:(l.length:Int)-1-(i+1)=((l.length-1-i:Nat):Int)-1:=by omega
  unfold ZvT;simp(disch:=first|exact zd|fail) [hc,hc2,hx,hne,-getElem?_pos]
 .unfold ZvT
  by_cases hm:Zbw l.reverse s<l.length
  .have hx:=Zeh (l:=l.reverse) (s:=s) (by simpa using hm)
   have hmem:s∈l:=by
    have:=Za7.1 (show Zbw l.reverse s<l.reverse.length by simpa using hm);simpa using this
   rw[ZfK hm]at hx;have hc:(l.length:Int)-1-(Zbw l.reverse s:Nat)=((l.length-1-Zbw l.reverse s:Nat):Int):=(by omega);simp(disch:=first|exact zd|fail) [hc,hx,hmem,rlast,-getElem?_pos]
  .have hn:s∉l:=fun h=>hm (by have:=Za7.2 (qav.2 h);simpa using this)
   have hc:(l.length:Int)-1-(Zbw l.reverse s:Nat)=-1:=(by omega);simp(disch:=first|exact zd|fail) [hc,hn,rlast,-getElem?_pos]
def Zfj (taken:List Str)(n:Nat)(l:List (ArmH×Exp)):List (ArmH×Exp):=l.map fun a=>(⟨a.1.pos,a.1.con,news taken n a.1.vars.length⟩,a.2)
@[simp] theorem armsN_len (taken:List Str) (n:Nat) (l:List (ArmH×Exp)):(Zfj taken n l).length=l.length:=by simp[Zfj]
theorem ZnO (a:ArmH×Exp)(vs:List Str):splice (wc (ZaD a)) 2 [W.c (.sl (Zai vs))]=some (wc (ZaD ((⟨a.1.pos,a.1.con,vs⟩:ArmH),a.2))):=by
 rw[ZaD,ZaD,Exp.row_eq a.2];rfl
theorem Zh4 (l:List Str)(i:Nat)(x:Str):setRow (wr (Zai l)) i [W.c (.str x)]=wr (Zai (l.set i x)):=by
 rw[setRow_set];simp[Zai,wr,qaZ,Zgx]
theorem Zxq (n:Nat):List.replicate n [zs]=wr (Zai (List.replicate n [])):=by
 simp[wr,Zai,Zgx]
theorem Zqw (taken:List Str)(e:Exp)(old names:List Str):Zfj taken old.length (Zbk e.arms ((Za8 taken e old names).drop e.kids.length))=
 List.zipWith (fun(a:ArmH×Exp) c=>((⟨a.1.pos,a.1.con,news taken old.length a.1.vars.length⟩:ArmH),c)) e.arms ((Za8 taken e old names).drop e.kids.length):=by
 unfold Zfj Zbk;rw[List.map_zipWith]
theorem ZsB (taken:List Str)(n k:Nat):news taken n (k+1)=news taken n k++[Zax (n+k) taken]:=by
 simp[news,List.range_succ]
abbrev Zc7:Obj:=.box [zi,zi,zs,zi,.nil,.nil,zi,zs,zi,zi,.nil]
theorem Znb (taken:List Str)(ht:taken.length<=500000)(e:Exp):∀old names:List Str,e.wf->names.length=old.length->old.length+e.weight<=500000->
 (K A).call 57 [expV e,ZaF taken,ZaF old,ZaF names] []=some (expV (Zcc taken e old names),[]):=by
 induction e using Exp.ind with
 |h e ih=>
 intro old names hw hn hl;refine fnO v57 ?_;have hle:=e.children_le;rw[e.children_len]at hle;by_cases hk:e.kind=1
 .have hp:=Zlb (A:=A) old e.name (by omega)
  rw[Zdi hk];by_cases hm:e.name∈old
  .obtain⟨q1,q2⟩:0<=rlast old e.name/\rlast old e.name<old.length:=by
    refine⟨Zdl hm,?_⟩;unfold rlast;rw[if_pos hm];have:=Za7.2 (qav.2 hm);rw[qao]at this;omega
   obtain⟨k,hk2⟩:∃k:Nat,rlast old e.name=k:=⟨(rlast old e.name).toNat,by omega⟩;obtain⟨s,hs⟩:=Zaa (l:=names) (i:=k) (by omega);rw[hk2]at hp
   have hrow:wc (Exp.mk e.kind e.pos s e.num e.kids e.arms e.ty).row=[.c (.int .i64 e.kind),.c (.int .i64 e.pos),.c (.str s),.c (.int .i64 e.num),.c (.sl (Exp.rows e.kids)),.c (.sl (Exp.armRows e.arms)),.c (.int .i64 e.ty.kind),.c (.str e.ty.name),.c (.int .i64 e.ty.id),.c (.int .i64 e.ty.home),.c (.sl (Ty.rows e.ty.args))]:=(by rw[Exp.row_eq];rfl)
   have hrow0:wc e.row=[.c (.int .i64 e.kind),.c (.int .i64 e.pos),.c (.str e.name),.c (.int .i64 e.num),.c (.sl (Exp.rows e.kids)),.c (.sl (Exp.armRows e.arms)),.c (.int .i64 e.ty.kind),.c (.str e.ty.name),.c (.int .i64 e.ty.id),.c (.int .i64 e.ty.home),.c (.sl (Ty.rows e.ty.args))]:=(by rw[Exp.row_eq];rfl);rw[if_pos q1,hk2,qac,hs,qbn];have hrow1:=hrow;rw[hk]at hrow1;unfold v57
   simp(maxSteps:=4000000) (disch:=first|exact zd|fail) [hk,hp,hs,hrow1,hrow0,-getElem?_pos]
  .have hr:rlast old e.name=-1:=Zb5 hm
   rw[hr]at hp;rw[hr,if_neg (by decide)];unfold v57;simp(maxSteps:=4000000) (disch:=first|exact zd|fail) [hk,hp,-getElem?_pos]
 .rw [ZcW hk]
  have hc:=Zck (A:=A) e (by omega);have hcl:=canonC_len taken e old names;unfold v57;simp(maxSteps:=4000000) (disch:=first|exact zd|fail) [hk,hc,-getElem?_pos];refine Zaj (fun i=>⟨[(1,ZaF taken),(2,ZaF old),(3,ZaF names),(4,.sc (.ptr 64 0)),(8,.sc (.ptr 128 0)),(10,.sc (.arr 1440 e.children.length)),(11,.sc (.arr 1537 i)),(12,intV i)],
   [(64,some (.box (wc e.row))),(128,some Zc7),(1440,some (.arr 11 (wr (Exp.rows e.children)) 0)),(1537,some (.arr 11 (wr (Exp.rows ((Za8 taken e old names).take i))) 0))]⟩) e.children.length ?_ ?_ ?_
  .simp
  .intro i hi
   obtain⟨x,hx⟩:=Zaa hi;have hmem:=qb hx;have hxw:=Exp.child_lt hmem;have hbc:=Zdp hx;have hb:=ZkY (A:=A) e i hw.one hi (by omega);have hcx:=Zec (taken:=taken) (old:=old) (names:=names) hx;have hrec:=ih x hmem (old++e.bound i) (names++news taken old.length (e.bound i).length) (hw.child hmem) (by simp[hn]) (by simp;omega);generalize e.bound i=b at *
   rw[Zaq hcx];have hi':(i:Int)<(e.kids.length:Int)+e.arms.length:=(by rw[e.children_len]at hi;omega);have hctl:((Za8 taken e old names).take i).length=i:=(by rw[qS,hcl];rw[e.children_len]at hi;omega);generalize (Za8 taken e old names).take i=cs at *
   unfold Zm1;simp(maxSteps:=4000000) (disch:=first|exact zd|fail) [hi',hx,hb,hctl,hn,-getElem?_pos];refine Zaj (fun k=>⟨[(1,ZaF taken),(2,ZaF old),(3,ZaF names),(4,.sc (.ptr 64 0)),(8,.sc (.ptr 128 0)),(10,.sc (.arr 1440 e.children.length)),(11,.sc (.arr 1537 i)),(12,intV i),(13,.sc (.arr 1984 (old.length+k))),(14,.sc (.arr 2112 (old.length+k))),(15,ZaF b),(16,intV k)],
    [(64,some (.box (wc e.row))),(128,some Zc7),(1440,some (.arr 11 (wr (Exp.rows e.children)) 0)),(1537,some (.arr 11 (wr (Exp.rows cs)) 0)),(1984,some (.arr 1 (wr (Zai (old++b.take k))) 0)),(2112,some (.arr 1 (wr (Zai (names++news taken old.length k))) 0))]⟩) b.length ?_ ?_ ?_
   .simp[news]
   .intro k hk3
    obtain⟨s,hs⟩:=Zaa hk3;have hf:=Znr (A:=A) (old.length+k) taken (by omega) (by omega);have hbk:(b.take k).length=k:=(by simp;omega);rw[show((old.length+k:Nat):Int)=(old.length:Int)+k by omega]at hf;rw[ZsB,Zaq hs];unfold Zqi;simp(maxSteps:=4000000) (disch:=first|exact zd|fail) [hk3,hs,hf,hbk,hn,qbg,-getElem?_pos]
   .have hbt:b.take b.length=b:=qi (by omega)
    rw[hbt];unfold Zqi;simp(maxSteps:=4000000) (disch:=first|exact zd|fail) [hrec,hx,hctl,hn,-getElem?_pos]
  .have hcl2:(Za8 taken e old names).length=e.children.length:=by rw [hcl,e.children_len]
   have ht2:(Za8 taken e old names).take e.children.length=Za8 taken e old names:=qi (by omega);rw[ht2];have hwith:=ZyK (A:=A) e (Za8 taken e old names) hcl (by omega);have harm:=Zqw taken e old names;obtain⟨ws,hws⟩:∃ws,ws=Zbk e.arms ((Za8 taken e old names).drop e.kids.length):=⟨_,rfl⟩;have hwl:ws.length=e.arms.length:=(by rw[hws,armsW_len,qZ,hcl];omega);have hwv:∀a∈ws,a.1.vars.length<=e.weight:=by
    intro a ha;obtain⟨j,hj⟩:=qh.1 ha;rw[hws]at hj;unfold Zbk at hj;rw[qah]at hj;cases h1:e.arms[j]? with
    |none=>rw[h1]at hj;simp at hj
    |some b=>
     rw[h1]at hj;cases h2:((Za8 taken e old names).drop e.kids.length)[j]? with
     |none=>rw[h2]at hj;simp at hj
     |some c=>
      rw[h2]at hj;simp only[qc]at hj;subst hj;have hb:=Exp.vars_le (e:=e) (a:=b) (qb h1);exact hb
   rw[<-hws]at hwith harm;rw[<-harm];have hkl:((Za8 taken e old names).take e.kids.length).length=e.kids.length:=(by rw[qS,hcl];omega);generalize (Za8 taken e old names).take e.kids.length=ks at *
   have hf0:=Znr (A:=A) old.length taken (by omega) (by omega);have fin:∀nm:Str,wp (K A) (.loop Zx3) (Zb2 4 (ZdP (K A) (.seq (.region [] [o 139 (.load true 11 (tv 17)),on (.store 11 (tv 8) (tv 139) [])] [] [8]) .ret) (Zgp false 0 [.cell 8 true 11] (expV (.mk e.kind e.pos nm e.num ks (Zfj taken old.length ws) e.ty),[]))))
    ⟨[(1,ZaF taken),(2,ZaF old),(8,.sc (.ptr 128 0)),(17,.sc (.ptr 5248 0)),(18,intV 0)],
      [(128,some Zc7),(1440,some (.arr 11 (wr (Exp.rows e.children)) 0)),(1537,some (.arr 11 (wr (Exp.rows (Za8 taken e old names))) (e.kids.length+e.arms.length))),(5216,some (.arr 11 (wr (Exp.rows ks)) 0)),(5217,some (.arr 14 (wr (Exp.armRows ws)) 0)),
        (5248,some (.box [.c (.int .i64 e.kind),.c (.int .i64 e.pos),.c (.str nm),.c (.int .i64 e.num),.arr 5216 e.kids.length,.arr 5217 e.arms.length,.c (.int .i64 e.ty.kind),.c (.str e.ty.name),.c (.int .i64 e.ty.id),.c (.int .i64 e.ty.home),.c (.sl (Ty.rows e.ty.args))]))]⟩:=by
    intro nm;generalize Za8 taken e old names=cc;have hpl:(Zfj taken old.length ws).length=ws.length:=armsN_len _ _ _;refine Zaj (fun i=>⟨[(1,ZaF taken),(2,ZaF old),(8,.sc (.ptr 128 0)),(17,.sc (.ptr 5248 0)),(18,intV i)],
     [(128,some Zc7),(1440,some (.arr 11 (wr (Exp.rows e.children)) 0)),(1537,some (.arr 11 (wr (Exp.rows cc)) (e.kids.length+e.arms.length))),(5216,some (.arr 11 (wr (Exp.rows ks)) 0)),(5217,some (.arr 14 (wr (Exp.armRows ((Zfj taken old.length ws).take i++ws.drop i))) 0)),
       (5248,some (.box [.c (.int .i64 e.kind),.c (.int .i64 e.pos),.c (.str nm),.c (.int .i64 e.num),.arr 5216 e.kids.length,.arr 5217 e.arms.length,.c (.int .i64 e.ty.kind),.c (.str e.ty.name),.c (.int .i64 e.ty.id),.c (.int .i64 e.ty.home),.c (.sl (Ty.rows e.ty.args))]))]⟩) e.arms.length ?_ ?_ ?_
    .simp
    .intro i hi
     obtain⟨a,ha⟩:=Zaa (l:=ws) (i:=i) (by omega);have hav:=hwv a (qb ha);have hz:(Zfj taken old.length ws)[i]?=some ((⟨a.1.pos,a.1.con,news taken old.length a.1.vars.length⟩:ArmH),a.2):=by
      unfold Zfj;rw[qp,ha];rfl
     have hg:=ZbX (i:=i) hpl (by omega);rw[ha]at hg;have hs:=ZbU hpl hz;have hln:=ZbV (i:=i) hpl;rw[<-hs];generalize (Zfj taken old.length ws).take i++ws.drop i=zz at hg hln |-;have hset:=Zch zz i ((⟨a.1.pos,a.1.con,news taken old.length a.1.vars.length⟩:ArmH),a.2);have hsp:=ZnO a (news taken old.length a.1.vars.length);have hln2:zz.length=e.arms.length:=(by omega)
     have hrl:(List.replicate a.1.vars.length ([]:Str)).length=a.1.vars.length:=(by simp);have hnl:(news taken old.length a.1.vars.length).length=(List.replicate a.1.vars.length ([]:Str)).length:=(by simp);unfold Zx3;simp(maxSteps:=4000000) (disch:=first|exact zd|fail) [hi,hg,hln2,Zxq,Zbg,-getElem?_pos]
     refine Zaj (fun k=>⟨[(1,ZaF taken),(2,ZaF old),(8,.sc (.ptr 128 0)),(17,.sc (.ptr 5248 0)),(18,intV i),(19,.sc (.arr 7424 a.1.vars.length)),(20,intV k)],
      [(128,some Zc7),(1440,some (.arr 11 (wr (Exp.rows e.children)) 0)),(1537,some (.arr 11 (wr (Exp.rows cc)) (e.kids.length+e.arms.length))),(5216,some (.arr 11 (wr (Exp.rows ks)) 0)),(5217,some (.arr 14 (wr (Exp.armRows zz)) 0)),
        (5248,some (.box [.c (.int .i64 e.kind),.c (.int .i64 e.pos),.c (.str nm),.c (.int .i64 e.num),.arr 5216 e.kids.length,.arr 5217 e.arms.length,.c (.int .i64 e.ty.kind),.c (.str e.ty.name),.c (.int .i64 e.ty.id),.c (.int .i64 e.ty.home),.c (.sl (Ty.rows e.ty.args))])),
        (7424,some (.arr 1 (wr (Zai ((news taken old.length a.1.vars.length).take k++(List.replicate a.1.vars.length ([]:Str)).drop k))) 0))]⟩) a.1.vars.length ?_ ?_ ?_
     .simp
     .intro k hk3
      have hz2:=Ze9 (taken:=taken) (n:=old.length) hk3;have hs2:=ZbU hnl hz2;have hln3:=ZbV (i:=k) hnl;have hf:=Znr (A:=A) (old.length+k) taken (by omega) (by omega);rw[show((old.length+k:Nat):Int)=(old.length:Int)+k by omega]at hf;have hg3:=ZbX (i:=k) hnl (by rw[hrl];exact hk3);rw[List.getElem?_replicate,if_pos hk3]at hg3;rw[<-hs2]
      generalize (news taken old.length a.1.vars.length).take k++(List.replicate a.1.vars.length ([]:Str)).drop k=vv at hg3 hln3 |-;rw[hrl]at hln3;have hst:=Zh4 vv k (Zax (old.length+k) taken);unfold ZwA;simp(maxSteps:=4000000) (disch:=first|exact zd|fail) [hk3,hf,hln3,hg3,hst,Zbg,-getElem?_pos]
     .have hend:(news taken old.length a.1.vars.length).take a.1.vars.length++(List.replicate a.1.vars.length ([]:Str)).drop a.1.vars.length=news taken old.length a.1.vars.length:=by
       rw[qi (by simp),qab (by simp),qI]
      rw[hend];unfold ZwA;simp(maxSteps:=4000000) (disch:=first|exact zd|fail) [hi,hg,hln2,hsp,hset,Zbg,-getElem?_pos]
    .have hend:(Zfj taken old.length ws).take e.arms.length++ws.drop e.arms.length=Zfj taken old.length ws:=by
      rw[qi (by omega),qab (by omega),qI]
     rw[hend];have hrow:wc (Exp.mk e.kind e.pos nm e.num ks (Zfj taken old.length ws) e.ty).row=[.c (.int .i64 e.kind),.c (.int .i64 e.pos),.c (.str nm),.c (.int .i64 e.num),.c (.sl (Exp.rows ks)),.c (.sl (Exp.armRows (Zfj taken old.length ws))),.c (.int .i64 e.ty.kind),.c (.str e.ty.name),.c (.int .i64 e.ty.id),.c (.int .i64 e.ty.home),.c (.sl (Ty.rows e.ty.args))]:=(by rw[Exp.row_eq];rfl)
     have hal:(Zfj taken old.length ws).length=e.arms.length:=(by omega);unfold Zx3;simp(maxSteps:=4000000) (disch:=first|exact zd|fail) [hrow,hal,hkl,-getElem?_pos]
   by_cases h4:e.kind=4
   .have f:=fin (Zax old.length taken)
    rw[if_pos (.inl h4)];unfold Zm1;rw[h4]at f hwith;simp(maxSteps:=4000000) (disch:=first|exact zd|fail) [hwith,hcl,hcl2,h4,hf0,-getElem?_pos];exact f
   .by_cases h6:e.kind=6
    .have f:=fin (Zax old.length taken)
     rw[if_pos (.inr (.inl h6))];unfold Zm1;rw[h6]at f hwith;simp(maxSteps:=4000000) (disch:=first|exact zd|fail) [hwith,hcl,hcl2,h6,hf0,-getElem?_pos];exact f
    .by_cases h7:e.kind=7
     .have f:=fin (Zax old.length taken)
      rw[if_pos (.inr (.inr h7))];unfold Zm1;rw[h7]at f hwith;simp(maxSteps:=4000000) (disch:=first|exact zd|fail) [hwith,hcl,hcl2,h7,hf0,-getElem?_pos];exact f
     .have f:=fin e.name
      rw[if_neg (by omega)];unfold Zm1;simp(maxSteps:=4000000) (disch:=first|exact zd|fail) [hwith,hcl,hcl2,h4,h6,h7,-getElem?_pos];exact f
variable {A:Zab}
theorem ZnZ (e:Exp)(taken:List Str)(hw:e.wf)(ht:taken.length+e.weight<=500000):
 (K A).call 23 [expV e,ZaF taken] []=some (expV (Zfq e taken),[]):=by
 refine fnO v23 ?_;have h1:=Zzv (A:=A) e (by omega);have h2:=free20 (A:=A) e hw (by omega);have hl:=ZlY e [] [];rw[Zsv e hw]at h2 hl;have h3:=Znb (A:=A) (taken++Zah e) (by simp at hl |-;omega) (Zak e) [] [] (Zgw e hw) rfl (by rw[ZeN];simp;omega);simp[ZaF]at h3;simp at hl;unfold v23 Zfq;simp(maxSteps:=4000000) (disch:=first|exact zd|fail) [h1,h2,h3,-getElem?_pos]
def renTo (k:Nat):List Str:=[[118,49],118::numS (k+2)]
end Go.Vs.Tryz
