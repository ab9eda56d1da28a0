/- Chapters 4 and 11, walked: children. -/
import Derived.Test.YtccmnfpbcmccpaaGreatDoorR0s
import Derived.Test.YtccmnfpbcmccpaaGreatDoorM6s
set_option linter.unusedSimpArgs false
set_option linter.unusedVariables false
set_option linter.deprecated false
set_option maxRecDepth 9999
set_option maxHeartbeats 2000000
namespace Go.Vs.Tryz
open Go Go.Vs
def skip (f:Nat):Bool:=f==11||f==25||f==81
def T2:FuncId->Option VFun:=fun f=>bif skip f then none else T f
theorem T2_ok:∀f vf,T2 f=some vf->mFun Go.Proofs.Tryz.prog f vf=true:=by
 intro f vf h;unfold T2 at h;cases hs:skip f with
 |true=>rw[hs]at h;cases h
 |false=>rw[hs]at h;exact T_ok f vf h
def ZhO (f:Nat):Nat:=bif f==223 then 14 else 1
theorem Zms (f:Nat):0<ZhO f:=by
 unfold ZhO;cases f==223<;>decide
noncomputable def X1:Zab:=fun f args objs=>match objs with
 |_::_=>lim Tc (fun _ _ _=>none) gl0 f args objs
 |[]=>match args with
  |[.sc (.c (.str l))]=>bif f==284&&Nat.ble l.length 281474976710656 then some (.sc (.c (.str l)),[]) else none
  |[.sc (.c (.sl []))]=>bif f==149 then some (.sc (.full []),[]) else bif Zfw f then some (.sc (.arr 0 0),[.arr (ZhO f) [] 0]) else none
  |_=>lim Tc (fun _ _ _=>none) gl0 f args objs
noncomputable def X2 (A:Zab):Zab:=fun f args objs=>bif skip f then A f args objs else X1 f args objs
theorem ZpC {f:FuncId}{args:List V}{objs:List Obj}{rv:V}{objs':List Obj}(h:lim Tc (fun _ _ _=>none) gl0 f args objs=some (rv,objs')):FnOk Go.Proofs.Tryz.prog gl0 f args objs rv objs':=by
 obtain⟨n,h⟩:=Zoa h;exact Zld follows Tc_ok Zyr n h
theorem X2_ok {A:Zab}(hA:∀f args objs rv objs',skip f=true->A f args objs=some (rv,objs')->FnOk Go.Proofs.Tryz.prog gl0 f args objs rv objs'):
 ∀(f:FuncId) (args:List V) (objs:List Obj) (rv:V) (objs':List Obj),X2 A f args objs=some (rv,objs')->FnOk Go.Proofs.Tryz.prog gl0 f args objs rv objs':=by
 intro f args objs rv objs' h;unfold X2 at h;cases hs:skip f with
 |true=>rw[hs]at h;exact hA _ _ _ _ _ hs h
 |false=>
  rw[hs]at h;simp only[cond_false]at h;unfold X1 at h;split at h
  .exact ZpC h
  .split at h
   .rename_i l
    cases hc:(f==284&&Nat.ble l.length 281474976710656)with
    |false=>rw[hc]at h;cases h
    |true=>
     rw[hc]at h;simp only[cond_true,qb,qg]at h;simp only[qc,beq_iff_eq]at hc;obtain⟨rfl,rfl⟩:=h;obtain⟨rfl,hl⟩:=hc;exact ok202 (qm hl)
   .cases h140:f == 149 with
    |true=>
     rw[h140]at h;simp only[cond_true,qb,qg]at h;obtain⟨rfl,rfl⟩:=h;have:f=149:=(by simpa using h140);subst this;exact Zkq rfl
    |false=>
     rw[h140]at h;simp only[cond_false]at h;cases hc:Zfw f with
     |false=>rw[hc]at h;cases h
     |true=>
      rw[hc]at h;simp only[cond_true,qb,qg]at h;obtain⟨rfl,rfl⟩:=h;exact(Zkq hc).owned (Zms f)
   .exact ZpC h
noncomputable def K (A:Zab):Ctx:=⟨lim T2 (X2 A) gl0,gl0⟩
noncomputable def Kc:Ctx:=⟨lim Tc (fun _ _ _=>none) gl0,gl0⟩
@[simp] theorem K_gl {A:Zab}:(K A).gl=gl0:=rfl
@[simp] theorem Kc_gl:Kc.gl=gl0:=rfl
theorem K_ok {A:Zab}(hA:∀f args objs rv objs',skip f=true->A f args objs=some (rv,objs')->FnOk Go.Proofs.Tryz.prog gl0 f args objs rv objs')
 {f:FuncId}{args:List V}{objs:List Obj}{rv:V}{objs':List Obj}(h:(K A).call f args objs=some (rv,objs')):FnOk Go.Proofs.Tryz.prog gl0 f args objs rv objs':=by
 obtain⟨n,h⟩:=Zoa h;exact Zld follows T2_ok (X2_ok hA) n h
variable {A:Zab}
theorem Zaj {f:FuncId}{vf:VFun}{args:List V}{objs:List Obj}{r:V×List Obj}(hT:T2 f=some vf)(hn:args.length=vf.nparams)(ho:objs.length<=64)
 (h:wp (K A) vf.body (Zg0 vf.keep objs.length vf.results r) ⟨ZbT 0 args,ZbT 0 (objs.map some)⟩):(K A).call f args objs=some r:=ZoW hT hn ho h
theorem fnO {f:FuncId}{args:List V}{objs:List Obj}{r:V×List Obj}(vf:VFun)(h:wp (K A) vf.body (Zg0 vf.keep objs.length vf.results r) ⟨ZbT 0 args,ZbT 0 (objs.map some)⟩)(hT:T2 f=some vf:=by kernel_rfl)(hn:args.length=vf.nparams:=by rfl)(ho:objs.length<=64:=by simp):(K A).call f args objs=some r:=Zaj hT hn ho h
theorem zd{p:Prop}(h:p:=by first|omega|(simp;done)|(simp;omega)):p:=h
theorem ZkX {f:FuncId}{vf:VFun}{args:List V}{objs:List Obj}{r:V×List Obj}(hT:Tc f=some vf)(hn:args.length=vf.nparams)(ho:objs.length<=64)
 (h:wp Kc vf.body (Zg0 vf.keep objs.length vf.results r) ⟨ZbT 0 args,ZbT 0 (objs.map some)⟩):Kc.call f args objs=some r:=ZoW hT hn ho h
theorem ZgO {f:FuncId}(hs:skip f=false)(hT:T2 f=none){c:List Cell}{rows:List (List Cell)}:(K A).call f [.sc (.c (.sl (c::rows)))] []=Kc.call f [.sc (.c (.sl (c::rows)))] []:=by
 have h:X2 A f [.sc (.c (.sl (c::rows)))] []=Kc.call f [.sc (.c (.sl (c::rows)))] []:=by
  unfold X2;rw[hs];rfl
 rw[<-h];cases hx:X2 A f [.sc (.c (.sl (c::rows)))] []with
 |some r=>exact Zsi hT hx
 |none=>
  cases hk:(K A).call f [.sc (.c (.sl (c::rows)))] []with
  |none=>rfl
  |some r=>
   obtain⟨n,hn⟩:=Zoa hk;cases n with
   |zero=>cases hn
   |succ n=>
    simp only[Zb9,hT]at hn;rw[hx]at hn;cases hn
theorem ZtF:(K A).call 149 [.sc (.c (.sl []))] []=some (.sc (.full []),[]):=by
 refine Zsi (by kernel_rfl) ?_;simp only[X2,X1,show skip 149=false from rfl,cond_false,show(149==149)=true from rfl,cond_true]
theorem ZlV {f:FuncId}(hs:skip f=false)(hT:T2 f=none)(h140:(f==149)=false)(hf:Zfw f=true):(K A).call f [.sc (.c (.sl []))] []=some (.sc (.arr 0 0),[.arr (ZhO f) [] 0]):=by
 refine Zsi hT ?_;simp only[X2,X1,hs,cond_false,h140,hf,cond_true]
theorem ZbS (e:Exp)(h:e.kids.length+e.arms.length<=4294967296):(K A).call 46 [.ag (wc e.row)] []=some (.sc (.arr 0 e.children.length),[.arr 11 (wr (Exp.rows e.children)) 0]):=by
 refine Zaj (vf:=v46) (by kernel_rfl) rfl (by decide) ?_;unfold v46;simp(disch:=first|exact zd|fail);refine Zak (fun i=>⟨[(1,.sc (.ptr 64 0)),(3,.sc (.arr 320 (e.kids.length+i))),(4,.sc (.c (.int .i64 i)))],
  [(64,some (.box (wc e.row))),(320,some (.arr 11 (wr (Exp.rows (e.kids++(e.arms.map (·.2)).take i))) 0))]⟩) e.arms.length ?_ ?_ ?_
 .simp
 .intro i hi
  obtain⟨x,hx⟩:=Zaa hi;have hx':(e.arms.map (·.2))[i]?=some x.2:=by simp[hx]
  unfold Zz1;simp(disch:=first|exact zd|fail) [hi,hx,Zam hx',qaE,-getElem?_pos]
 .unfold Zz1
  have ht:(e.arms.map (·.2)).take e.arms.length=e.arms.map (·.2):=qf (by simp);simp(disch:=first|exact zd|fail) [Exp.children,ht]
variable {A:Zab}
abbrev Za3 (l:List Str):V:=.sc (.c (.sl (Zai l)))
abbrev strV (s:Str):V:=.sc (.c (.str s))
abbrev intV (n:Int):V:=.sc (.c (.int .i64 n))
abbrev Zae (b:Bool):V:=.sc (.c (.bool b))
abbrev expV (e:Exp):V:=.ag (wc e.row)
@[simp] theorem wc_strRow (s:Str):wc (ZeN s)=[.c (.str s)]:=rfl
@[simp] theorem wc_intRow (n:Int):wc (Zhi n)=[.c (.int .i64 n)]:=rfl
def ZbZ (l:List Str)(s:Str):Nat:=l.findIdx (· == s)
theorem ZhS {l:List Str}{s:Str}{i:Nat}(h:i<ZbZ l s):∃x,l[i]?=some x/\¬x=s:=by
 have hlt:i<l.length:=qaq h List.findIdx_le_length;refine⟨l[i],qh hlt,?_⟩;have:=List.not_of_lt_findIdx h;simpa using this
theorem ZfX {l:List Str}{s:Str}(h:ZbZ l s<l.length):l[ZbZ l s]?=some s:=by
 have h1:=List.findIdx_getElem (w:=h);rw[qh h];exact congrArg some (beq_iff_eq.1 h1)
theorem ZcT {l:List Str}{s:Str}:ZbZ l s<l.length↔s∈l:=by
 unfold ZbZ;rw[List.findIdx_lt_length];simp
theorem Zkt (l:List Str)(s:Str):ZbZ l s<=l.length:=List.findIdx_le_length
theorem ZmU (l:List Str)(s:Str)(h:l.length<=4294967296):(K A).call 166 [Za3 l,strV s] []=some (Zae (decide (s∈l)),[]):=by
 refine Zaj (vf:=v166) (by kernel_rfl) rfl (by decide) ?_;unfold v166;have hp:=Zkt l s;simp(disch:=first|exact zd|fail);refine Zak (fun i=>⟨[(0,Za3 l),(1,strV s),(5,intV i)],[]⟩) (ZbZ l s) ?_ ?_ ?_
 .simp
 .intro i hi
  obtain⟨x,hx,hne⟩:=ZhS hi;have hlt:i<l.length:=by omega
  unfold Zud;simp(disch:=first|exact zd|fail) [hx,hne,hlt,-getElem?_pos]
 .unfold Zud
  by_cases hm:ZbZ l s<l.length
  .have hx:=ZfX hm
   simp(disch:=first|exact zd|fail) [hx,hm,ZcT.1 hm,-getElem?_pos]
  .have hn:s∉l:=fun h=>hm (ZcT.2 h)
   simp(disch:=first|exact zd|fail) [hm,hn,-getElem?_pos]
theorem ZBp (l:List Str)(s:Str)(h:l.length<=4294967296):(K A).call 239 [Za3 l,strV s] []=some (intV (if s∈l then (ZbZ l s:Int) else -1),[]):=by
 refine Zaj (vf:=v239) (by kernel_rfl) rfl (by decide) ?_;unfold v239;have hp:=Zkt l s;simp(disch:=first|exact zd|fail);refine Zak (fun i=>⟨[(0,Za3 l),(1,strV s),(7,intV l.length),(8,intV i)],[]⟩) (ZbZ l s) ?_ ?_ ?_
 .simp
 .intro i hi
  obtain⟨x,hx,hne⟩:=ZhS hi;have hlt:i<l.length:=by omega
  have hne':¬s=x:=fun h=>hne h.symm;unfold Zvg;simp(disch:=first|exact zd|fail) [hx,hne',hlt,-getElem?_pos]
 .unfold Zvg
  by_cases hm:ZbZ l s<l.length
  .have hx:=ZfX hm
   simp(disch:=first|exact zd|fail) [hx,hm,ZcT.1 hm,-getElem?_pos]
  .have hn:s∉l:=fun h=>hm (ZcT.2 h)
   simp(disch:=first|exact zd|fail) [hm,hn,-getElem?_pos]
theorem Zb2 (l:List Str)(s:Str)(h:l.length<=4294967296):(K A).call 221 [Za3 l,strV s] []=some (Zae (decide (s∈l)),[]):=by
 refine Zaj (vf:=v221) (by kernel_rfl) rfl (by decide) ?_;unfold v221;have:=ZBp (A:=A) l s h;simp[this];by_cases hn:s∈l<;>simp[hn]
theorem few8 (l:List Int):(K A).call 12 [.sc (.c (.sl (l.map Zhi)))] []=some (Zae (decide (l.length<=60)),[]):=by
 refine Zaj (vf:=v12) (by kernel_rfl) rfl (by decide) ?_;unfold v12;simp;omega
def Zcu:List Str->List Str->Nat
 |a::l,b::m=>if a=b then Zcu l m+1 else 0
 |_,_=>0
theorem Zln:∀{l m:List Str}{i:Nat},i<Zcu l m->∃x,l[i]?=some x/\m[i]?=some x
 |[],_,_,h=>by simp[Zcu]at h
 |_::_,[],_,h=>by simp[Zcu]at h
 |a::l,b::m,i,h=>by
  simp only[Zcu]at h;split at h
  .rename_i hab
   subst hab;cases i with
   |zero=>exact⟨a,rfl,rfl⟩
   |succ i=>simpa using Zln (l:=l) (m:=m) (i:=i) (by omega)
  .omega
theorem Zl4:∀(l m:List Str),Zcu l m<=l.length
 |[],_=>by simp[Zcu]
 |_::_,[]=>by simp[Zcu]
 |a::l,b::m=>by
  simp only[Zcu];split
  .have:=Zl4 l m
   simp only[qG];omega
  .simp
theorem Zl6:∀{l m:List Str},l.length=m.length->Zcu l m<l.length->∃x y,l[Zcu l m]?=some x/\m[Zcu l m]?=some y/\x≠y
 |[],_,_,h=>by simp at h
 |_::_,[],h,_=>by simp at h
 |a::l,b::m,h,h2=>by
  simp only[Zcu]at h2 |-;split
  .rename_i hab
   rw[if_pos hab]at h2;simpa using Zl6 (l:=l) (m:=m) (by simpa using h) (by simpa using h2)
  .rename_i hab
   exact⟨a,b,rfl,rfl,hab⟩
theorem ZiK:∀{l m:List Str},l.length=m.length->(Zcu l m=l.length↔l=m)
 |[],[],_=>by simp[Zcu]
 |[],_::_,h=>by simp at h
 |_::_,[],h=>by simp at h
 |a::l,b::m,h=>by
  simp only[Zcu];split
  .rename_i hab
   have:=ZiK (l:=l) (m:=m) (by simpa using h);simp[hab,this]
  .rename_i hab
   simp[hab]
variable {A:Zab}
theorem ZuC {l:List Exp}(h:l≠[]):∃c rows,Exp.rows l=c::rows:=by
 cases l with
 |nil=>exact absurd rfl h
 |cons e r=>exact⟨e.row,Exp.rows r,by rw[Exp.rows]⟩
theorem Ztz (l:List Exp)(h:l≠[])(hl:l.length<=4294967296):(K A).call 149 [.sc (.c (.sl (Exp.rows l)))] []=some (.sc (.arr 0 l.length),[.arr 11 (wr (Exp.rows l)) 0]):=by
 obtain⟨c,rows,hr⟩:=ZuC h;have hlen:rows.length+1=l.length:=by
  have:=Exp.rows_len l;rw[hr]at this;simpa using this
 have hok:Zbb 11 (wr (c::rows))=true:=hr▸okRows_exp l;rw[hr,ZgO (by kernel_rfl) (by kernel_rfl)];refine ZkX (vf:=v149) (by kernel_rfl) rfl (by decide) ?_;unfold v149;rw[wr_cons]at hok;simp(disch:=first|exact zd|fail) [hok];omega
theorem ZaT (e:Exp)(h1:e.kids=[])(h2:e.arms=[]):(K A).call 99 [expV e] []=some (.sc (.full []),[]):=by
 refine Zaj (vf:=v99) (by kernel_rfl) rfl (by decide) ?_;have hc:=ZtF (A:=A);have hn:Exp.rows []=[]:=by rw[Exp.rows]
 unfold v99;simp[h1,hn,hc];refine Zak (fun i=>⟨[(3,.sc (.full [])),(10,.sc (.c (.sl (Exp.armRows e.arms)))),(11,intV e.arms.length),(12,intV i)],[(64,some (.box (wc e.row)))]⟩) 0 ?_ ?_ ?_
 .simp
 .intro i hi;omega
 .unfold Zxf
  simp[h2]
theorem ZaP (e:Exp)(h:e.kids≠[])(hl:e.weight<=1073741824):(K A).call 99 [expV e] []=some (.sc (.arr 0 e.children.length),[.arr 11 (wr (Exp.rows e.children)) 0]):=by
 refine Zaj (vf:=v99) (by kernel_rfl) rfl (by decide) ?_;have hk:=e.children_le;rw[e.children_len]at hk;have hc:=Ztz (A:=A) e.kids h (by omega);unfold v99;simp[hc];refine Zak (fun i=>⟨[(3,.sc (.arr 352 (e.kids.length+i))),(10,.sc (.c (.sl (Exp.armRows e.arms)))),(11,intV e.arms.length),(12,intV i)],
  [(64,some (.box (wc e.row))),(352,some (.arr 11 (wr (Exp.rows (e.kids++(e.arms.map (·.2)).take i))) 0))]⟩) e.arms.length ?_ ?_ ?_
 .simp
 .intro i hi
  obtain⟨x,hx⟩:=Zaa hi;have hx':(e.arms.map (·.2))[i]?=some x.2:=by simp[hx]
  unfold Zxf;simp(disch:=first|exact zd|fail) [hi,hx,Zam hx',qaE,-getElem?_pos]
 .unfold Zxf
  have ht:(e.arms.map (·.2)).take e.arms.length=e.arms.map (·.2):=qf (by simp);simp(disch:=first|exact zd|fail) [Exp.children,ht]
abbrev Zk5 (i:Int):V:=.sc (.c (.sl [[.int .i64 i]]))
theorem at89 (e x:Exp)(i:Nat)(h:e.kids≠[])(hx:e.children[i]?=some x)(hl:e.weight<=1073741824):(K A).call 237 [expV e,Zk5 i] []=some (.tu [expV x,Zae true],[]):=by
 refine Zaj (vf:=v237) (by kernel_rfl) rfl (by decide) ?_;have hk:=e.children_le;have hi:i<e.children.length:=(qd.1 hx).1;have hi':¬(e.kids.length:Int)+e.arms.length<=i:=by rw[e.children_len]at hi;omega
 have hi2:¬(i:Int)<0:=by omega
 have hc:=ZaP (A:=A) e h hl;rw[e.children_len]at hk hi;unfold v237;simp;refine Zak (fun j=>match j with
  |0=>⟨[(2,.sc (.ptr 64 0)),(4,.sc (.ptr 128 0)),(9,Zk5 i),(10,intV 1),(11,intV 0)],[(64,some (.box (wc e.row))),(128,some (.box [zi,zi,zs,zi,.nil,.nil,zi,zs,zi,zi,.nil]))]⟩
  |_=>⟨[(2,.sc (.ptr 64 0)),(4,.sc (.ptr 128 0)),(9,Zk5 i),(10,intV 1),(11,intV 1)],[(64,some (.box (wc x.row))),(128,some (.box [zi,zi,zs,zi,.nil,.nil,zi,zs,zi,zi,.nil]))]⟩) 1 ?_ ?_ ?_
 .simp
 .intro j hj
  obtain rfl:j=0:=by omega
  unfold Ztv;simp(disch:=first|exact zd|fail) [hc,hi',hi2,hx,-getElem?_pos,qI]
 .unfold Ztv
  simp(disch:=first|exact zd|fail)
theorem ZwM (e:Exp)(i:Nat)(h:e.wf1)(hi:i<e.children.length)(hl:e.weight<=1073741824):(K A).call 255 [expV e,intV i] []=some (Za3 (e.bound i),[]):=by
 refine Zaj (vf:=v255) (by kernel_rfl) rfl (by decide) ?_;have hk:=e.children_le;have hn:Zai []=[]:=rfl;have h1:∀s:Str,Zai [s]=[[.str s]]:=fun _=>rfl;rw[e.children_len]at hk hi;unfold v255;by_cases h4:e.kind=4
 .simp[h4,Exp.bound,h1]
 .by_cases h7:e.kind=7
  .simp[h7,Exp.bound,h1]
  .by_cases h6:e.kind=6
   .by_cases hi1:i=1
    .simp[h6,hi1,Exp.bound,h1]
    .have hi1':¬(i:Int)=1:=by omega
     simp[h6,hi1,hi1',Exp.bound,hn]
   .by_cases h8:e.kind=8
    .have hk1:=h.1 h8
     by_cases hi1:0<i
     .obtain ⟨x,hx⟩:=Zaa (l:=e.arms) (i:=i-1) (by omega)
      have hi2:(1:Int)<=i:=(by omega);have hw:IntKind.i64.wrap ((i:Int)-1)=((i-1:Nat):Int):=(by rw[ZgJ _ (by omega)];omega);simp(disch:=first|exact zd|fail) [h8,hi1,hi2,hk1,hw,hx,Exp.bound,-getElem?_pos]
     .have hi2:¬(1:Int)<=i:=by omega
      simp[h8,hi1,hi2,hk1,Exp.bound,hn]
    .simp[h4,h7,h6,h8,Exp.bound,hn]
theorem Zw8 (s:Str):(K A).call 147 [.sc (.c (.sl [])),.sc (.clo 257 [true] [[.ptr 0 0]])] [.box [.c (.str s)]]=some (intV (-1),[.box [.c (.str s)]]):=by
 refine fnO v147 ?_;unfold v147;simp;refine Zak (fun i=>⟨[(0,.sc (.c (.sl []))),(1,.sc (.clo 257 [true] [[.ptr 0 0]])),(7,intV 0),(8,intV i)],[(0,some (.box [.c (.str s)]))]⟩) 0 ?_ ?_ ?_
 .simp
 .intro i hi;omega
 .unfold Zpu
  simp
theorem Zrr (s:Str):(K A).call 256 [.sc (.arr 0 0),.sc (.clo 257 [true] [[.ptr 1 0]])] [.arr 1 [] 0,.box [.c (.str s)]]=some (.sc (.arr 0 0),[.arr 1 [] 0,.box [.c (.str s)]]):=by
 refine fnO v256 ?_;have h:=Zw8 (A:=A) s;unfold v256;simp[h]
theorem ZAG (e:Exp)(i:Nat)(h:e.wf1)(hi:i<e.children.length)(hl:e.weight<=1073741824):(K A).call 109 [expV e,intV i] []=some (Za3 (e.bound i),[]):=by
 refine Zaj (vf:=v109) (by kernel_rfl) rfl (by decide) ?_;have hk:=e.children_le;have hn:Zai []=[]:=rfl;have h1:∀s:Str,Zai [s]=[[.str s]]:=fun _=>rfl;rw[e.children_len]at hk hi;unfold v109;by_cases h4:e.kind=4
 .simp[h4,Exp.bound,h1]
 .by_cases h7:e.kind=7
  .simp[h7,Exp.bound,h1]
  .by_cases h6:e.kind=6
   .by_cases hi1:i=1
    .simp[h6,hi1,Exp.bound,h1]
    .have hi1':¬(i:Int)=1:=by omega
     simp[h6,hi1,hi1',Exp.bound,hn]
   .by_cases h8:e.kind=8
    .have hk1:=h.1 h8
     by_cases hi1:0<i
     .obtain ⟨x,hx⟩:=Zaa (l:=e.arms) (i:=i-1) (by omega)
      have hi2:(0:Int)<i:=(by omega);have hw:IntKind.i64.wrap ((i:Int)-1)=((i-1:Nat):Int):=(by rw[ZgJ _ (by omega)];omega);simp(disch:=first|exact zd|fail) [h8,hi1,hi2,hk1,hw,hx,Exp.bound,-getElem?_pos]
     .have hi2:¬(0:Int)<i:=by omega
      simp[h8,hi1,hi2,hk1,Exp.bound,hn]
    .simp[h4,h7,h6,h8,Exp.bound,hn]
variable {A:Zab}
theorem ZnB {e:Exp}{i:Nat}(h:¬(e.kind=8/\0<i)):e.bound i=[]\/∃s,e.bound i=[s]:=by
 unfold Exp.bound;rw[if_neg h];split
 .exact .inr ⟨_,rfl⟩
 .exact .inl rfl
theorem Zsc {e:Exp}{i:Nat}(h:e.wf1)(hi:i<e.children.length):e.kids≠[]:=by
 intro hk;rw[e.children_len,hk]at hi;by_cases h8:e.kind=8
 .have:=h.1 h8
  rw[hk]at this;simp at this
 .rw [h.2.1 h8] at hi
  simp at hi
theorem Ztp (e x:Exp)(i:Nat)(h:e.wf1)(hb:¬(e.kind=8/\0<i))(hx:e.children[i]?=some x)(hl:e.weight<=1073741824):(K A).call 238 [expV e,Zk5 i] []=some (Za3 (e.bound i),[]):=by
 refine Zaj (vf:=v238) (by kernel_rfl) rfl (by decide) ?_;have hi:i<e.children.length:=(qd.1 hx).1;have hk:=Zsc h hi;have h51:=ZaP (A:=A) e hk hl;have h89:=at89 (A:=A) e x i hk hx hl;have h135:=ZwM (A:=A) e i h hi hl;have hn:Zai []=[]:=rfl;rw[e.children_len]at hi;have hle:=e.children_le;rw[e.children_len]at hle;unfold v238;simp(disch:=first|exact zd|fail) [h89];refine Zak (fun j=>match j with
  |0=>⟨[(2,.sc (.ptr 64 0)),(7,.sc (.arr 961 0)),(20,Zk5 i),(21,intV 1),(22,intV 0)],[(64,some (.box (wc e.row))),(961,some (.arr 1 [] 0))]⟩
  |_=>⟨[(2,.sc (.ptr 64 0)),(7,.sc (.arr 961 (e.bound i).length)),(20,Zk5 i),(21,intV 1),(22,intV 1)],[(64,some (.box (wc x.row))),(961,some (.arr 1 (wr (Zai (e.bound i))) 0))]⟩) 1 ?_ ?_ ?_
 .simp
 .intro j hj
  obtain rfl:j=0:=by omega
  unfold ZrT;simp(disch:=first|exact zd|fail) [h135,-getElem?_pos,qI];rcases ZnB hb with h0|⟨s,h0⟩
  .rw [h0]
   refine Zak (fun j=>⟨[(2,.sc (.ptr 64 0)),(7,.sc (.arr 961 0)),(20,Zk5 i),(21,intV 1),(22,intV 0),(9,intV i),(28,Za3 []),(29,intV 0),(30,intV j)],[(64,some (.box (wc e.row))),(961,some (.arr 1 [] 0))]⟩) 0 ?_ ?_ ?_
   .simp
   .intro j hj;omega
   .unfold Zmm
    simp(disch:=first|exact zd|fail) [h51,hx,hn,-getElem?_pos]
  .rw [h0]
   have h1:Zai [s]=[[.str s]]:=rfl;have h136:=Zrr (A:=A) s;refine Zak (fun j=>match j with
    |0=>⟨[(2,.sc (.ptr 64 0)),(7,.sc (.arr 961 0)),(20,Zk5 i),(21,intV 1),(22,intV 0),(9,intV i),(28,Za3 [s]),(29,intV 1),(30,intV 0)],[(64,some (.box (wc e.row))),(961,some (.arr 1 [] 0))]⟩
    |_=>⟨[(2,.sc (.ptr 64 0)),(7,.sc (.arr 961 1)),(20,Zk5 i),(21,intV 1),(22,intV 0),(9,intV i),(28,Za3 [s]),(29,intV 1),(30,intV 1)],[(64,some (.box (wc e.row))),(961,some (.arr 1 (wr (Zai [s])) 0))]⟩) 1 ?_ ?_ ?_
   .simp
   .intro j hj
    obtain rfl:j=0:=(by omega);unfold Zmm;simp(disch:=first|exact zd|fail) [h136,h1,-getElem?_pos,qI]
   .unfold Zmm
    simp(disch:=first|exact zd|fail) [h51,hx,-getElem?_pos]
 .unfold ZrT
  simp(disch:=first|exact zd|fail)
theorem Zi2 (e:Exp)(i:Nat)(h:e.wf1)(hi:i<e.children.length)(hl:e.weight<=1073741824):(K A).call 220 [expV e,intV i] []=some (Za3 (e.bound i),[]):=by
 refine Zaj (vf:=v220) (by kernel_rfl) rfl (by decide) ?_;obtain⟨x,hx⟩:=Zaa hi;have hk:=Zsc h hi;have h89:=at89 (A:=A) e x i hk hx hl;rw[e.children_len]at hi;have hle:=e.children_le;rw[e.children_len]at hle;unfold v220;by_cases hb:e.kind=8/\0<i
 .have hk1:=h.1 hb.1
  obtain⟨y,hy⟩:=Zaa (l:=e.arms) (i:=i-1) (by omega);have hi2:(1:Int)<=i:=by omega
  have hw:IntKind.i64.wrap ((i:Int)-1)=((i-1:Nat):Int):=by rw[ZgJ _ (by omega)];omega
  simp(disch:=first|exact zd|fail) [h89,hb,hi2,hk1,hw,hy,Exp.bound,-getElem?_pos]
 .have h90:=Ztp (A:=A) e x i h hb hx hl
  by_cases h8:e.kind=8
  .have hk1:=h.1 h8
   have hi2:¬(1:Int)<=i:=(by omega);simp(disch:=first|exact zd|fail) [h89,h8,hi2,hk1,h90,-getElem?_pos]
  .simp(disch:=first|exact zd|fail) [h89,h8,h90,-getElem?_pos]
variable {A:Zab}
def Zbi (hidden out:List Str)(s:Str):List Str:=if s∈hidden\/s∈out then out else out++[s]
def Zf6 (e:Exp)(out:List Str)(p:List Str×Nat):List Str:=p.1.foldl (Zbi (e.bound p.2)) out
def Zaf (e:Exp):List Str:=e.fold fun e l=>if e.kind=1 then [e.name] else l.zipIdx.foldl (Zf6 e) []
theorem ZcP (e:Exp):Zaf e=if e.kind=1 then [e.name] else (e.children.map Zaf).zipIdx.foldl (Zf6 e) []:=Exp.fold_eq _ e
theorem ZqE (h out:List Str)(s:Str):(Zbi h out s).length<=out.length+1:=by
 unfold Zbi;split<;>simp
theorem ZfQ (h:List Str):∀(l out:List Str),(l.foldl (Zbi h) out).length<=out.length+l.length
 |[],out=>by simp
 |s::l,out=>by
  have h1:=ZqE h out s;have h2:=ZfQ h l (Zbi h out s);simp only[qav,qG];omega
theorem ZfN (e:Exp):∀(l:List (List Str×Nat))(out:List Str),(l.foldl (Zf6 e) out).length<=out.length+(l.map fun p=>p.1.length).sum
 |[],out=>by simp
 |p::l,out=>by
  have h1:(Zf6 e out p).length<=out.length+p.1.length:=ZfQ _ _ _;have h2:=ZfN e l (Zf6 e out p);simp only[qav,qq,qS];omega
theorem ZcS {l:List Nat}{i:Nat}:(l.take i).sum<=l.sum:=by
 have:l.sum=(l.take i).sum+(l.drop i).sum:=by rw[<-qaz,qaY]
 omega
theorem Zkd (l:List (List Str)):(l.zipIdx.map fun p=>p.1.length)=l.map List.length:=by
 rw[show(fun p:List Str×Nat=>p.1.length)=List.length∘Prod.fst from rfl,<-qam,List.zipIdx_map_fst]
theorem Zgu {α:Type}{f g:α->Nat}:∀{l:List α},(∀x∈l,f x<=g x)->(l.map f).sum<=(l.map g).sum
 |[],_=>by simp
 |a::l,h=>by
  have h1:=h a (by simp);have h2:=Zgu (l:=l) fun x hx=>h x (by simp[hx]);simp only[qq,qS];omega
theorem Zb8 (e:Exp):(Zaf e).length<=e.weight:=by
 induction e using Exp.ind with
 |h e ih=>
  rw[ZcP];split
  .exact e.weight_pos
  .have h1:=ZfN e (e.children.map Zaf).zipIdx []
   rw[Zkd,qam]at h1;have h2:(e.children.map (List.length∘Zaf)).sum<=(e.children.map Exp.weight).sum:=Zgu ih;rw[e.weight_eq];simp only[qT]at h1;omega
def outP (e:Exp)(i:Nat):List Str:=((e.children.map Zaf).zipIdx.take i).foldl (Zf6 e) []
theorem Zx7 (e:Exp)(i:Nat):(outP e i).length<=e.weight:=by
 have h1:=ZfN e ((e.children.map Zaf).zipIdx.take i) [];have h2:(((e.children.map Zaf).zipIdx.take i).map fun p=>p.1.length).sum<=(e.children.map Exp.weight).sum:=by
  rw[qau,Zkd,qam];exact qu ZcS (Zgu fun x _=>Zb8 x)
 unfold outP;rw[e.weight_eq];simp only[qT]at h1;omega
theorem ZiE {e x:Exp}{i:Nat}(hx:e.children[i]?=some x):outP e (i+1)=(Zaf x).foldl (Zbi (e.bound i)) (outP e i):=by
 have h:(e.children.map Zaf).zipIdx[i]?=some (Zaf x,i):=by simp[qat,hx]
 unfold outP;rw[Zam h,qaS];rfl
theorem Zli (e:Exp):outP e e.children.length=(e.children.map Zaf).zipIdx.foldl (Zf6 e) []:=by
 unfold outP;rw[qf (by simp)]
theorem ZyW (e:Exp)(hw:e.wf)(hl:e.weight<=1073741824):(K A).call 201 [expV e] []=some (Za3 (Zaf e),[]):=by
 induction e using Exp.ind with
 |h e ih=>
 refine Zaj (vf:=v201) (by kernel_rfl) rfl (by decide) ?_;have hle:=e.children_le;rw[e.children_len]at hle;have h1:∀s:Str,Zai [s]=[[.str s]]:=fun _=>rfl;have hn:Zai []=[]:=rfl;by_cases hk:e.kind=1
 .unfold v201
  simp[hk,ZcP,h1]
 .by_cases hkids:e.kids=[]
  .have harms:e.arms=[]:=by
    by_cases h8:e.kind=8
    .have:=hw.one.1 h8
     rw[hkids]at this;simp at this
    .exact hw.one.2.1 h8
   have hc:=ZaT (A:=A) e hkids harms;have hch:e.children=[]:=(by simp[Exp.children,hkids,harms]);unfold v201;simp(disch:=first|exact zd|fail) [hk,hc];refine Zak (fun i=>⟨[(1,.sc (.ptr 64 0)),(3,.sc (.arr 641 0)),(16,.sc (.full [])),(17,intV 0),(18,intV i)],[(64,some (.box (wc e.row))),(641,some (.arr 1 [] 0))]⟩) 0 ?_ ?_ ?_
   .simp
   .intro i hi;omega
   .unfold Zpo
    simp[ZcP,hk,hch,hn]
  .have hc:=ZaP (A:=A) e hkids hl
   unfold v201;simp(disch:=first|exact zd|fail) [hk,hc];refine Zak (fun i=>⟨[(1,.sc (.ptr 64 0)),(3,.sc (.arr 641 (outP e i).length)),(16,.sc (.arr 800 e.children.length)),(17,intV e.children.length),(18,intV i)],[(64,some (.box (wc e.row))),(641,some (.arr 1 (wr (Zai (outP e i))) 0)),(800,some (.arr 11 (wr (Exp.rows e.children)) 0))]⟩) e.children.length ?_ ?_ ?_
   .simp[outP,hn]
   .intro i hi
    obtain⟨x,hx⟩:=Zaa hi;have hmem:x∈e.children:=qa hx;have h19:=ih x hmem (hw.child hmem) (by have:=Exp.child_lt hmem;omega);have h52:=Zi2 (A:=A) e i hw.one hi hl;have hfl:=Zb8 x;have hol:=Zx7 e i;have hbl:=e.bound_le i;have hxl:=Exp.child_lt hmem;rw[e.children_len]at hi;have hi':(i:Int)<(e.kids.length:Int)+e.arms.length:=(by omega);unfold Zpo
    simp(disch:=first|exact zd|fail) [hi',hx,h52,h19,-getElem?_pos];refine Zak (fun j=>⟨[(1,.sc (.ptr 64 0)),(3,.sc (.arr 641 (((Zaf x).take j).foldl (Zbi (e.bound i)) (outP e i)).length)),(16,.sc (.arr 800 e.children.length)),(17,intV e.children.length),(18,intV i),(6,Za3 (e.bound i)),(27,Za3 (Zaf x)),(28,intV (Zaf x).length),(29,intV j)],
     [(64,some (.box (wc e.row))),(641,some (.arr 1 (wr (Zai (((Zaf x).take j).foldl (Zbi (e.bound i)) (outP e i)))) 0)),(800,some (.arr 11 (wr (Exp.rows e.children)) 0)),(1216,some (.box (wc x.row)))]⟩) (Zaf x).length ?_ ?_ ?_
    .simp
    .intro j hj
     obtain⟨s,hs⟩:=Zaa hj;rw[Zam hs,qaS,qav,List.foldl_nil];have hjl:=ZfQ (e.bound i) ((Zaf x).take j) (outP e i);have hjl2:((Zaf x).take j).length<=(Zaf x).length:=(by simp;omega);generalize ((Zaf x).take j).foldl (Zbi (e.bound i)) (outP e i)=out at hjl |-;have hc1:=Zb2 (A:=A) (e.bound i) s (by omega);have hc2:=Zb2 (A:=A) out s (by omega);unfold ZpZ;by_cases hb:s∈e.bound i
     .simp(disch:=first|exact zd|fail) [hj,hs,hc1,hb,Zbi,-getElem?_pos]
     .by_cases ho:s∈out
      .simp(disch:=first|exact zd|fail) [hj,hs,hc1,hc2,hb,ho,Zbi,-getElem?_pos]
      .simp(disch:=first|exact zd|fail) [hj,hs,hc1,hc2,hb,ho,Zbi,-getElem?_pos]
    .unfold ZpZ
     simp(disch:=first|exact zd|fail) [ZiE hx,-getElem?_pos]
   .unfold Zpo
    have he:=Zli e;rw[e.children_len]at he;simp(disch:=first|exact zd|fail) [ZcP,hk,he]
variable {A:Zab}
def Zdo (e:Exp)(bound out:List Str):List Str:=if e.kind=1/\e.name∉bound/\e.name∉out then out++[e.name] else out
def Zwr (e:Exp)(bound:List Str)(out:List Str)(p:(List Str->List Str->List Str)×Nat):List Str:=p.1 (bound++e.bound p.2) out
def Zev (e:Exp):List Str->List Str->List Str:=e.fold fun e l bound out=>l.zipIdx.foldl (Zwr e bound) (Zdo e bound out)
theorem ZpW (e:Exp)(bound out:List Str):Zev e bound out=(e.children.map Zev).zipIdx.foldl (Zwr e bound) (Zdo e bound out):=by
 unfold Zev;rw[Exp.fold_eq]
def outR (e:Exp)(bound out:List Str)(i:Nat):List Str:=((e.children.map Zev).zipIdx.take i).foldl (Zwr e bound) (Zdo e bound out)
theorem Zga {e x:Exp}{bound out:List Str}{i:Nat}(hx:e.children[i]?=some x):outR e bound out (i+1)=Zev x (bound++e.bound i) (outR e bound out i):=by
 have h:(e.children.map Zev).zipIdx[i]?=some (Zev x,i):=by simp[qat,hx]
 unfold outR;rw[Zam h,qaS];rfl
theorem Zk0 (e:Exp)(bound out:List Str):outR e bound out e.children.length=Zev e bound out:=by
 rw[ZpW];unfold outR;rw[qf (by simp)]
theorem ZgX (e:Exp)(bound out:List Str):(Zdo e bound out).length<=out.length+1:=by
 unfold Zdo;split<;>simp
theorem ZiG {e:Exp}{i:Nat}:((e.children.take i).map Exp.weight).sum<=(e.children.map Exp.weight).sum:=by
 rw[qau];exact ZcS
theorem Zui (e:Exp):∀bound out:List Str,(Zev e bound out).length<=out.length+e.weight:=by
 induction e using Exp.ind with
 |h e ih=>
  intro bound out;have key:∀i,i<=e.children.length->(outR e bound out i).length<=out.length+1+((e.children.take i).map Exp.weight).sum:=by
   intro i
   induction i with
   |zero=>
    intro _;have:=ZgX e bound out;simpa[outR]using this
   |succ i ihi=>
    intro hi;obtain⟨x,hx⟩:=Zaa (l:=e.children) (i:=i) (by omega);have h1:=ih x (qa hx) (bound++e.bound i) (outR e bound out i);have h2:=ihi (by omega);rw[Zga hx,Zam hx,qaf,qaz];simp only[qq,qX,qS,qaQ];omega
  have h1:=key _ (qe _);rw[Zk0,qaO]at h1;rw[e.weight_eq];omega
theorem Zx1 (e:Exp):∀bound out:List Str,out.length<=(Zev e bound out).length:=by
 induction e using Exp.ind with
 |h e ih=>
  intro bound out;have key:∀i,i<=e.children.length->out.length<=(outR e bound out i).length:=by
   intro i
   induction i with
   |zero=>
    intro _;simp only[outR,List.take_zero,List.foldl_nil,Zdo];split<;>simp
   |succ i ihi=>
    intro hi;obtain⟨x,hx⟩:=Zaa (l:=e.children) (i:=i) (by omega);rw[Zga hx];exact qu (ihi (by omega)) (ih x (qa hx) _ _)
  have:=key _ (qe _);rwa[Zk0]at this
theorem Zxu {e:Exp}{bound out:List Str}:∀i,i<=e.children.length->(outR e bound out i).length<=out.length+1+((e.children.take i).map Exp.weight).sum:=by
 intro i
 induction i with
 |zero=>
  intro _;have:=ZgX e bound out;simpa[outR]using this
 |succ i ihi=>
  intro hi;obtain⟨x,hx⟩:=Zaa (l:=e.children) (i:=i) (by omega);have h1:=Zui x (bound++e.bound i) (outR e bound out i);have h2:=ihi (by omega);rw[Zga hx,Zam hx,qaf,qaz];simp only[qq,qX,qS,qaQ];omega
theorem Zqf {e x:Exp}{bound out:List Str}{i:Nat}(hx:e.children[i]?=some x):(outR e bound out i).length+x.weight<=out.length+e.weight:=by
 have hi:i<e.children.length:=(qd.1 hx).1;have h1:=Zxu (e:=e) (bound:=bound) (out:=out) i (by omega);have h2:=ZiG (e:=e) (i:=i+1);rw[Zam hx,qaf,qaz]at h2;simp only[qq,qX,qS,qaQ]at h2;rw[e.weight_eq];omega
theorem Zn0 {e x:Exp}{i:Nat}(hx:e.children[i]?=some x):(e.bound i).length+x.weight<=e.weight:=by
 have h1:=ZiU (f:=Exp.weight) (qa hx);have h2:(e.bound i).length<=1+(e.arms.map fun a=>a.1.vars.length).sum:=by
  unfold Exp.bound;split
  .simp
  .split
   .cases h:e.arms[i-1]? with
    |none=>simp
    |some a=>
     have:=ZiU (f:=fun a:ArmH×Exp=>a.1.vars.length) (qa h);simp only[qp,Option.getD_some];omega
   .simp
 rw[e.weight_eq];omega
theorem free54 (e:Exp):∀(bound out:List Str),e.wf->bound.length+e.weight<=1073741824->out.length+e.weight<=1073741824->
 (K A).call 111 [.sc (.arr 0 out.length),Za3 bound,expV e] [.arr 1 (wr (Zai out)) 0]=some (.sc (.arr 0 (Zev e bound out).length),[.arr 1 (wr (Zai (Zev e bound out))) 0]):=by
 induction e using Exp.ind with
 |h e ih=>
 intro bound out hw hbl hol;refine fnO v111 ?_;have hle:=e.children_le;have hc:=ZbS (A:=A) e (by rw[e.children_len]at hle;omega);have hb1:=ZmU (A:=A) bound e.name (by omega);have hb2:=ZmU (A:=A) out e.name (by omega);have hsl:=ZgX e bound out;have hwp:=e.weight_pos;unfold v111
 refine Zeh ⟨[(0,.sc (.arr 0 out.length)),(1,Za3 bound),(5,.sc (.ptr 64 0))],[(0,some (.arr 1 (wr (Zai out)) 0)),(64,some (.box (wc e.row)))]⟩ (by simp) ?_
 refine ZoU ⟨[(0,.sc (.arr 0 (Zdo e bound out).length)),(1,Za3 bound),(5,.sc (.ptr 64 0)),(7,.sc (.arr 1760 e.children.length))],[(0,some (.arr 1 (wr (Zai (Zdo e bound out))) 0)),(64,some (.box (wc e.row))),(1760,some (.arr 11 (wr (Exp.rows e.children)) 0))]⟩ ?_ ?_
 .by_cases hk:e.kind=1
  .by_cases h1:e.name∈bound
   .simp(disch:=first|exact zd|fail) [hk,h1,hb1,Zdo,hc]
   .by_cases h2:e.name∈out
    .simp(disch:=first|exact zd|fail) [hk,h1,h2,hb1,hb2,Zdo,hc]
    .simp(disch:=first|exact zd|fail) [hk,h1,h2,hb1,hb2,Zdo,hc]
  .simp(disch:=first|exact zd|fail) [hk,Zdo,hc]
 .simp (disch:=first|exact zd|fail)
  refine Zak (fun i=>⟨[(0,.sc (.arr 0 (outR e bound out i).length)),(1,Za3 bound),(5,.sc (.ptr 64 0)),(7,.sc (.arr 1760 e.children.length)),(8,intV i)],[(0,some (.arr 1 (wr (Zai (outR e bound out i))) 0)),(64,some (.box (wc e.row))),(1760,some (.arr 11 (wr (Exp.rows e.children)) 0))]⟩) e.children.length ?_ ?_ ?_
  .simp[outR]
  .intro i hi
   obtain⟨x,hx⟩:=Zaa hi;have hmem:x∈e.children:=qa hx;have ho:=Zqf (bound:=bound) (out:=out) hx;have hb:=Zn0 hx;have hxp:=x.weight_pos;have h54:=ih x hmem (bound++e.bound i) (outR e bound out i) (hw.child hmem) (by simp;omega) (by omega);have h91:=ZAG (A:=A) e i hw.one hi (by omega);rw[e.children_len]at hi hle;have hi':(i:Int)<(e.kids.length:Int)+e.arms.length:=(by omega)
   have hlen:(outR e bound out i).length<=(Zev x (bound++e.bound i) (outR e bound out i)).length:=Zx1 x _ _;unfold ZtD;simp(disch:=first|exact zd|fail) [hi',hx,h54,h91,Zga hx,hlen,-getElem?_pos]
  .have he:=Zk0 e bound out
   rw[e.children_len]at he;unfold ZtD;simp(disch:=first|exact zd|fail) [he]
theorem Zmh (e:Exp)(hw:e.wf)(hl:e.weight<=1073741824):(K A).call 58 [expV e] []=some (.sc (.arr 0 (Zev e [] []).length),[.arr 1 (wr (Zai (Zev e [] []))) 0]):=by
 refine fnO v58 ?_;have h:=free54 (A:=A) e [] [] hw (by simpa using hl) (by simpa using hl);have hn:Zai []=[]:=rfl;simp[Za3,hn]at h;unfold v58;simp[h,hn]
theorem Zqm {b out:List Str}{s t:Str}:t∈Zbi b out s↔t∈out\/(t=s/\s∉b):=by
 grind[Zbi]
theorem Zeu {b:List Str}:∀{l out:List Str}{t:Str},t∈l.foldl (Zbi b) out↔t∈out\/(t∈l/\t∉b)
 |[],out,t=>by simp
 |s::l,out,t=>by
  rw[qav,Zeu,Zqm,qz];grind
theorem Zqb {b out:List Str}{s:Str}(h:s∈b\/s∈out):Zbi b out s=out:=if_pos h
theorem ZqJ {b out:List Str}{s:Str}(h:¬(s∈b\/s∈out)):Zbi b out s=out++[s]:=if_neg h
theorem ZlU {bound b:List Str}:∀(l acc out:List Str),(l.foldl (Zbi b) acc).foldl (Zbi bound) out=l.foldl (Zbi (bound++b)) (acc.foldl (Zbi bound) out)
 |[],acc,out=>rfl
 |s::l,acc,out=>by
  rw[qav,qav,ZlU l];grind[Zeu,Zbi]
theorem Zqa (e:Exp):e.wf->∀bound out:List Str,Zev e bound out=(Zaf e).foldl (Zbi bound) out:=by
 induction e using Exp.ind with
 |h e ih=>
  intro hw bound out;rw[ZpW,ZcP];by_cases hk:e.kind=1
  .have hch:e.children=[]:=by
    have h1:=hw.one.2.2 hk;have h2:=hw.one.2.1 (by omega);grind[Exp.children]
   grind[List.zipIdx_nil,Zdo,Zqb,ZqJ]
  .rw [if_neg hk]
   have hs:Zdo e bound out=out:=by
    grind[Zdo]
   rw[hs];have key:∀(l:List Exp) (i:Nat) (acc:List Str),(∀x∈l,x∈e.children)->((l.map Zev).zipIdx i).foldl (Zwr e bound) (acc.foldl (Zbi bound) out)=(((l.map Zaf).zipIdx i).foldl (Zf6 e) acc).foldl (Zbi bound) out:=by
    intro l
    induction l with
    |nil=>simp
    |cons x l ihl=>
     intro i acc hmem;rw[qq,qq,qa4,qa4,qav,qav,<-ihl (i+1) _ fun y hy=>hmem y (List.mem_cons_of_mem _ hy)];congr 1;have hx:=hmem x (by simp);show Zev x (bound++e.bound i) _=((Zaf x).foldl (Zbi (e.bound i)) acc).foldl (Zbi bound) out;rw[ih x hx (hw.child hx),ZlU]
   grind
theorem Zmd {b out:List Str}{s:Str}(h:out.Nodup):(Zbi b out s).Nodup:=by
 grind[Zbi]
theorem ZfZ {b:List Str}:∀{l out:List Str},out.Nodup->(l.foldl (Zbi b) out).Nodup
 |[],_,h=>h
 |_::l,_,h=>ZfZ (l:=l) (Zmd h)
theorem Zf8 {e:Exp}:∀{l:List (List Str×Nat)}{out:List Str},out.Nodup->(l.foldl (Zf6 e) out).Nodup
 |[],_,h=>h
 |_::l,_,h=>Zf8 (l:=l) (ZfZ h)
theorem Znl (e:Exp):(Zaf e).Nodup:=by
 grind[ZcP,Zf8]
theorem Zju:∀{l out:List Str},(out++l).Nodup->l.foldl (Zbi []) out=out++l
 |[],out,_=>by simp
 |s::l,out,h=>by
  have hs:s∉out:=by
   grind
  have he:Zbi [] out s=out++[s]:=by
   grind[Zbi]
  rw[qav,he,Zju (by grind)];simp
theorem ZeS (e:Exp)(hw:e.wf):Zev e [] []=Zaf e:=by
 grind[Zqa,Zju,Znl]
variable {A:Zab}
theorem ZaD {f:FuncId}{vf:VFun}{args:List V}{objs:List Obj}(P:V×List Obj->Prop)(hT:T2 f=some vf)(hn:args.length=vf.nparams)(ho:objs.length<=64)
 (h:wp (K A) vf.body (Zeo vf.keep objs.length vf.results P) ⟨ZbT 0 args,ZbT 0 (objs.map some)⟩):∃r,P r/\(K A).call f args objs=some r:=Zy9 P hT hn ho h
theorem fnE {f:FuncId}{args:List V}{objs:List Obj}{P:V×List Obj->Prop}(vf:VFun)(h:wp (K A) vf.body (Zeo vf.keep objs.length vf.results P) ⟨ZbT 0 args,ZbT 0 (objs.map some)⟩)(hT:T2 f=some vf:=by kernel_rfl)(hn:args.length=vf.nparams:=by rfl)(ho:objs.length<=64:=by simp):∃r,P r/\(K A).call f args objs=some r:=ZaD P hT hn ho h
def Za0 (l:List Int):List (List Cell):=l.map Zhi
@[simp] theorem intRows_len (l:List Int):(Za0 l).length=l.length:=by simp[Za0]
@[simp] theorem intRows_get (l:List Int) (i:Nat):(Za0 l)[i]?=(l[i]?).map Zhi:=by simp[Za0]
@[simp] theorem cut_i (n:Int):cut (Zhi n) 0 1=some [.int .i64 n]:=rfl
abbrev ZaK (L:List Int)(I:Nat):Obj:=.box [.c (.sl (Za0 L)),.c (.int .i64 I)]
abbrev Zar (ds:List DataD):V:=.sc (.c (.sl (Zax ds)))
abbrev tyV (t:Ty):V:=.ag (wc t.row)
theorem mod10 (a m:Int)(hm:0<m)(hb:m<=1073741824):∃k:Nat,(k:Int)<m/\(K A).call 30 [intV a,intV m] []=some (intV k,[]):=by
 have h1:¬m<1:=by omega
 have h0:m≠0:=by omega
 have hlt:a.tmod m<m:=Int.tmod_lt_of_pos a (by omega);have hgt:-m<a.tmod m:=Int.lt_tmod_of_pos a (by omega);by_cases hneg:a.tmod m<0
 .refine ⟨(a.tmod m+m).toNat,by omega,?_⟩
  have hw:((a.tmod m+m).toNat:Int)=a.tmod m+m:=by omega
  rw[hw];refine Zaj (vf:=v30) (by rfl) rfl (by simp) ?_;unfold v30;simp(disch:=first|exact zd|fail) [h1,h0,hneg]
 .refine ⟨(a.tmod m).toNat,by omega,?_⟩
  have hw:((a.tmod m).toNat:Int)=a.tmod m:=by omega
  rw[hw];refine Zaj (vf:=v30) (by rfl) rfl (by simp) ?_;unfold v30;simp(disch:=first|exact zd|fail) [h1,h0,hneg]
theorem ZbH (L:List Int)(I:Nat)(n:Int)(hI:I<=L.length)(hL:L.length<=1073741824)(hn:0<n)(hb:n<=1073741824):
 ∃k J:Nat,(k:Int)<n/\J<=L.length/\(K A).call 62 [.sc (.ptr 0 0),intV n] [ZaK L I]=some (intV k,[ZaK L J]):=by
 by_cases h:I<L.length
 .obtain ⟨a,ha⟩:=Zaa h
  obtain⟨k,hk,hc⟩:=mod10 (A:=A) a n hn hb;refine⟨k,I+1,hk,h,?_⟩;refine Zaj (vf:=v62) (by rfl) rfl (by simp) ?_;have h1:¬L.length<=I:=by omega
  unfold v62;simp(disch:=first|exact zd|fail) [h1,ha,hc,-getElem?_pos]
 .refine ⟨0,I,hn,hI,?_⟩
  refine Zaj (vf:=v62) (by rfl) rfl (by simp) ?_;have h1:L.length<=I:=by omega
  unfold v62;simp_all
def Zbl:List Str:=[[120],[121],[122],[102],[103],[118,49],[118,50],[105,100]]
theorem Zck (L:List Int)(I:Nat)(hI:I<=L.length)(hL:L.length<=1073741824):
 ∃s J,s∈Zbl/\J<=L.length/\(K A).call 82 [.sc (.ptr 0 0)] [ZaK L I]=some (strV s,[ZaK L J]):=by
 obtain⟨k,J,hk,hJ,hc⟩:=ZbH (A:=A) L I 8 hI hL (by omega) (by omega);obtain⟨s,hs⟩:=Zaa (l:=Zbl) (i:=k) (by grind[Zbl,qG]);refine⟨s,J,qa hs,hJ,?_⟩;refine Zaj (vf:=v82) (by rfl) rfl (by simp) ?_;have hr:(wr (Zai Zbl))[k]?=some [.c (.str s)]:=by simp[hs]
 have hw:wr (Zai Zbl)=[[.c (.str [120])],[.c (.str [121])],[.c (.str [122])],[.c (.str [102])],[.c (.str [103])],[.c (.str [118,49])],[.c (.str [118,50])],[.c (.str [105,100])]]:=rfl;rw[hw]at hr;unfold v82;simp(disch:=first|exact zd|fail) [hc,hr,-getElem?_pos]
theorem Zrc (s:Str)(l:List Ty)(hl:l.length<=1073741824):(K A).call 90 [strV s,.sc (.c (.sl (Ty.rows l)))] []=some (tyV (.mk 4 s 0 0 l),[]):=by
 refine Zaj (vf:=v90) (by rfl) rfl (by simp) ?_;unfold v90;cases l with
 |nil=>
  have hn:Ty.rows []=[]:=by rfl
  simp(disch:=first|exact zd|fail) [hn,Ty.row]
 |cons t l=>
  have hn:Ty.rows (t::l)=t.row::Ty.rows l:=by rfl
  have hok:=okRows_ty (t::l);rw[hn,wr_cons]at hok;simp only[qG]at hl;simp(disch:=first|exact zd|fail) [hn,hok,Ty.row]
theorem ZmV:(K A).call 69 [] []=some (tyV (.mk 4 [73,110,116] 0 0 []),[]):=by
 refine Zaj (vf:=v69) (by rfl) rfl (by simp) ?_;have hn:Ty.rows []=[]:=by rfl
 have h:=Zrc (A:=A) [73,110,116] [] (by simp);simp[hn]at h;unfold v69;simp_all
theorem ZiX (a b:Ty):(K A).call 85 [tyV a,tyV b] []=some (tyV (.mk 4 [45,62] 0 0 [a,b]),[]):=by
 refine Zaj (vf:=v85) (by rfl) rfl (by simp) ?_;have hn:Ty.rows [a,b]=[a.row,b.row]:=by rfl
 have h:=Zrc (A:=A) [45,62] [a,b] (by simp);rw[hn]at h;unfold v85;simp_all
def Zqp (d:DataD):Prop:=d.params.length<=4/\1<=d.cons.length/\d.cons.length<=6/\∀c∈d.cons,c.fields.length<=4
def ZjQ (ds:List DataD):Prop:=ds.length<=100/\∀d∈ds,Zqp d
def TypeP (L:List Int)(r:V×List Obj):Prop:=∃t J,J<=L.length/\r=(tyV t,[ZaK L J])
def TypeI (L:List Int)(ds:List DataD)(dd:DataD)(d i:Nat)(s:St):Prop:=∃tys J,tys.length=i/\J<=L.length/\
 s=⟨[(0,.sc (.ptr 0 0)),(1,Zar ds),(2,.sc (.c (.sl []))),(3,intV (d+1)),(8,.sc (.ptr 64 0)),(10,.sc (.ptr 3392 0)),(11,.sc (.arr 3521 i)),(12,intV i)],
  [(0,some (ZaK L J)),(64,some (.box [zi,zs,zi,zi,.nil])),(3392,some (.box (wc (ZaF dd)))),(3521,some (.arr 5 (wr (Ty.rows tys)) 0))]⟩
variable {A:Zab}
def tz:Ty:=.mk 0 [] 0 0 []
@[simp] theorem strRows0:Zai []=[]:=rfl
@[simp] theorem rows0:Exp.rows []=[]:=by rfl
@[simp] theorem rows1 (x:Exp):Exp.rows [x]=[x.row]:=by rfl
@[simp] theorem rows2 (x y:Exp):Exp.rows [x,y]=[x.row,y.row]:=by rfl
@[simp] theorem armRows0:Exp.armRows []=[]:=by rfl
@[simp] theorem tyRows0:Ty.rows []=[]:=by rfl
def RawP (L:List Int)(B:Nat)(r:V×List Obj):Prop:=∃e J,e.wf/\e.weight<=B/\J<=L.length/\r=(expV e,[ZaK L J])
theorem Zbh (k p n m ks l t):(Exp.mk k p n m ks l t).weight=1+(l.map fun a=>a.1.vars.length).sum+((ks.map Exp.weight).sum+(l.map fun a=>a.2.weight).sum):=by
 grind[Exp.weight_eq,Exp.children,Exp.arms,Exp.kids,Function.comp_def]
def ArmI (L:List Int)(ds:List DataD)(dd:DataD)(x:Exp)(B d i:Nat)(s:St):Prop:=∃arms J,arms.length=i/\J<=L.length/\(∀a∈arms,a.2.wf/\a.2.weight<=B/\a.1.vars.length<=4)/\
 s=⟨[(0,.sc (.ptr 0 0)),(1,Zar ds),(2,intV (d+1)),(6,.sc (.ptr 64 0)),(13,.sc (.ptr 10176 0)),(14,.sc (.ptr 10752 0)),(15,intV i)],
  [(0,some (ZaK L J)),(64,some (.box [zi,zi,zs,zi,.nil,.nil,zi,zs,zi,zi,.nil])),(10176,some (.box (wc (ZaF dd)))),(10624,some (.arr 11 [wc x.row] 0)),
    (10752,some (.box [.c (.int .i64 8),zi,zs,zi,.arr 10624 1,.arr 10822 i,zi,zs,zi,zi,.nil])),(10822,some (.arr 14 (wr (Exp.armRows arms)) 0))]⟩
def VarI (L:List Int)(ds:List DataD)(dd:DataD)(x:Exp)(arms:List (ArmH×Exp))(con:Str)(d i j:Nat)(s:St):Prop:=∃vars J,vars.length=j/\J<=L.length/\
 s=⟨[(0,.sc (.ptr 0 0)),(1,Zar ds),(2,intV (d+1)),(6,.sc (.ptr 64 0)),(13,.sc (.ptr 10176 0)),(14,.sc (.ptr 10752 0)),(15,intV i),(16,.sc (.ptr 11712 0)),(17,intV j)],
  [(0,some (ZaK L J)),(64,some (.box [zi,zi,zs,zi,.nil,.nil,zi,zs,zi,zi,.nil])),(10176,some (.box (wc (ZaF dd)))),(10624,some (.arr 11 [wc x.row] 0)),
    (10752,some (.box [.c (.int .i64 8),zi,zs,zi,.arr 10624 1,.arr 10822 i,zi,zs,zi,zi,.nil])),(10822,some (.arr 14 (wr (Exp.armRows arms)) 0)),
    (11712,some (.box [zi,.c (.str con),.arr 11779 j,zi,zi,zs,zi,.nil,.nil,zi,zs,zi,zi,.nil])),(11779,some (.arr 1 (wr (Zai vars)) 0))]⟩
theorem ZuD {C:Ctx}{a b c:VCode}{Q:Ex->St->Prop}{s:St}(s1:St)(h1:wp C a (fun e s=>e=.normal/\s=s1) s)(h2:wp C (.seq b c) Q s1):wp C (.seq (.seq a b) c) Q s:=by
 grind[wp_seq,ZaU,Zdt]
variable {A:Zab}
def Zyj (ds7:List DataD)(r:V×List Obj):Prop:=∃ds,(∀d∈ds,d∈ds7)/\ZjQ ds/\r=(Zar ds,[])
def ZyY (bits:Int)(ds7:List DataD)(i:Nat)(s:St):Prop:=∃ds:List DataD,ds.length<=i+1/\(∀d∈ds,d∈ds7/\Zqp d)/\
 s=⟨[(0,intV bits),(3,Zar ds7),(4,.sc (.arr 257 ds.length)),(5,intV i)],[(257,some (.arr 4 (wr (Zax ds)) 0))]⟩
@[simp] theorem dataRows0:Zax []=[]:=rfl
@[simp] theorem dataRows1 (d:DataD):wr (Zax [d])=[wc (ZaF d)]:=rfl
theorem ZAh (bits:Int)(ds7:List DataD)(h7:ds7.length=7)(hg:∀d∈ds7,Zqp d)(h55:(K A).call 81 [] []=some (Zar ds7,[])):
 ∃r,Zyj ds7 r/\(K A).call 42 [intV bits] []=some r:=by
 refine fnE v42 ?_;obtain⟨d1,hd1⟩:=Zaa (l:=ds7) (i:=1) (by omega);have hgd1:=hg d1 (qa hd1);have fin:∀s,ZyY bits ds7 0 s->wp (K A) (.loop ZxI) (Zb5 0 (Zdt (K A) (.seq (.region [] [o 44 (.mv (tv 4)),o 2 (.mv (tv 44))] [] [2]) .ret) (Zeo false 0 [.tmp 2] (Zyj ds7)))) s:=by
  intro s hs;refine Zad (ZyY bits ds7) 7 hs ?_ ?_
  .rintro i s hi ⟨ds,hds1,hds2,rfl⟩
   obtain⟨d,hd⟩:=Zaa (l:=ds7) (i:=i) (by omega);have hgd:=hg d (qa hd);have hi2:(i:Int)<7:=(by omega);unfold ZxI;by_cases hi1:i=1
   .subst hi1
    simp(disch:=first|exact zd|fail) [h7,hd,-getElem?_pos];exact⟨ds,by omega,hds2,by simp⟩
   .have hi1':¬(i:Int)=1:=by omega
    by_cases hb:andI .i64 (shrI .i64 bits i) 1=1
    .simp (disch:=first|exact zd|fail) [h7,hd,hi2,hi1',hb,-getElem?_pos]
     refine⟨ds++[d],by simp;omega,?_,by simp⟩;intro x hx;rcases ql.1 hx with hx|hx
     .exact hds2 x hx
     .simp only [qj] at hx
      exact hx▸⟨qa hd,hgd⟩
    .simp (disch:=first|exact zd|fail) [h7,hd,hi2,hi1',hb,-getElem?_pos]
     exact⟨ds,by omega,hds2,by simp⟩
  .rintro s ⟨ds,hds1,hds2,rfl⟩
   unfold ZxI;simp(disch:=first|exact zd|fail) [h7,-getElem?_pos];exact⟨ds,fun d hd=>(hds2 d hd).1,⟨by omega,fun d hd=>(hds2 d hd).2⟩,rfl⟩
 unfold v42;by_cases h1:andI .i64 bits 2=0
 .by_cases h2:andI .i64 bits 64=0
  .simp (disch:=first|exact zd|fail) [h55,h1,h2,-getElem?_pos]
   exact fin _ ⟨[],by simp,by simp,by simp⟩
  .simp (disch:=first|exact zd|fail) [h55,h1,h2,h7,hd1,-getElem?_pos]
   exact fin _ ⟨[d1],by simp,by simp[hgd1,qa hd1],by simp⟩
 .simp (disch:=first|exact zd|fail) [h55,h1,h7,hd1,-getElem?_pos]
  exact fin _ ⟨[d1],by simp,by simp[hgd1,qa hd1],by simp⟩
def MadeP (L:List Int)(r:V×List Obj):Prop:=∃a b J,a.wf/\a.weight<=32 ^ 4/\b.wf/\b.weight<=32 ^ 3/\J<=L.length/\r=(.tu [expV a,expV b,.sc (.ptr 0 0)],[ZaK L J])
def BoolP (r:V×List Obj):Prop:=∃b,r=(Zae b,[])
end Go.Vs.Tryz
namespace Go.Vs
open Go
mutual
def Cell.eqb:Cell->Cell->Bool
 |.int k n,.int k' n'=>decide (k=k')&&decide (n=n')
 |.bool b,.bool b'=>b==b'
 |.str s,.str s'=>s==s'
 |.sl rows,.sl rows'=>Cell.eqRows rows rows'
 |.nilfn,.nilfn=>true
 |.nilptr,.nilptr=>true
 |.nilif,.nilif=>true
 |_,_=>false
def Cell.eqRows:List (List Cell)->List (List Cell)->Bool
 |[],[]=>true
 |r::rs,r'::rs'=>Cell.eqList r r'&&Cell.eqRows rs rs'
 |_,_=>false
def Cell.eqList:List Cell->List Cell->Bool
 |[],[]=>true
 |c::cs,c'::cs'=>Cell.eqb c c'&&Cell.eqList cs cs'
 |_,_=>false
end
mutual
theorem Cell.eqb_eq:∀(a b:Cell),Cell.eqb a b=true->a=b
 |.int k n,b,h=>by cases b<;>simp_all[Cell.eqb]
 |.bool _,b,h=>by cases b<;>simp_all[Cell.eqb]
 |.str _,b,h=>by cases b<;>simp_all[Cell.eqb]
 |.sl rows,b,h=>by
  cases b with
  |sl rows'=>rw[Cell.eqRows_eq rows rows' (by simpa[Cell.eqb]using h)]
  |_=>simp[Cell.eqb]at h
 |.fn ..,b,h=>by cases b<;>simp[Cell.eqb]at h
 |.nilfn,b,h=>by cases b<;>simp_all[Cell.eqb]
 |.nilptr,b,h=>by cases b<;>simp_all[Cell.eqb]
 |.nilif,b,h=>by cases b<;>simp_all[Cell.eqb]
 |.ifc ..,b,h=>by cases b<;>simp[Cell.eqb]at h
 |.ro ..,b,h=>by cases b<;>simp[Cell.eqb]at h
theorem Cell.eqRows_eq:∀(a b:List (List Cell)),Cell.eqRows a b=true->a=b
 |[],b,h=>by cases b<;>simp_all[Cell.eqRows]
 |r::rs,b,h=>by
  cases b with
  |nil=>simp[Cell.eqRows]at h
  |cons r' rs'=>
   simp only[Cell.eqRows,qc]at h;rw[Cell.eqList_eq r r' h.1,Cell.eqRows_eq rs rs' h.2]
theorem Cell.eqList_eq:∀(a b:List Cell),Cell.eqList a b=true->a=b
 |[],b,h=>by cases b<;>simp_all[Cell.eqList]
 |c::cs,b,h=>by
  cases b with
  |nil=>simp[Cell.eqList]at h
  |cons c' cs'=>
   simp only[Cell.eqList,qc]at h;rw[Cell.eqb_eq c c' h.1,Cell.eqList_eq cs cs' h.2]
end
def W.eqb:W->W->Bool
 |.c a,.c b=>a.eqb b
 |.nil,.nil=>true
 |_,_=>false
theorem W.eqb_eq {a b:W}(h:a.eqb b=true):a=b:=by
 cases a<;>cases b<;>first | rfl | (simp[W.eqb]at h;done) | exact congrArg W.c (Cell.eqb_eq _ _ (by simpa[W.eqb]using h))
def eqWs:List W->List W->Bool
 |[],[]=>true
 |c::cs,c'::cs'=>c.eqb c'&&eqWs cs cs'
 |_,_=>false
theorem ZtV:∀{a b:List W},eqWs a b=true->a=b
 |[],b,h=>by cases b<;>simp_all[eqWs]
 |c::cs,b,h=>by
  cases b with
  |nil=>simp[eqWs]at h
  |cons c' cs'=>
   simp only[eqWs,qc]at h;rw[W.eqb_eq h.1,ZtV h.2]
def V.eqb:V->V->Bool
 |.sc a,.sc b=>a.eqb b
 |.ag a,.ag b=>eqWs a b
 |_,_=>false
theorem V.eqb_eq {a b:V}(h:a.eqb b=true):a=b:=by
 cases a<;>cases b<;>first | (simp[V.eqb]at h;done) | exact congrArg V.sc (W.eqb_eq (by simpa[V.eqb]using h)) | exact congrArg V.ag (ZtV (by simpa[V.eqb]using h))
def eqVs:List V->List V->Bool
 |[],[]=>true
 |c::cs,c'::cs'=>c.eqb c'&&eqVs cs cs'
 |_,_=>false
theorem ZsD:∀{a b:List V},eqVs a b=true->a=b
 |[],b,h=>by cases b<;>simp_all[eqVs]
 |c::cs,b,h=>by
  cases b with
  |nil=>simp[eqVs]at h
  |cons c' cs'=>
   simp only[eqVs,qc]at h;rw[V.eqb_eq h.1,ZsD h.2]
abbrev Zm8:=List (Nat×List V×V)
def ZtJ:Zm8->Nat->List V->Option (V×List Obj)
 |[],_,_=>none
 |(g,k,v)::r,f,l=>bif f==g&&eqVs l k then some (v,[]) else ZtJ r f l
theorem Zme:∀{m:Zm8}{f:Nat}{l:List V}{q:V×List Obj},ZtJ m f l=some q->q.2=[]/\(f,l,q.1)∈m
 |[],_,_,_,h=>by cases h
 |(g,k,v)::r,f,l,q,h=>by
  simp only[ZtJ]at h;cases hk:(f==g&&eqVs l k)with
  |true=>
   rw[hk]at h;simp only[cond_true,qb]at h;simp only[qc,beq_iff_eq]at hk;obtain⟨rfl,hk⟩:=hk;have:=ZsD hk;subst this;subst h;exact⟨rfl,by simp⟩
  |false=>
   rw[hk]at h;obtain⟨h1,h2⟩:=Zme h;exact⟨h1,List.mem_cons_of_mem _ h2⟩
theorem ZoG {P:Program}{gl:Nat->List Cell}{T:FuncId->Option VFun}(hP:P.follows .mixedOrders=true)(hT:∀f vf,T f=some vf->mFun P f vf=true){m:Zm8}(hm:∀p∈m,FnOk P gl p.1 p.2.1 [] p.2.2 []){f:FuncId}{n:Nat}{args:List V}{objs:List Obj}{rv:V}{objs':List Obj}
 (h:ZdD (fun g=>bif g==f then T g else none) (fun g args objs=>match objs with | []=>ZtJ m g args | _=>none) gl n f args objs=some (rv,objs')):FnOk P gl f args objs rv objs':=by
 refine ZiB hP (fun g vf hg=>?_) (fun g args objs rv objs' hx=>?_) n h
 .cases hgf:(g == f) with
  |true=>rw[hgf]at hg;exact hT g vf hg
  |false=>rw[hgf]at hg;cases hg
 .cases objs with
  |cons _ _=>cases hx
  |nil=>
   obtain⟨h1,h2⟩:=Zme hx;simp only at h1 h2;subst h1;exact hm _ h2
structure EntD where
 name:Str
 count:Int
 ty:Ty
def ZbG (e:EntD):List Cell:=.str e.name::.int .i64 e.count::e.ty.row
def ZbO (l:List EntD):List (List Cell):=l.map ZbG
@[simp] theorem entRow_len (e:EntD):(ZbG e).length=7:=by simp[ZbG]
@[simp] theorem entRows_len (l:List EntD):(ZbO l).length=l.length:=by simp[ZbO]
@[simp] theorem entRows_get (l:List EntD) (i:Nat):(ZbO l)[i]?=(l[i]?).map ZbG:=by simp[ZbO]
@[simp] theorem okRows_ent (l:List EntD):Zbb 7 (wr (ZbO l))=true:=ZbE l entRow_len
@[simp] theorem entRows_snoc (l:List EntD) (x:EntD):wr (ZbO l)++[wc (ZbG x)]=wr (ZbO (l++[x])):=by simp[ZbO,wr]
@[simp] theorem entRows0:ZbO []=[]:=rfl
def Zbu (c:Int)(t:Ty):List Cell:=.int .i64 c::t.row
@[simp] theorem schRow_len (c:Int) (t:Ty):(Zbu c t).length=6:=by simp[Zbu]
section
variable (e:EntD)(c:Int)(t:Ty)
@[simp] theorem cut_n0:cut (ZbG e) 0 1=some [.str e.name]:=by simp[ZbG]
@[simp] theorem cut_n1:cut (ZbG e) 1 6=some (Zbu e.count e.ty):=by rw[ZbG,Zbu,Ty.row_eq];rfl
@[simp] theorem cut_n:cut (ZbG e) 0 7=some (ZbG e):=by rw[ZbG,Ty.row_eq];rfl
@[simp] theorem cutw_n0:cut (wc (ZbG e)) 0 1=some [.c (.str e.name)]:=by rw[ZbG,Ty.row_eq];rfl
@[simp] theorem cutw_n1:cut (wc (ZbG e)) 1 6=some (wc (Zbu e.count e.ty)):=by rw[ZbG,Zbu,Ty.row_eq];rfl
@[simp] theorem cutw_n:cut (wc (ZbG e)) 0 7=some (wc (ZbG e)):=by rw[ZbG,Ty.row_eq];rfl
@[simp] theorem cutw_sch:cut (wc (Zbu c t)) 0 6=some (wc (Zbu c t)):=by rw[Zbu,Ty.row_eq];rfl
@[simp] theorem flat_sch:(wc (Zbu c t)).all ZcM=false:=by rw[Zbu,Ty.row_eq];simp[wc,ZcM]
@[simp] theorem flat_ent:(wc (ZbG e)).all ZcM=false:=by rw[ZbG,Ty.row_eq];simp[wc,ZcM]
end
section
variable {C:Ctx}{E:Nat->Option V}{L:Nat->Option Obj}{oid:Nat}
@[simp] theorem x_sl {s:Nat} {x:Opd} {lo hi mx:Option Opd}:Zah C E L oid (.sl s x lo hi mx)=Zbw L s (x.val C E) (lo.map (·.val C E)) (hi.map (·.val C E)) (mx.map (·.val C E)):=rfl
theorem ZgE {α:Type}{f:α->List Cell}{k:Nat}(h:∀a,(f a).length=k)(l:List α):Zbx k (l.map f)=true:=by
 cases l with
 |nil=>rfl
 |cons a r=>simp[Zbx,h a]
@[simp] theorem fit_ent (l:List EntD):Zbx 7 (ZbO l)=true:=ZgE entRow_len l
@[simp] theorem fit_data (l:List DataD):Zbx 4 (Zax l)=true:=ZgE dataRow_len l
@[simp] theorem slice_from {s n:Nat} {k:IntKind} {rows:List (List Cell)} (h:n<=rows.length):Zbw L s (.sc (.c (.sl rows))) (some (.sc (.c (.int k (n:Int))))) none none=bif Zbx s rows then some (.sc (.c (.sl (rows.drop n))),[]) else none:=by
 simp[Zbw,Zaz,Zcj,Zbg,qbh h]
@[simp] theorem slice_from1 {s n:Nat} {k:IntKind} {rows:List (List Cell)} (h:n+1<=rows.length):Zbw L s (.sc (.c (.sl rows))) (some (.sc (.c (.int k ((n:Int)+1))))) none none=bif Zbx s rows then some (.sc (.c (.sl (rows.drop (n+1)))),[]) else none:=slice_from (n:=n+1) h
@[simp] theorem slice_to {s n:Nat} {k:IntKind} {rows:List (List Cell)} (h:n<=rows.length):Zbw L s (.sc (.c (.sl rows))) none (some (.sc (.c (.int k (n:Int))))) none=bif Zbx s rows then some (.sc (.c (.sl (rows.take n))),[]) else none:=by
 simp[Zbw,Zaz,Zcj,Zbg,qbh h]
@[simp] theorem entRows_drop (l:List EntD) (n:Nat):(ZbO l).drop n=ZbO (l.drop n):=by simp[ZbO]
@[simp] theorem dataRows_take (l:List DataD) (n:Nat):(Zax l).take n=Zax (l.take n):=by simp[Zax]
@[simp] theorem call1_clo {call:Zab} {f:FuncId} {w:W} {args:List (Bool×V)}:Zd1 call L oid (.sc (.clo f [true] [[w]])) args=Zk6 call L oid f (ZaY L (args++[(true,.sc w)])):=by
 rw[ZhH];rfl
end
end Go.Vs
namespace Go.Vs.Tryz
open Go Go.Vs
variable {A:Zab}
abbrev Zc5 (l:List EntD):V:=.sc (.c (.sl (ZbO l)))
def names (l:List EntD):List Str:=l.map (·.name)
@[simp] theorem names_len (l:List EntD):(names l).length=l.length:=by simp[names]
@[simp] theorem names_get (l:List EntD) (i:Nat):(names l)[i]?=(l[i]?).map (·.name):=by simp[names]
def Zcs (l:List EntD):Nat->List EntD
 |0=>[]
 |i+1=>match l[i]? with
  |none=>Zcs l i
  |some e=>if e.name∈names (l.drop (i+1)) then Zcs l i else Zcs l i++[e]
theorem Zd5 (l:List EntD):∀i,(Zcs l i).length<=i
 |0=>by simp[Zcs]
 |i+1=>by
  have:=Zd5 l i;simp only[Zcs];split
  .omega
  .split
   .omega
   .simp;omega
end Go.Vs.Tryz
