/- Chapters 4 and 11, walked: children. -/
import Derived.Test.YtccmnfpbcmccpaaGreatDoorR0w
import Derived.Test.YtccmnfpbcmccpaaGreatDoorM6w
set_option linter.all false
set_option maxHeartbeats 2000000
set_option maxRecDepth 100000
namespace Go.Vs.Tryz
open Go Go.Vs
def skip (f:Nat):Bool:=f==11||f==25||f==81
def T2:FuncId->Option VFun:=fun f=>bif skip f then none else T f
theorem Zeq:∀f vf,T2 f=some vf->mFun Go.Proofs.Tryz.prog f vf=true:=by
 intro f vf h;unfold T2 at h;cases hs:skip f with
 |true=>rw[hs]at h;cases h
 |false=>rw[hs]at h;exact T_ok f vf h
def I9 (f:Nat):Nat:=bif f==223 then 14 else 1
theorem WU (f:Nat):0<I9 f:=by
 unfold I9;cases f==223<;>decide
noncomputable def X1:Ag:=fun f args objs=>match objs with
 |_::_=>lim Tc (fun _ _ _=>none) gl0 f args objs
 |[]=>match args with
  |[.sc (.c (.str l))]=>bif f==284&&Nat.ble l.length 281474976710656 then some (.sc (.c (.str l)),[]) else none
  |[.sc (.c (.sl []))]=>bif f==149 then some (.sc (.full []),[]) else bif Gd f then some (.sc (.arr 0 0),[.arr (I9 f) [] 0]) else none
  |_=>lim Tc (fun _ _ _=>none) gl0 f args objs
noncomputable def X2 (A:Ag):Ag:=fun f args objs=>bif skip f then A f args objs else X1 f args objs
theorem Rx {f:FuncId}{args:List V}{objs:List Obj}{rv:V}{objs':List Obj}(h:lim Tc (fun _ _ _=>none) gl0 f args objs=some (rv,objs')):FnOk Go.Proofs.Tryz.prog gl0 f args objs rv objs':=by
 obtain⟨n,h⟩:=Lp h;exact NF follows UF QJ n h
theorem Zeo {A:Ag}(hA:∀f args objs rv objs',skip f=true->A f args objs=some (rv,objs')->FnOk Go.Proofs.Tryz.prog gl0 f args objs rv objs'):
 ∀(f:FuncId) (args:List V) (objs:List Obj) (rv:V) (objs':List Obj),X2 A f args objs=some (rv,objs')->FnOk Go.Proofs.Tryz.prog gl0 f args objs rv objs':=by
 intro f args objs rv objs' h;unfold X2 at h;cases hs:skip f with
 |true=>rw[hs]at h;exact hA _ _ _ _ _ hs h
 |false=>
  rw[hs]at h;simp only[cond_false]at h;unfold X1 at h;split at h
  .exact Rx h
  .split at h
   .rename_i l
    cases hc:(f==284&&Nat.ble l.length 281474976710656)with
    |false=>rw[hc]at h;cases h
    |true=>
     rw[hc]at h;simp only[cond_true,qd,qi]at h;simp only[qe,beq_iff_eq]at hc;obtain⟨rfl,rfl⟩:=h;obtain⟨rfl,hl⟩:=hc;exact TA (qm hl)
   .cases h140:f == 149 with
    |true=>
     rw[h140]at h;simp only[cond_true,qd,qi]at h;obtain⟨rfl,rfl⟩:=h;have:f=149:=(by simpa using h140);subst this;exact Ou rfl
    |false=>
     rw[h140]at h;simp only[cond_false]at h;cases hc:Gd f with
     |false=>rw[hc]at h;cases h
     |true=>
      rw[hc]at h;simp only[cond_true,qd,qi]at h;obtain⟨rfl,rfl⟩:=h;exact(Ou hc).owned (WU f)
   .exact Rx h
noncomputable def K (A:Ag):Ctx:=⟨lim T2 (X2 A) gl0,gl0⟩
noncomputable def Kc:Ctx:=⟨lim Tc (fun _ _ _=>none) gl0,gl0⟩
@[simp] theorem K_gl {A:Ag}:(K A).gl=gl0:=rfl
@[simp] theorem Kc_gl:Kc.gl=gl0:=rfl
theorem K_ok {A:Ag}(hA:∀f args objs rv objs',skip f=true->A f args objs=some (rv,objs')->FnOk Go.Proofs.Tryz.prog gl0 f args objs rv objs')
 {f:FuncId}{args:List V}{objs:List Obj}{rv:V}{objs':List Obj}(h:(K A).call f args objs=some (rv,objs')):FnOk Go.Proofs.Tryz.prog gl0 f args objs rv objs':=by
 obtain⟨n,h⟩:=Lp h;exact NF follows Zeq (Zeo hA) n h
variable {A:Ag}
theorem Ah {f:FuncId}{vf:VFun}{args:List V}{objs:List Obj}{r:V×List Obj}(hT:T2 f=some vf)(hn:args.length=vf.nparams)(ho:objs.length<=64)
 (h:wp (K A) vf.body (Du vf.keep objs.length vf.results r) ⟨Bb 0 args,Bb 0 (objs.map some)⟩):(K A).call f args objs=some r:=LD hT hn ho h
theorem fnO {f:FuncId}{args:List V}{objs:List Obj}{r:V×List Obj}(vf:VFun)(h:wp (K A) vf.body (Du vf.keep objs.length vf.results r) ⟨Bb 0 args,Bb 0 (objs.map some)⟩)(hT:T2 f=some vf:=by kernel_rfl)(hn:args.length=vf.nparams:=by rfl)(ho:objs.length<=64:=by simp):(K A).call f args objs=some r:=Ah hT hn ho h
theorem zd{p:Prop}(h:p:=by first|omega|(simp;done)|(simp;omega)):p:=h
theorem PA {f:FuncId}{vf:VFun}{args:List V}{objs:List Obj}{r:V×List Obj}(hT:Tc f=some vf)(hn:args.length=vf.nparams)(ho:objs.length<=64)
 (h:wp Kc vf.body (Du vf.keep objs.length vf.results r) ⟨Bb 0 args,Bb 0 (objs.map some)⟩):Kc.call f args objs=some r:=LD hT hn ho h
theorem PC {f:FuncId}(hs:skip f=false)(hT:T2 f=none){c:List Cell}{rows:CC1}:(K A).call f [.sc (.c (.sl (c::rows)))] []=Kc.call f [.sc (.c (.sl (c::rows)))] []:=by
 have h:X2 A f [.sc (.c (.sl (c::rows)))] []=Kc.call f [.sc (.c (.sl (c::rows)))] []:=by
  unfold X2;rw[hs];rfl
 rw[<-h];cases hx:X2 A f [.sc (.c (.sl (c::rows)))] []with
 |some r=>exact H4 hT hx
 |none=>
  cases hk:(K A).call f [.sc (.c (.sl (c::rows)))] []with
  |none=>rfl
  |some r=>
   obtain⟨n,hn⟩:=Lp hk;cases n with
   |zero=>cases hn
   |succ n=>
    simp only[Bi,hT]at hn;rw[hx]at hn;cases hn
theorem Zdg:(K A).call 149 [.sc (.c (.sl []))] []=some (.sc (.full []),[]):=by
 refine H4 (by kernel_rfl) ?_;simp only[X2,X1,show skip 149=false from rfl,cond_false,show(149==149)=true from rfl,cond_true]
theorem QW {f:FuncId}(hs:skip f=false)(hT:T2 f=none)(h140:(f==149)=false)(hf:Gd f=true):(K A).call f [.sc (.c (.sl []))] []=some (.sc (.arr 0 0),[.arr (I9 f) [] 0]):=by
 refine H4 hT ?_;simp only[X2,X1,hs,cond_false,h140,hf,cond_true]
theorem E7 (e:Exp)(h:e.kids.length+e.arms.length<=687194767360):(K A).call 46 [.ag (wc e.row)] []=some (.sc (.arr 0 e.children.length),[.arr 11 (wr (Exp.rows e.children)) 0]):=by
 refine Ah (vf:=v46) (by kernel_rfl) rfl (by decide) ?_;unfold v46;simp(disch:=try exact zd);refine Am (fun i=>⟨[(1,.sc (.ptr 64 0)),(3,.sc (.arr 320 (e.kids.length+i))),(4,.sc (.c (.int .i64 i)))],
  [(64,some (.box (wc e.row))),(320,some (.arr 11 (wr (Exp.rows (e.kids++(e.arms.map (·.2)).take i))) 0))]⟩) e.arms.length ?_ ?_ ?_
 .simp
 .intro i hi
  obtain⟨x,hx⟩:=Ab hi;have hx':(e.arms.map (·.2))[i]?=some x.2:=by simp[hx]
  unfold N3;simp(disch:=try exact zd) [hi,hx,AP hx',qaE,-getElem?_pos]
 .unfold N3
  have ht:(e.arms.map (·.2)).take e.arms.length=e.arms.map (·.2):=qh sy;simp(disch:=try exact zd) [Exp.children,ht]
variable {A:Ag}
abbrev AA (l:List Str):V:=.sc (.c (.sl (Ak l)))
abbrev strV (s:Str):V:=.sc (.c (.str s))
abbrev intV (n:Int):V:=.sc (.c (.int .i64 n))
abbrev Ac (b:Bool):V:=.sc (.c (.bool b))
abbrev expV (e:Exp):V:=.ag (wc e.row)
@[simp] theorem wc_strRow (s:Str):wc (D7 s)=[.c (.str s)]:=rfl
@[simp] theorem wc_intRow (n:Int):wc (FO n)=[.c (.int .i64 n)]:=rfl
def A5 (l:List Str)(s:Str):Nat:=l.findIdx (· == s)
theorem Jl {l:List Str}{s:Str}{i:Nat}(h:i<A5 l s):∃x,l[i]?=some x/\¬x=s:=by
 have hlt:i<l.length:=qak h List.findIdx_le_length;refine⟨l[i],qj hlt,?_⟩;have:=List.not_of_lt_findIdx h;simpa using this
theorem Gm {l:List Str}{s:Str}(h:A5 l s<l.length):l[A5 l s]?=some s:=by
 have h1:=List.findIdx_getElem (w:=h);rw[qj h];exact congrArg some (beq_iff_eq.1 h1)
theorem Ev {l:List Str}{s:Str}:A5 l s<l.length↔s∈l:=by
 unfold A5;rw[List.findIdx_lt_length];simp
theorem NK (l:List Str)(s:Str):A5 l s<=l.length:=List.findIdx_le_length
theorem FZ (l:List Str)(s:Str)(h:l.length<=1649267441664):(K A).call 166 [AA l,strV s] []=some (Ac (decide (s∈l)),[]):=by
 refine Ah (vf:=v166) (by kernel_rfl) rfl (by decide) ?_;unfold v166;have hp:=NK l s;simp(disch:=try exact zd);refine Am (fun i=>⟨[(0,AA l),(1,strV s),(5,intV i)],[]⟩) (A5 l s) ?_ ?_ ?_
 .simp
 .intro i hi
  obtain⟨x,hx,hne⟩:=Jl hi;have hlt:i<l.length:=oz
  unfold MG;simp(disch:=try exact zd) [hx,hne,hlt,-getElem?_pos]
 .unfold MG
  by_cases hm:A5 l s<l.length
  .have hx:=Gm hm
   simp(disch:=try exact zd) [hx,hm,Ev.1 hm,-getElem?_pos]
  .have hn:s∉l:=fun h=>hm (Ev.2 h)
   simp(disch:=try exact zd) [hm,hn,-getElem?_pos]
theorem ZfS (l:List Str)(s:Str)(h:l.length<=1649267441664):(K A).call 239 [AA l,strV s] []=some (intV (if s∈l then (A5 l s:Int) else -1),[]):=by
 refine Ah (vf:=v239) (by kernel_rfl) rfl (by decide) ?_;unfold v239;have hp:=NK l s;simp(disch:=try exact zd);refine Am (fun i=>⟨[(0,AA l),(1,strV s),(7,intV l.length),(8,intV i)],[]⟩) (A5 l s) ?_ ?_ ?_
 .simp
 .intro i hi
  obtain⟨x,hx,hne⟩:=Jl hi;have hlt:i<l.length:=oz
  have hne':¬s=x:=fun h=>hne h.symm;unfold Ny;simp(disch:=try exact zd) [hx,hne',hlt,-getElem?_pos]
 .unfold Ny
  by_cases hm:A5 l s<l.length
  .have hx:=Gm hm
   simp(disch:=try exact zd) [hx,hm,Ev.1 hm,-getElem?_pos]
  .have hn:s∉l:=fun h=>hm (Ev.2 h)
   simp(disch:=try exact zd) [hm,hn]
theorem E5 (l:List Str)(s:Str)(h:l.length<=1649267441664):(K A).call 221 [AA l,strV s] []=some (Ac (decide (s∈l)),[]):=by
 refine Ah (vf:=v221) (by kernel_rfl) rfl (by decide) ?_;unfold v221;have:=ZfS (A:=A) l s h;simp[this];by_cases hn:s∈l<;>simp[hn]
theorem few8 (l:List Int):(K A).call 12 [.sc (.c (.sl (l.map FO)))] []=some (Ac (decide (l.length<=60)),[]):=by
 refine Ah (vf:=v12) (by kernel_rfl) rfl (by decide) ?_;unfold v12;simp;omega
def Ck:List Str->List Str->Nat
 |a::l,b::m=>if a=b then Ck l m+1 else 0
 |_,_=>0
theorem QS:∀{l m:List Str}{i:Nat},i<Ck l m->∃x,l[i]?=some x/\m[i]?=some x
 |[],_,_,h=>by simp[Ck]at h
 |_::_,[],_,h=>by simp[Ck]at h
 |a::l,b::m,i,h=>by
  simp only[Ck]at h;split at h
  .rename_i hab
   subst hab;cases i with
   |zero=>exact⟨a,rfl,rfl⟩
   |succ i=>simpa using QS (l:=l) (m:=m) (i:=i) oz
  .omega
theorem Vg:∀(l m:List Str),Ck l m<=l.length
 |[],_=>by simp[Ck]
 |_::_,[]=>by simp[Ck]
 |a::l,b::m=>by
  simp only[Ck];split
  .have:=Vg l m
   simp only[qI];omega
  .simp
theorem SN:∀{l m:List Str},l.length=m.length->Ck l m<l.length->∃x y,l[Ck l m]?=some x/\m[Ck l m]?=some y/\x≠y
 |[],_,_,h=>by simp at h
 |_::_,[],h,_=>by simp at h
 |a::l,b::m,h,h2=>by
  simp only[Ck]at h2 |-;split
  .rename_i hab
   rw[if_pos hab]at h2;simpa using SN (l:=l) (m:=m) (by simpa using h) (by simpa using h2)
  .rename_i hab
   exact⟨a,b,rfl,rfl,hab⟩
theorem PX:∀{l m:List Str},l.length=m.length->(Ck l m=l.length↔l=m)
 |[],[],_=>by simp[Ck]
 |[],_::_,h=>by simp at h
 |_::_,[],h=>by simp at h
 |a::l,b::m,h=>by
  simp only[Ck];split
  .rename_i hab
   have:=PX (l:=l) (m:=m) (by simpa using h);simp[hab,this]
  .rename_i hab
   simp[hab]
variable {A:Ag}
theorem Xh {l:List Exp}(h:l≠[]):∃c rows,Exp.rows l=c::rows:=by
 cases l with
 |nil=>exact absurd rfl h
 |cons e r=>exact⟨e.row,Exp.rows r,by rw[Exp.rows]⟩
theorem V6 (l:List Exp)(h:l≠[])(hl:l.length<=687194767360):(K A).call 149 [.sc (.c (.sl (Exp.rows l)))] []=some (.sc (.arr 0 l.length),[.arr 11 (wr (Exp.rows l)) 0]):=by
 obtain⟨c,rows,hr⟩:=Xh h;have hlen:rows.length+1=l.length:=by
  have:=Exp.rows_len l;rw[hr]at this;simpa using this
 have hok:AZ 11 (wr (c::rows))=true:=hr▸okRows_exp l;rw[hr,PC (by kernel_rfl) (by kernel_rfl)];refine PA (vf:=v149) (by kernel_rfl) rfl (by decide) ?_;unfold v149;rw[wr_cons]at hok;simp(disch:=try exact zd) [hok];omega
theorem D8 (e:Exp)(h1:e.kids=[])(h2:e.arms=[]):(K A).call 99 [expV e] []=some (.sc (.full []),[]):=by
 refine Ah (vf:=v99) (by kernel_rfl) rfl (by decide) ?_;have hc:=Zdg (A:=A);have hn:Exp.rows []=[]:=by rw[Exp.rows]
 unfold v99;simp[h1,hn,hc];refine Am (fun i=>⟨[(3,.sc (.full [])),(10,.sc (.c (.sl (Exp.armRows e.arms)))),(11,intV e.arms.length),(12,intV i)],[(64,some (.box (wc e.row)))]⟩) 0 ?_ ?_ ?_
 .simp
 .intro i hi;omega
 .unfold Js
  simp[h2]
theorem Ch (e:Exp)(h:e.kids≠[])(hl:e.weight<=687194767360):(K A).call 99 [expV e] []=some (.sc (.arr 0 e.children.length),[.arr 11 (wr (Exp.rows e.children)) 0]):=by
 refine Ah (vf:=v99) (by kernel_rfl) rfl (by decide) ?_;have hk:=e.children_le;rw[e.children_len]at hk;have hc:=V6 (A:=A) e.kids h oz;unfold v99;simp[hc];refine Am (fun i=>⟨[(3,.sc (.arr 352 (e.kids.length+i))),(10,.sc (.c (.sl (Exp.armRows e.arms)))),(11,intV e.arms.length),(12,intV i)],
  [(64,some (.box (wc e.row))),(352,some (.arr 11 (wr (Exp.rows (e.kids++(e.arms.map (·.2)).take i))) 0))]⟩) e.arms.length ?_ ?_ ?_
 .simp
 .intro i hi
  obtain⟨x,hx⟩:=Ab hi;have hx':(e.arms.map (·.2))[i]?=some x.2:=by simp[hx]
  unfold Js;simp(disch:=try exact zd) [hi,hx,AP hx',qaE,-getElem?_pos]
 .unfold Js
  have ht:(e.arms.map (·.2)).take e.arms.length=e.arms.map (·.2):=qh sy;simp(disch:=try exact zd) [Exp.children,ht]
abbrev ED (i:Int):V:=.sc (.c (.sl [[.int .i64 i]]))
theorem at89 (e x:Exp)(i:Nat)(h:e.kids≠[])(hx:e.children[i]?=some x)(hl:e.weight<=687194767360):(K A).call 237 [expV e,ED i] []=some (.tu [expV x,Ac true],[]):=by
 refine Ah (vf:=v237) (by kernel_rfl) rfl (by decide) ?_;have hk:=e.children_le;have hi:i<e.children.length:=(qf.1 hx).1;have hi':¬(e.kids.length:Int)+e.arms.length<=i:=by rw[e.children_len]at hi;omega
 have hi2:¬(i:Int)<0:=oz
 have hc:=Ch (A:=A) e h hl;rw[e.children_len]at hk hi;unfold v237;simp;refine Am (fun j=>match j with
  |0=>⟨[(2,.sc (.ptr 64 0)),(4,.sc (.ptr 128 0)),(9,ED i),(10,intV 1),(11,intV 0)],[(64,some (.box (wc e.row))),(128,some (.box [zi,zi,zs,zi,.nil,.nil,zi,zs,zi,zi,.nil]))]⟩
  |_=>⟨[(2,.sc (.ptr 64 0)),(4,.sc (.ptr 128 0)),(9,ED i),(10,intV 1),(11,intV 1)],[(64,some (.box (wc x.row))),(128,some (.box [zi,zi,zs,zi,.nil,.nil,zi,zs,zi,zi,.nil]))]⟩) 1 ?_ ?_ ?_
 .simp
 .intro j hj
  obtain rfl:j=0:=oz
  unfold Nm;simp(disch:=try exact zd) [hc,hi',hi2,hx,-getElem?_pos,qP]
 .unfold Nm
  simp(disch:=try exact zd)
theorem Zek (e:Exp)(i:Nat)(h:e.wf1)(hi:i<e.children.length)(hl:e.weight<=687194767360):(K A).call 255 [expV e,intV i] []=some (AA (e.bound i),[]):=by
 refine Ah (vf:=v255) (by kernel_rfl) rfl (by decide) ?_;have hk:=e.children_le;have hn:Ak []=[]:=rfl;have h1:∀s:Str,Ak [s]=[[.str s]]:=fun _=>rfl;rw[e.children_len]at hk hi;unfold v255;by_cases h4:e.kind=4
 .simp[h4,Exp.bound,h1]
 .by_cases h7:e.kind=7
  .simp[h7,Exp.bound,h1]
  .by_cases h6:e.kind=6
   .by_cases hi1:i=1
    .simp[h6,hi1,Exp.bound,h1]
    .have hi1':¬(i:Int)=1:=oz
     simp[h6,hi1,hi1',Exp.bound,hn]
   .by_cases h8:e.kind=8
    .have hk1:=h.1 h8
     by_cases hi1:0<i
     .obtain ⟨x,hx⟩:=Ab (l:=e.arms) (i:=i-1) oz
      have hi2:(1:Int)<=i:=oz;have hw:IntKind.i64.wrap ((i:Int)-1)=((i-1:Nat):Int):=(by rw[FA _ oz];omega);simp(disch:=try exact zd) [h8,hi1,hi2,hk1,hw,hx,Exp.bound,-getElem?_pos]
     .have hi2:¬(1:Int)<=i:=oz
      simp[h8,hi1,hi2,hk1,Exp.bound,hn]
    .simp[h4,h7,h6,h8,Exp.bound,hn]
theorem Zah (s:Str):(K A).call 147 [.sc (.c (.sl [])),.sc (.clo 257 [true] [[.ptr 0 0]])] [.box [.c (.str s)]]=some (intV (-1),[.box [.c (.str s)]]):=by
 refine fnO v147 ?_;unfold v147;simp;refine Am (fun i=>⟨[(0,.sc (.c (.sl []))),(1,.sc (.clo 257 [true] [[.ptr 0 0]])),(7,intV 0),(8,intV i)],[(0,some (.box [.c (.str s)]))]⟩) 0 ?_ ?_ ?_
 .simp
 .intro i hi;omega
 .unfold KC
  simp
theorem Z6 (s:Str):(K A).call 256 [.sc (.arr 0 0),.sc (.clo 257 [true] [[.ptr 1 0]])] [.arr 1 [] 0,.box [.c (.str s)]]=some (.sc (.arr 0 0),[.arr 1 [] 0,.box [.c (.str s)]]):=by
 refine fnO v256 ?_;have h:=Zah (A:=A) s;unfold v256;simp[h]
theorem Zb5 (e:Exp)(i:Nat)(h:e.wf1)(hi:i<e.children.length)(hl:e.weight<=687194767360):(K A).call 109 [expV e,intV i] []=some (AA (e.bound i),[]):=by
 refine Ah (vf:=v109) (by kernel_rfl) rfl (by decide) ?_;have hk:=e.children_le;have hn:Ak []=[]:=rfl;have h1:∀s:Str,Ak [s]=[[.str s]]:=fun _=>rfl;rw[e.children_len]at hk hi;unfold v109;by_cases h4:e.kind=4
 .simp[h4,Exp.bound,h1]
 .by_cases h7:e.kind=7
  .simp[h7,Exp.bound,h1]
  .by_cases h6:e.kind=6
   .by_cases hi1:i=1
    .simp[h6,hi1,Exp.bound,h1]
    .have hi1':¬(i:Int)=1:=oz
     simp[h6,hi1,hi1',Exp.bound,hn]
   .by_cases h8:e.kind=8
    .have hk1:=h.1 h8
     by_cases hi1:0<i
     .obtain ⟨x,hx⟩:=Ab (l:=e.arms) (i:=i-1) oz
      have hi2:(0:Int)<i:=oz;have hw:IntKind.i64.wrap ((i:Int)-1)=((i-1:Nat):Int):=(by rw[FA _ oz];omega);simp(disch:=try exact zd) [h8,hi1,hi2,hk1,hw,hx,Exp.bound]
     .have hi2:¬(0:Int)<i:=oz
      simp[h8,hi1,hi2,hk1,Exp.bound,hn]
    .simp[h4,h7,h6,h8,Exp.bound,hn]
variable {A:Ag}
theorem YS {e:Exp}{i:Nat}(h:¬(e.kind=8/\0<i)):e.bound i=[]\/∃s,e.bound i=[s]:=by
 unfold Exp.bound;rw[if_neg h];split
 .exact .inr ⟨_,rfl⟩
 .exact .inl rfl
theorem SK {e:Exp}{i:Nat}(h:e.wf1)(hi:i<e.children.length):e.kids≠[]:=by
 intro hk;rw[e.children_len,hk]at hi;by_cases h8:e.kind=8
 .have:=h.1 h8
  rw[hk]at this;simp at this
 .rw [h.2.1 h8] at hi
  simp at hi
theorem ZhB (e x:Exp)(i:Nat)(h:e.wf1)(hb:¬(e.kind=8/\0<i))(hx:e.children[i]?=some x)(hl:e.weight<=687194767360):(K A).call 238 [expV e,ED i] []=some (AA (e.bound i),[]):=by
 refine Ah (vf:=v238) (by kernel_rfl) rfl (by decide) ?_;have hi:i<e.children.length:=(qf.1 hx).1;have hk:=SK h hi;have h51:=Ch (A:=A) e hk hl;have h89:=at89 (A:=A) e x i hk hx hl;have h135:=Zek (A:=A) e i h hi hl;have hn:Ak []=[]:=rfl;rw[e.children_len]at hi;have hle:=e.children_le;rw[e.children_len]at hle;unfold v238;simp(disch:=try exact zd) [h89];refine Am (fun j=>match j with
  |0=>⟨[(2,.sc (.ptr 64 0)),(7,.sc (.arr 961 0)),(20,ED i),(21,intV 1),(22,intV 0)],[(64,some (.box (wc e.row))),(961,some (.arr 1 [] 0))]⟩
  |_=>⟨[(2,.sc (.ptr 64 0)),(7,.sc (.arr 961 (e.bound i).length)),(20,ED i),(21,intV 1),(22,intV 1)],[(64,some (.box (wc x.row))),(961,some (.arr 1 (wr (Ak (e.bound i))) 0))]⟩) 1 ?_ ?_ ?_
 .simp
 .intro j hj
  obtain rfl:j=0:=oz
  unfold Oa;simp(disch:=try exact zd) [h135,-getElem?_pos,qP];rcases YS hb with h0|⟨s,h0⟩
  .rw [h0]
   refine Am (fun j=>⟨[(2,.sc (.ptr 64 0)),(7,.sc (.arr 961 0)),(20,ED i),(21,intV 1),(22,intV 0),(9,intV i),(28,AA []),(29,intV 0),(30,intV j)],[(64,some (.box (wc e.row))),(961,some (.arr 1 [] 0))]⟩) 0 ?_ ?_ ?_
   .simp
   .intro j hj;omega
   .unfold HP
    simp(disch:=try exact zd) [h51,hx,hn,-getElem?_pos]
  .rw [h0]
   have h1:Ak [s]=[[.str s]]:=rfl;have h136:=Z6 (A:=A) s;refine Am (fun j=>match j with
    |0=>⟨[(2,.sc (.ptr 64 0)),(7,.sc (.arr 961 0)),(20,ED i),(21,intV 1),(22,intV 0),(9,intV i),(28,AA [s]),(29,intV 1),(30,intV 0)],[(64,some (.box (wc e.row))),(961,some (.arr 1 [] 0))]⟩
    |_=>⟨[(2,.sc (.ptr 64 0)),(7,.sc (.arr 961 1)),(20,ED i),(21,intV 1),(22,intV 0),(9,intV i),(28,AA [s]),(29,intV 1),(30,intV 1)],[(64,some (.box (wc e.row))),(961,some (.arr 1 (wr (Ak [s])) 0))]⟩) 1 ?_ ?_ ?_
   .simp
   .intro j hj
    obtain rfl:j=0:=oz;unfold HP;simp(disch:=try exact zd) [h136,h1,-getElem?_pos,qP]
   .unfold HP
    simp(disch:=try exact zd) [h51,hx,-getElem?_pos]
 .unfold Oa
  simp(disch:=try exact zd)
theorem ID (e:Exp)(i:Nat)(h:e.wf1)(hi:i<e.children.length)(hl:e.weight<=687194767360):(K A).call 220 [expV e,intV i] []=some (AA (e.bound i),[]):=by
 refine Ah (vf:=v220) (by kernel_rfl) rfl (by decide) ?_;obtain⟨x,hx⟩:=Ab hi;have hk:=SK h hi;have h89:=at89 (A:=A) e x i hk hx hl;rw[e.children_len]at hi;have hle:=e.children_le;rw[e.children_len]at hle;unfold v220;by_cases hb:e.kind=8/\0<i
 .have hk1:=h.1 hb.1
  obtain⟨y,hy⟩:=Ab (l:=e.arms) (i:=i-1) oz;have hi2:(1:Int)<=i:=oz
  have hw:IntKind.i64.wrap ((i:Int)-1)=((i-1:Nat):Int):=by rw[FA _ oz];omega
  simp(disch:=try exact zd) [h89,hb,hi2,hk1,hw,hy,Exp.bound,-getElem?_pos]
 .have h90:=ZhB (A:=A) e x i h hb hx hl
  by_cases h8:e.kind=8
  .have hk1:=h.1 h8
   have hi2:¬(1:Int)<=i:=oz;simp(disch:=try exact zd) [h89,h8,hi2,hk1,h90]
  .simp(disch:=try exact zd) [h89,h8,h90]
variable {A:Ag}
def Bg (hidden out:List Str)(s:Str):List Str:=if s∈hidden\/s∈out then out else out++[s]
def Fb (e:Exp)(out:List Str)(p:List Str×Nat):List Str:=p.1.foldl (Bg (e.bound p.2)) out
def Ad (e:Exp):List Str:=e.fold fun e l=>if e.kind=1 then [e.name] else l.zipIdx.foldl (Fb e) []
theorem Ep (e:Exp):Ad e=if e.kind=1 then [e.name] else (e.children.map Ad).zipIdx.foldl (Fb e) []:=Exp.fold_eq _ e
theorem ZaR (h out:List Str)(s:Str):(Bg h out s).length<=out.length+1:=by
 unfold Bg;split<;>simp
theorem PN (h:List Str):∀(l out:List Str),(l.foldl (Bg h) out).length<=out.length+l.length
 |[],out=>by simp
 |s::l,out=>by
  have h1:=ZaR h out s;have h2:=PN h l (Bg h out s);simp only[qaD,qI];omega
theorem NN (e:Exp):∀(l:List (List Str×Nat))(out:List Str),(l.foldl (Fb e) out).length<=out.length+(l.map fun p=>p.1.length).sum
 |[],out=>by simp
 |p::l,out=>by
  have h1:(Fb e out p).length<=out.length+p.1.length:=PN _ _ _;have h2:=NN e l (Fb e out p);simp only[qaD,qt,qQ];omega
theorem DS {l:List Nat}{i:Nat}:(l.take i).sum<=l.sum:=by
 have:l.sum=(l.take i).sum+(l.drop i).sum:=by rw[<-qaF,qa6]
 omega
theorem VZ (l:List (List Str)):(l.zipIdx.map fun p=>p.1.length)=l.map List.length:=by
 rw[show(fun p:List Str×Nat=>p.1.length)=List.length∘Prod.fst from rfl,<-qas,List.zipIdx_map_fst]
theorem Gp {α:Type}{f g:α->Nat}:∀{l:List α},(∀x∈l,f x<=g x)->(l.map f).sum<=(l.map g).sum
 |[],_=>by simp
 |a::l,h=>by
  have h1:=h a sy;have h2:=Gp (l:=l) fun x hx=>h x (by simp[hx]);simp only[qt,qQ];omega
theorem D4 (e:Exp):(Ad e).length<=e.weight:=by
 induction e using Exp.ind with
 |h e ih=>
  rw[Ep];split
  .exact e.weight_pos
  .have h1:=NN e (e.children.map Ad).zipIdx []
   rw[VZ,qas]at h1;have h2:(e.children.map (List.length∘Ad)).sum<=(e.children.map Exp.weight).sum:=Gp ih;rw[e.weight_eq];simp only[qZ]at h1;omega
def outP (e:Exp)(i:Nat):List Str:=((e.children.map Ad).zipIdx.take i).foldl (Fb e) []
theorem YT (e:Exp)(i:Nat):(outP e i).length<=e.weight:=by
 have h1:=NN e ((e.children.map Ad).zipIdx.take i) [];have h2:(((e.children.map Ad).zipIdx.take i).map fun p=>p.1.length).sum<=(e.children.map Exp.weight).sum:=by
  rw[qaC,VZ,qas];exact qr DS (Gp fun x _=>D4 x)
 unfold outP;rw[e.weight_eq];simp only[qZ]at h1;omega
theorem MK {e x:Exp}{i:Nat}(hx:e.children[i]?=some x):outP e (i+1)=(Ad x).foldl (Bg (e.bound i)) (outP e i):=by
 have h:(e.children.map Ad).zipIdx[i]?=some (Ad x,i):=by simp[qan,hx]
 unfold outP;rw[AP h,qaR];rfl
theorem O0 (e:Exp):outP e e.children.length=(e.children.map Ad).zipIdx.foldl (Fb e) []:=by
 unfold outP;rw[qh sy]
theorem Vh (e:Exp)(hw:e.wf)(hl:e.weight<=687194767360):(K A).call 201 [expV e] []=some (AA (Ad e),[]):=by
 induction e using Exp.ind with
 |h e ih=>
 refine Ah (vf:=v201) (by kernel_rfl) rfl (by decide) ?_;have hle:=e.children_le;rw[e.children_len]at hle;have h1:∀s:Str,Ak [s]=[[.str s]]:=fun _=>rfl;have hn:Ak []=[]:=rfl;by_cases hk:e.kind=1
 .unfold v201
  simp[hk,Ep,h1]
 .by_cases hkids:e.kids=[]
  .have harms:e.arms=[]:=by
    by_cases h8:e.kind=8
    .have:=hw.one.1 h8
     rw[hkids]at this;simp at this
    .exact hw.one.2.1 h8
   have hc:=D8 (A:=A) e hkids harms;have hch:e.children=[]:=(by simp[Exp.children,hkids,harms]);unfold v201;simp(disch:=try exact zd) [hk,hc];refine Am (fun i=>⟨[(1,.sc (.ptr 64 0)),(3,.sc (.arr 641 0)),(16,.sc (.full [])),(17,intV 0),(18,intV i)],[(64,some (.box (wc e.row))),(641,some (.arr 1 [] 0))]⟩) 0 ?_ ?_ ?_
   .simp
   .intro i hi;omega
   .unfold JO
    simp[Ep,hk,hch,hn]
  .have hc:=Ch (A:=A) e hkids hl
   unfold v201;simp(disch:=try exact zd) [hk,hc];refine Am (fun i=>⟨[(1,.sc (.ptr 64 0)),(3,.sc (.arr 641 (outP e i).length)),(16,.sc (.arr 800 e.children.length)),(17,intV e.children.length),(18,intV i)],[(64,some (.box (wc e.row))),(641,some (.arr 1 (wr (Ak (outP e i))) 0)),(800,some (.arr 11 (wr (Exp.rows e.children)) 0))]⟩) e.children.length ?_ ?_ ?_
   .simp[outP,hn]
   .intro i hi
    obtain⟨x,hx⟩:=Ab hi;have hmem:x∈e.children:=qc hx;have h19:=ih x hmem (hw.child hmem) (by have:=Exp.child_lt hmem;omega);have h52:=ID (A:=A) e i hw.one hi hl;have hfl:=D4 x;have hol:=YT e i;have hbl:=e.bound_le i;have hxl:=Exp.child_lt hmem;rw[e.children_len]at hi;have hi':(i:Int)<(e.kids.length:Int)+e.arms.length:=oz;unfold JO;simp(disch:=try exact zd) [hi',hx,h52,h19,-getElem?_pos]
    refine Am (fun j=>⟨[(1,.sc (.ptr 64 0)),(3,.sc (.arr 641 (((Ad x).take j).foldl (Bg (e.bound i)) (outP e i)).length)),(16,.sc (.arr 800 e.children.length)),(17,intV e.children.length),(18,intV i),(6,AA (e.bound i)),(27,AA (Ad x)),(28,intV (Ad x).length),(29,intV j)],
     [(64,some (.box (wc e.row))),(641,some (.arr 1 (wr (Ak (((Ad x).take j).foldl (Bg (e.bound i)) (outP e i)))) 0)),(800,some (.arr 11 (wr (Exp.rows e.children)) 0)),(1216,some (.box (wc x.row)))]⟩) (Ad x).length ?_ ?_ ?_
    .simp
    .intro j hj
     obtain⟨s,hs⟩:=Ab hj;rw[AP hs,qaR,qaD,List.foldl_nil];have hjl:=PN (e.bound i) ((Ad x).take j) (outP e i);have hjl2:((Ad x).take j).length<=(Ad x).length:=(by simp;omega);generalize ((Ad x).take j).foldl (Bg (e.bound i)) (outP e i)=out at hjl |-;have hc1:=E5 (A:=A) (e.bound i) s oz;have hc2:=E5 (A:=A) out s oz;unfold Jd;by_cases hb:s∈e.bound i
     .simp(disch:=try exact zd) [hj,hs,hc1,hb,Bg,-getElem?_pos]
     .by_cases ho:s∈out
      .simp(disch:=try exact zd) [hj,hs,hc1,hc2,hb,ho,Bg,-getElem?_pos]
      .simp(disch:=try exact zd) [hj,hs,hc1,hc2,hb,ho,Bg,-getElem?_pos]
    .unfold Jd
     simp(disch:=try exact zd) [MK hx,-getElem?_pos]
   .unfold JO
    have he:=O0 e;rw[e.children_len]at he;simp(disch:=try exact zd) [Ep,hk,he]
variable {A:Ag}
def CW (e:Exp)(bound out:List Str):List Str:=if e.kind=1/\e.name∉bound/\e.name∉out then out++[e.name] else out
def Ki (e:Exp)(bound:List Str)(out:List Str)(p:(List Str->List Str->List Str)×Nat):List Str:=p.1 (bound++e.bound p.2) out
def Cl (e:Exp):List Str->List Str->List Str:=e.fold fun e l bound out=>l.zipIdx.foldl (Ki e bound) (CW e bound out)
theorem TZ (e:Exp)(bound out:List Str):Cl e bound out=(e.children.map Cl).zipIdx.foldl (Ki e bound) (CW e bound out):=by
 unfold Cl;rw[Exp.fold_eq]
def outR (e:Exp)(bound out:List Str)(i:Nat):List Str:=((e.children.map Cl).zipIdx.take i).foldl (Ki e bound) (CW e bound out)
theorem Je {e x:Exp}{bound out:List Str}{i:Nat}(hx:e.children[i]?=some x):outR e bound out (i+1)=Cl x (bound++e.bound i) (outR e bound out i):=by
 have h:(e.children.map Cl).zipIdx[i]?=some (Cl x,i):=by simp[qan,hx]
 unfold outR;rw[AP h,qaR];rfl
theorem OP (e:Exp)(bound out:List Str):outR e bound out e.children.length=Cl e bound out:=by
 rw[TZ];unfold outR;rw[qh sy]
theorem Ni (e:Exp)(bound out:List Str):(CW e bound out).length<=out.length+1:=by
 unfold CW;split<;>simp
theorem Ul {e:Exp}{i:Nat}:((e.children.take i).map Exp.weight).sum<=(e.children.map Exp.weight).sum:=by
 rw[qaC];exact DS
theorem Ze8 (e:Exp):∀bound out:List Str,(Cl e bound out).length<=out.length+e.weight:=by
 induction e using Exp.ind with
 |h e ih=>
  intro bound out;have key:∀i,i<=e.children.length->(outR e bound out i).length<=out.length+1+((e.children.take i).map Exp.weight).sum:=by
   intro i
   induction i with
   |zero=>
    intro _;have:=Ni e bound out;simpa[outR]using this
   |succ i ihi=>
    intro hi;obtain⟨x,hx⟩:=Ab (l:=e.children) (i:=i) oz;have h1:=ih x (qc hx) (bound++e.bound i) (outR e bound out i);have h2:=ihi oz;rw[Je hx,AP hx,qai,qaF];simp only[qt,qX,qQ,qaJ];omega
  have h1:=key _ (qg _);rw[OP,qaM]at h1;rw[e.weight_eq];omega
theorem Zfo (e:Exp):∀bound out:List Str,out.length<=(Cl e bound out).length:=by
 induction e using Exp.ind with
 |h e ih=>
  intro bound out;have key:∀i,i<=e.children.length->out.length<=(outR e bound out i).length:=by
   intro i
   induction i with
   |zero=>
    intro _;simp only[outR,List.take_zero,List.foldl_nil,CW];split<;>simp
   |succ i ihi=>
    intro hi;obtain⟨x,hx⟩:=Ab (l:=e.children) (i:=i) oz;rw[Je hx];exact qr (ihi oz) (ih x (qc hx) _ _)
  have:=key _ (qg _);rwa[OP]at this
theorem Zbl {e:Exp}{bound out:List Str}:∀i,i<=e.children.length->(outR e bound out i).length<=out.length+1+((e.children.take i).map Exp.weight).sum:=by
 intro i
 induction i with
 |zero=>
  intro _;have:=Ni e bound out;simpa[outR]using this
 |succ i ihi=>
  intro hi;obtain⟨x,hx⟩:=Ab (l:=e.children) (i:=i) oz;have h1:=Ze8 x (bound++e.bound i) (outR e bound out i);have h2:=ihi oz;rw[Je hx,AP hx,qai,qaF];simp only[qt,qX,qQ,qaJ];omega
theorem Yp {e x:Exp}{bound out:List Str}{i:Nat}(hx:e.children[i]?=some x):(outR e bound out i).length+x.weight<=out.length+e.weight:=by
 have hi:i<e.children.length:=(qf.1 hx).1;have h1:=Zbl (e:=e) (bound:=bound) (out:=out) i oz;have h2:=Ul (e:=e) (i:=i+1);rw[AP hx,qai,qaF]at h2;simp only[qt,qX,qQ,qaJ]at h2;rw[e.weight_eq];omega
theorem Zd2 {e x:Exp}{i:Nat}(hx:e.children[i]?=some x):(e.bound i).length+x.weight<=e.weight:=by
 have h1:=Il (f:=Exp.weight) (qc hx);have h2:(e.bound i).length<=1+(e.arms.map fun a=>a.1.vars.length).sum:=by
  unfold Exp.bound;split
  .simp
  .split
   .cases h:e.arms[i-1]? with
    |none=>simp
    |some a=>
     have:=Il (f:=fun a:ArmH×Exp=>a.1.vars.length) (qc h);simp only[qv,Option.getD_some];omega
   .simp
 rw[e.weight_eq];omega
theorem ZbJ (e:Exp):∀(bound out:List Str),e.wf->bound.length+e.weight<=687194767360->out.length+e.weight<=687194767360->
 (K A).call 111 [.sc (.arr 0 out.length),AA bound,expV e] [.arr 1 (wr (Ak out)) 0]=some (.sc (.arr 0 (Cl e bound out).length),[.arr 1 (wr (Ak (Cl e bound out))) 0]):=by
 induction e using Exp.ind with
 |h e ih=>
 intro bound out hw hbl hol;refine fnO v111 ?_;have hle:=e.children_le;have hc:=E7 (A:=A) e (by rw[e.children_len]at hle;omega);have hb1:=FZ (A:=A) bound e.name oz;have hb2:=FZ (A:=A) out e.name oz;have hsl:=Ni e bound out;have hwp:=e.weight_pos;unfold v111
 refine D3 ⟨[(0,.sc (.arr 0 out.length)),(1,AA bound),(5,.sc (.ptr 64 0))],[(0,some (.arr 1 (wr (Ak out)) 0)),(64,some (.box (wc e.row)))]⟩ sy ?_
 refine To ⟨[(0,.sc (.arr 0 (CW e bound out).length)),(1,AA bound),(5,.sc (.ptr 64 0)),(7,.sc (.arr 1760 e.children.length))],[(0,some (.arr 1 (wr (Ak (CW e bound out))) 0)),(64,some (.box (wc e.row))),(1760,some (.arr 11 (wr (Exp.rows e.children)) 0))]⟩ ?_ ?_
 .by_cases hk:e.kind=1
  .by_cases h1:e.name∈bound
   .simp(disch:=try exact zd) [hk,h1,hb1,CW,hc]
   .by_cases h2:e.name∈out
    .simp(disch:=try exact zd) [hk,h1,h2,hb1,hb2,CW,hc]
    .simp(disch:=try exact zd) [hk,h1,h2,hb1,hb2,CW,hc]
  .simp(disch:=try exact zd) [hk,CW,hc]
 .simp (disch:=try exact zd)
  refine Am (fun i=>⟨[(0,.sc (.arr 0 (outR e bound out i).length)),(1,AA bound),(5,.sc (.ptr 64 0)),(7,.sc (.arr 1760 e.children.length)),(8,intV i)],[(0,some (.arr 1 (wr (Ak (outR e bound out i))) 0)),(64,some (.box (wc e.row))),(1760,some (.arr 11 (wr (Exp.rows e.children)) 0))]⟩) e.children.length ?_ ?_ ?_
  .simp[outR]
  .intro i hi
   obtain⟨x,hx⟩:=Ab hi;have hmem:x∈e.children:=qc hx;have ho:=Yp (bound:=bound) (out:=out) hx;have hb:=Zd2 hx;have hxp:=x.weight_pos;have h54:=ih x hmem (bound++e.bound i) (outR e bound out i) (hw.child hmem) (by simp;omega) oz;have h91:=Zb5 (A:=A) e i hw.one hi oz;rw[e.children_len]at hi hle;have hi':(i:Int)<(e.kids.length:Int)+e.arms.length:=oz
   have hlen:(outR e bound out i).length<=(Cl x (bound++e.bound i) (outR e bound out i)).length:=Zfo x _ _;unfold Nn;simp(disch:=try exact zd) [hi',hx,h54,h91,Je hx,hlen,-getElem?_pos]
  .have he:=OP e bound out
   rw[e.children_len]at he;unfold Nn;simp(disch:=try exact zd) [he]
theorem Iz (e:Exp)(hw:e.wf)(hl:e.weight<=687194767360):(K A).call 58 [expV e] []=some (.sc (.arr 0 (Cl e [] []).length),[.arr 1 (wr (Ak (Cl e [] []))) 0]):=by
 refine fnO v58 ?_;have h:=ZbJ (A:=A) e [] [] hw (by simpa using hl) (by simpa using hl);have hn:Ak []=[]:=rfl;simp[AA,hn]at h;unfold v58;simp[h,hn]
theorem Zy {b out:List Str}{s t:Str}:t∈Bg b out s↔t∈out\/(t=s/\s∉b):=by
 grind[Bg]
theorem Kr {b:List Str}:∀{l out:List Str}{t:Str},t∈l.foldl (Bg b) out↔t∈out\/(t∈l/\t∉b)
 |[],out,t=>by simp
 |s::l,out,t=>by
  rw[qaD,Kr,Zy,qG];grind
theorem Zhe {b out:List Str}{s:Str}(h:s∈b\/s∈out):Bg b out s=out:=if_pos h
theorem YE {b out:List Str}{s:Str}(h:¬(s∈b\/s∈out)):Bg b out s=out++[s]:=if_neg h
theorem Tg {bound b:List Str}:∀(l acc out:List Str),(l.foldl (Bg b) acc).foldl (Bg bound) out=l.foldl (Bg (bound++b)) (acc.foldl (Bg bound) out)
 |[],acc,out=>rfl
 |s::l,acc,out=>by
  rw[qaD,qaD,Tg l];grind[Kr,Bg]
theorem XD (e:Exp):e.wf->∀bound out:List Str,Cl e bound out=(Ad e).foldl (Bg bound) out:=by
 induction e using Exp.ind with
 |h e ih=>
  intro hw bound out;rw[TZ,Ep];by_cases hk:e.kind=1
  .have hch:e.children=[]:=by
    have h1:=hw.one.2.2 hk;have h2:=hw.one.2.1 oz;grind[Exp.children]
   grind[List.zipIdx_nil,CW,Zhe,YE]
  .rw [if_neg hk]
   have hs:CW e bound out=out:=by
    grind[CW]
   rw[hs];have key:∀(l:List Exp) (i:Nat) (acc:List Str),(∀x∈l,x∈e.children)->((l.map Cl).zipIdx i).foldl (Ki e bound) (acc.foldl (Bg bound) out)=(((l.map Ad).zipIdx i).foldl (Fb e) acc).foldl (Bg bound) out:=by
    intro l
    induction l with
    |nil=>simp
    |cons x l ihl=>
     intro i acc hmem;rw[qt,qt,qaY,qaY,qaD,qaD,<-ihl (i+1) _ fun y hy=>hmem y (List.mem_cons_of_mem _ hy)];congr 1;have hx:=hmem x sy;show Cl x (bound++e.bound i) _=((Ad x).foldl (Bg (e.bound i)) acc).foldl (Bg bound) out;rw[ih x hx (hw.child hx),Tg]
   grind
theorem ZaV {b out:List Str}{s:Str}(h:out.Nodup):(Bg b out s).Nodup:=by
 grind[Bg]
theorem Sa {b:List Str}:∀{l out:List Str},out.Nodup->(l.foldl (Bg b) out).Nodup
 |[],_,h=>h
 |_::l,_,h=>Sa (l:=l) (ZaV h)
theorem Ri {e:Exp}:∀{l:List (List Str×Nat)}{out:List Str},out.Nodup->(l.foldl (Fb e) out).Nodup
 |[],_,h=>h
 |_::l,_,h=>Ri (l:=l) (Sa h)
theorem ZbW (e:Exp):(Ad e).Nodup:=by
 grind[Ep,Ri]
theorem U4:∀{l out:List Str},(out++l).Nodup->l.foldl (Bg []) out=out++l
 |[],out,_=>by simp
 |s::l,out,h=>by
  have hs:s∉out:=by
   grind
  have he:Bg [] out s=out++[s]:=by
   grind[Bg]
  rw[qaD,he,U4 (by grind)];simp
theorem Ie (e:Exp)(hw:e.wf):Cl e [] []=Ad e:=by
 grind[XD,U4,ZbW]
variable {A:Ag}
theorem AB {f:FuncId}{vf:VFun}{args:List V}{objs:List Obj}(P:V×List Obj->Prop)(hT:T2 f=some vf)(hn:args.length=vf.nparams)(ho:objs.length<=64)
 (h:wp (K A) vf.body (B3 vf.keep objs.length vf.results P) ⟨Bb 0 args,Bb 0 (objs.map some)⟩):∃r,P r/\(K A).call f args objs=some r:=X6 P hT hn ho h
theorem fnE {f:FuncId}{args:List V}{objs:List Obj}{P:V×List Obj->Prop}(vf:VFun)(h:wp (K A) vf.body (B3 vf.keep objs.length vf.results P) ⟨Bb 0 args,Bb 0 (objs.map some)⟩)(hT:T2 f=some vf:=by kernel_rfl)(hn:args.length=vf.nparams:=by rfl)(ho:objs.length<=64:=by simp):∃r,P r/\(K A).call f args objs=some r:=AB P hT hn ho h
def Bo (l:List Int):CC1:=l.map FO
@[simp] theorem intRows_len (l:List Int):(Bo l).length=l.length:=by simp[Bo]
@[simp] theorem intRows_get (l:List Int) (i:Nat):(Bo l)[i]?=(l[i]?).map FO:=by simp[Bo]
@[simp] theorem cut_i (n:Int):cut (FO n) 0 1=some [.int .i64 n]:=rfl
abbrev Ao (L:List Int)(I:Nat):Obj:=.box [.c (.sl (Bo L)),.c (.int .i64 I)]
abbrev Aw (ds:List DataD):V:=.sc (.c (.sl (AM ds)))
abbrev tyV (t:Ty):V:=.ag (wc t.row)
theorem Ut (a m:Int)(hm:0<m)(hb:m<=687194767360):∃k:Nat,(k:Int)<m/\(K A).call 30 [intV a,intV m] []=some (intV k,[]):=by
 have h1:¬m<1:=oz
 have h0:m≠0:=oz
 have hlt:a.tmod m<m:=Int.tmod_lt_of_pos a oz;have hgt:-m<a.tmod m:=Int.lt_tmod_of_pos a oz;by_cases hneg:a.tmod m<0
 .refine ⟨(a.tmod m+m).toNat,oz,?_⟩
  have hw:((a.tmod m+m).toNat:Int)=a.tmod m+m:=oz
  rw[hw];refine Ah (vf:=v30) (by rfl) rfl sy ?_;unfold v30;simp(disch:=try exact zd) [h1,h0,hneg]
 .refine ⟨(a.tmod m).toNat,oz,?_⟩
  have hw:((a.tmod m).toNat:Int)=a.tmod m:=oz
  rw[hw];refine Ah (vf:=v30) (by rfl) rfl sy ?_;unfold v30;simp(disch:=try exact zd) [h1,h0,hneg]
theorem BC (L:List Int)(I:Nat)(n:Int)(hI:I<=L.length)(hL:L.length<=687194767360)(hn:0<n)(hb:n<=687194767360):
 ∃k J:Nat,(k:Int)<n/\J<=L.length/\(K A).call 62 [.sc (.ptr 0 0),intV n] [Ao L I]=some (intV k,[Ao L J]):=by
 by_cases h:I<L.length
 .obtain ⟨a,ha⟩:=Ab h
  obtain⟨k,hk,hc⟩:=Ut (A:=A) a n hn hb;refine⟨k,I+1,hk,h,?_⟩;refine Ah (vf:=v62) (by rfl) rfl sy ?_;have h1:¬L.length<=I:=oz
  unfold v62;simp(disch:=try exact zd) [h1,ha,hc,-getElem?_pos]
 .refine ⟨0,I,hn,hI,?_⟩
  refine Ah (vf:=v62) (by rfl) rfl sy ?_;have h1:L.length<=I:=oz
  unfold v62;simp_all
def Cd:List Str:=[[120],[121],[122],[102],[103],[118,49],[118,50],[105,100]]
theorem TR (L:List Int)(I:Nat)(hI:I<=L.length)(hL:L.length<=687194767360):
 ∃s J,s∈Cd/\J<=L.length/\(K A).call 82 [.sc (.ptr 0 0)] [Ao L I]=some (strV s,[Ao L J]):=by
 obtain⟨k,J,hk,hJ,hc⟩:=BC (A:=A) L I 8 hI hL oz oz;obtain⟨s,hs⟩:=Ab (l:=Cd) (i:=k) (by grind[Cd,qI]);refine⟨s,J,qc hs,hJ,?_⟩;refine Ah (vf:=v82) (by rfl) rfl sy ?_;have hr:(wr (Ak Cd))[k]?=some [.c (.str s)]:=by simp[hs]
 have hw:wr (Ak Cd)=[[.c (.str [120])],[.c (.str [121])],[.c (.str [122])],[.c (.str [102])],[.c (.str [103])],[.c (.str [118,49])],[.c (.str [118,50])],[.c (.str [105,100])]]:=rfl;rw[hw]at hr;unfold v82;simp(disch:=try exact zd) [hc,hr,-getElem?_pos]
theorem HA (s:Str)(l:List Ty)(hl:l.length<=687194767360):(K A).call 90 [strV s,.sc (.c (.sl (Ty.rows l)))] []=some (tyV (.mk 4 s 0 0 l),[]):=by
 refine Ah (vf:=v90) (by rfl) rfl sy ?_;unfold v90;cases l with
 |nil=>
  have hn:Ty.rows []=[]:=by rfl
  simp(disch:=try exact zd) [hn,Ty.row]
 |cons t l=>
  have hn:Ty.rows (t::l)=t.row::Ty.rows l:=by rfl
  have hok:=okRows_ty (t::l);rw[hn,wr_cons]at hok;simp only[qI]at hl;simp(disch:=try exact zd) [hn,hok,Ty.row]
theorem Ff:(K A).call 69 [] []=some (tyV (.mk 4 [73,110,116] 0 0 []),[]):=by
 refine Ah (vf:=v69) (by rfl) rfl sy ?_;have hn:Ty.rows []=[]:=by rfl
 have h:=HA (A:=A) [73,110,116] [] sy;simp[hn]at h;unfold v69;simp_all
theorem Ig (a b:Ty):(K A).call 85 [tyV a,tyV b] []=some (tyV (.mk 4 [45,62] 0 0 [a,b]),[]):=by
 refine Ah (vf:=v85) (by rfl) rfl sy ?_;have hn:Ty.rows [a,b]=[a.row,b.row]:=by rfl
 have h:=HA (A:=A) [45,62] [a,b] sy;rw[hn]at h;unfold v85;simp_all
def Hm (d:DataD):Prop:=d.params.length<=4/\1<=d.cons.length/\d.cons.length<=6/\∀c∈d.cons,c.fields.length<=4
def Gx (ds:List DataD):Prop:=ds.length<=100/\∀d∈ds,Hm d
def Zis (L:List Int)(r:V×List Obj):Prop:=∃t J,J<=L.length/\r=(tyV t,[Ao L J])
def Zim (L:List Int)(ds:List DataD)(dd:DataD)(d i:Nat)(s:St):Prop:=∃tys J,tys.length=i/\J<=L.length/\
 s=⟨[(0,.sc (.ptr 0 0)),(1,Aw ds),(2,.sc (.c (.sl []))),(3,intV (d+1)),(8,.sc (.ptr 64 0)),(10,.sc (.ptr 3392 0)),(11,.sc (.arr 3521 i)),(12,intV i)],
  [(0,some (Ao L J)),(64,some (.box [zi,zs,zi,zi,.nil])),(3392,some (.box (wc (A2 dd)))),(3521,some (.arr 5 (wr (Ty.rows tys)) 0))]⟩
variable {A:Ag}
def tz:Ty:=.mk 0 [] 0 0 []
@[simp] theorem strRows0:Ak []=[]:=rfl
@[simp] theorem rows0:Exp.rows []=[]:=by rfl
@[simp] theorem rows1 (x:Exp):Exp.rows [x]=[x.row]:=by rfl
@[simp] theorem rows2 (x y:Exp):Exp.rows [x,y]=[x.row,y.row]:=by rfl
@[simp] theorem armRows0:Exp.armRows []=[]:=by rfl
@[simp] theorem tyRows0:Ty.rows []=[]:=by rfl
def RawP (L:List Int)(B:Nat)(r:V×List Obj):Prop:=∃e J,e.wf/\e.weight<=B/\J<=L.length/\r=(expV e,[Ao L J])
theorem Gi (k p n m ks l t):(Exp.mk k p n m ks l t).weight=1+(l.map fun a=>a.1.vars.length).sum+((ks.map Exp.weight).sum+(l.map fun a=>a.2.weight).sum):=by
 grind[Exp.weight_eq,Exp.children,Exp.arms,Exp.kids,Function.comp_def]
def ArmI (L:List Int)(ds:List DataD)(dd:DataD)(x:Exp)(B d i:Nat)(s:St):Prop:=∃arms J,arms.length=i/\J<=L.length/\(∀a∈arms,a.2.wf/\a.2.weight<=B/\a.1.vars.length<=4)/\
 s=⟨[(0,.sc (.ptr 0 0)),(1,Aw ds),(2,intV (d+1)),(6,.sc (.ptr 64 0)),(13,.sc (.ptr 10176 0)),(14,.sc (.ptr 10752 0)),(15,intV i)],
  [(0,some (Ao L J)),(64,some (.box [zi,zi,zs,zi,.nil,.nil,zi,zs,zi,zi,.nil])),(10176,some (.box (wc (A2 dd)))),(10624,some (.arr 11 [wc x.row] 0)),
    (10752,some (.box [.c (.int .i64 8),zi,zs,zi,.arr 10624 1,.arr 10822 i,zi,zs,zi,zi,.nil])),(10822,some (.arr 14 (wr (Exp.armRows arms)) 0))]⟩
def VarI (L:List Int)(ds:List DataD)(dd:DataD)(x:Exp)(arms:List (ArmH×Exp))(con:Str)(d i j:Nat)(s:St):Prop:=∃vars J,vars.length=j/\J<=L.length/\
 s=⟨[(0,.sc (.ptr 0 0)),(1,Aw ds),(2,intV (d+1)),(6,.sc (.ptr 64 0)),(13,.sc (.ptr 10176 0)),(14,.sc (.ptr 10752 0)),(15,intV i),(16,.sc (.ptr 11712 0)),(17,intV j)],
  [(0,some (Ao L J)),(64,some (.box [zi,zi,zs,zi,.nil,.nil,zi,zs,zi,zi,.nil])),(10176,some (.box (wc (A2 dd)))),(10624,some (.arr 11 [wc x.row] 0)),
    (10752,some (.box [.c (.int .i64 8),zi,zs,zi,.arr 10624 1,.arr 10822 i,zi,zs,zi,zi,.nil])),(10822,some (.arr 14 (wr (Exp.armRows arms)) 0)),
    (11712,some (.box [zi,.c (.str con),.arr 11779 j,zi,zi,zs,zi,.nil,.nil,zi,zs,zi,zi,.nil])),(11779,some (.arr 1 (wr (Ak vars)) 0))]⟩
variable {A:Ag}
def V4 (ds7:List DataD)(r:V×List Obj):Prop:=∃ds,(∀d∈ds,d∈ds7)/\Gx ds/\r=(Aw ds,[])
def VR (bits:Int)(ds7:List DataD)(i:Nat)(s:St):Prop:=∃ds:List DataD,ds.length<=i+1/\(∀d∈ds,d∈ds7/\Hm d)/\
 s=⟨[(0,intV bits),(3,Aw ds7),(4,.sc (.arr 257 ds.length)),(5,intV i)],[(257,some (.arr 4 (wr (AM ds)) 0))]⟩
@[simp] theorem dataRows0:AM []=[]:=rfl
@[simp] theorem dataRows1 (d:DataD):wr (AM [d])=[wc (A2 d)]:=rfl
theorem Zhf (bits:Int)(ds7:List DataD)(h7:ds7.length=7)(hg:∀d∈ds7,Hm d)(h55:(K A).call 81 [] []=some (Aw ds7,[])):
 ∃r,V4 ds7 r/\(K A).call 42 [intV bits] []=some r:=by
 refine fnE v42 ?_;obtain⟨d1,hd1⟩:=Ab (l:=ds7) (i:=1) oz;have hgd1:=hg d1 (qc hd1);have fin:∀s,VR bits ds7 0 s->wp (K A) (.loop JG) (BH 0 (BO (K A) (.seq (.region [] [o 44 (.mv (tv 4)),o 2 (.mv (tv 44))] [] [2]) .ret) (B3 false 0 [.tmp 2] (V4 ds7)))) s:=by
  intro s hs;refine Al (VR bits ds7) 7 hs ?_ ?_
  .rintro i s hi ⟨ds,hds1,hds2,rfl⟩
   obtain⟨d,hd⟩:=Ab (l:=ds7) (i:=i) oz;have hgd:=hg d (qc hd);have hi2:(i:Int)<7:=oz;unfold JG;by_cases hi1:i=1
   .subst hi1
    simp(disch:=try exact zd) [h7,hd,-getElem?_pos];exact⟨ds,oz,hds2,by simp⟩
   .have hi1':¬(i:Int)=1:=oz
    by_cases hb:andI .i64 (shrI .i64 bits i) 1=1
    .simp (disch:=try exact zd) [h7,hd,hi2,hi1',hb,-getElem?_pos]
     refine⟨ds++[d],by simp;omega,?_,by simp⟩;intro x hx;rcases qp.1 hx with hx|hx
     .exact hds2 x hx
     .simp only [qo] at hx
      exact hx▸⟨qc hd,hgd⟩
    .simp (disch:=try exact zd) [h7,hd,hi2,hi1',hb,-getElem?_pos]
     exact⟨ds,oz,hds2,by simp⟩
  .rintro s ⟨ds,hds1,hds2,rfl⟩
   unfold JG;simp(disch:=try exact zd) [h7];exact⟨ds,fun d hd=>(hds2 d hd).1,⟨oz,fun d hd=>(hds2 d hd).2⟩,rfl⟩
 unfold v42;by_cases h1:andI .i64 bits 2=0
 .by_cases h2:andI .i64 bits 64=0
  .simp (disch:=try exact zd) [h55,h1,h2,-getElem?_pos]
   exact fin _ ⟨[],by simp,by simp,by simp⟩
  .simp (disch:=try exact zd) [h55,h1,h2,h7,hd1,-getElem?_pos]
   exact fin _ ⟨[d1],by simp,by simp[hgd1,qc hd1],by simp⟩
 .simp (disch:=try exact zd) [h55,h1,h7,hd1,-getElem?_pos]
  exact fin _ ⟨[d1],by simp,by simp[hgd1,qc hd1],by simp⟩
def ZiJ (L:List Int)(r:V×List Obj):Prop:=∃a b J,a.wf/\a.weight<=32 ^ 4/\b.wf/\b.weight<=32 ^ 3/\J<=L.length/\r=(.tu [expV a,expV b,.sc (.ptr 0 0)],[Ao L J])
def ZiF (r:V×List Obj):Prop:=∃b,r=(Ac b,[])
end Go.Vs.Tryz
namespace Go.Vs
open Go
mutual
def Cell.eqb:Cell->Cell->Bool
 |.int k n,.int k' n'=>decide (k=k')&&decide (n=n')
 |.bool b,.bool b'=>b==b'
 |.str s,.str s'=>s==s'
 |.sl rows,.sl rows'=>Cell.eqRows rows rows'
 |.nilfn,.nilfn=>true
 |.nilptr,.nilptr=>true
 |.nilif,.nilif=>true
 |_,_=>false
def Cell.eqRows:CC1->CC1->Bool
 |[],[]=>true
 |r::rs,r'::rs'=>Cell.eqList r r'&&Cell.eqRows rs rs'
 |_,_=>false
def Cell.eqList:List Cell->List Cell->Bool
 |[],[]=>true
 |c::cs,c'::cs'=>Cell.eqb c c'&&Cell.eqList cs cs'
 |_,_=>false
end
mutual
theorem Cell.eqb_eq:∀(a b:Cell),Cell.eqb a b=true->a=b
 |.int k n,b,h=>by cases b<;>simp_all[Cell.eqb]
 |.bool _,b,h=>by cases b<;>simp_all[Cell.eqb]
 |.str _,b,h=>by cases b<;>simp_all[Cell.eqb]
 |.sl rows,b,h=>by
  cases b with
  |sl rows'=>rw[Cell.eqRows_eq rows rows' (by simpa[Cell.eqb]using h)]
  |_=>simp[Cell.eqb]at h
 |.fn ..,b,h=>by cases b<;>simp[Cell.eqb]at h
 |.nilfn,b,h=>by cases b<;>simp_all[Cell.eqb]
 |.nilptr,b,h=>by cases b<;>simp_all[Cell.eqb]
 |.nilif,b,h=>by cases b<;>simp_all[Cell.eqb]
 |.ifc ..,b,h=>by cases b<;>simp[Cell.eqb]at h
 |.ro ..,b,h=>by cases b<;>simp[Cell.eqb]at h
theorem Cell.eqRows_eq:∀(a b:CC1),Cell.eqRows a b=true->a=b
 |[],b,h=>by cases b<;>simp_all[Cell.eqRows]
 |r::rs,b,h=>by
  cases b with
  |nil=>simp[Cell.eqRows]at h
  |cons r' rs'=>
   simp only[Cell.eqRows,qe]at h;rw[Cell.eqList_eq r r' h.1,Cell.eqRows_eq rs rs' h.2]
theorem Cell.eqList_eq:∀(a b:List Cell),Cell.eqList a b=true->a=b
 |[],b,h=>by cases b<;>simp_all[Cell.eqList]
 |c::cs,b,h=>by
  cases b with
  |nil=>simp[Cell.eqList]at h
  |cons c' cs'=>
   simp only[Cell.eqList,qe]at h;rw[Cell.eqb_eq c c' h.1,Cell.eqList_eq cs cs' h.2]
end
def W.eqb:W->W->Bool
 |.c a,.c b=>a.eqb b
 |.nil,.nil=>true
 |_,_=>false
theorem W.eqb_eq {a b:W}(h:a.eqb b=true):a=b:=by
 cases a<;>cases b<;>first | rfl | (simp[W.eqb]at h;done) | exact congrArg W.c (Cell.eqb_eq _ _ (by simpa[W.eqb]using h))
def eqWs:List W->List W->Bool
 |[],[]=>true
 |c::cs,c'::cs'=>c.eqb c'&&eqWs cs cs'
 |_,_=>false
theorem UN:∀{a b:List W},eqWs a b=true->a=b
 |[],b,h=>by cases b<;>simp_all[eqWs]
 |c::cs,b,h=>by
  cases b with
  |nil=>simp[eqWs]at h
  |cons c' cs'=>
   simp only[eqWs,qe]at h;rw[W.eqb_eq h.1,UN h.2]
def V.eqb:V->V->Bool
 |.sc a,.sc b=>a.eqb b
 |.ag a,.ag b=>eqWs a b
 |_,_=>false
theorem V.eqb_eq {a b:V}(h:a.eqb b=true):a=b:=by
 cases a<;>cases b<;>first | (simp[V.eqb]at h;done) | exact congrArg V.sc (W.eqb_eq (by simpa[V.eqb]using h)) | exact congrArg V.ag (UN (by simpa[V.eqb]using h))
def eqVs:List V->List V->Bool
 |[],[]=>true
 |c::cs,c'::cs'=>c.eqb c'&&eqVs cs cs'
 |_,_=>false
theorem SB:∀{a b:List V},eqVs a b=true->a=b
 |[],b,h=>by cases b<;>simp_all[eqVs]
 |c::cs,b,h=>by
  cases b with
  |nil=>simp[eqVs]at h
  |cons c' cs'=>
   simp only[eqVs,qe]at h;rw[V.eqb_eq h.1,SB h.2]
abbrev JT:=List (Nat×List V×V)
def JH:JT->Nat->List V->Option (V×List Obj)
 |[],_,_=>none
 |(g,k,v)::r,f,l=>bif f==g&&eqVs l k then some (v,[]) else JH r f l
theorem VS:∀{m:JT}{f:Nat}{l:List V}{q:V×List Obj},JH m f l=some q->q.2=[]/\(f,l,q.1)∈m
 |[],_,_,_,h=>by cases h
 |(g,k,v)::r,f,l,q,h=>by
  simp only[JH]at h;cases hk:(f==g&&eqVs l k)with
  |true=>
   rw[hk]at h;simp only[cond_true,qd]at h;simp only[qe,beq_iff_eq]at hk;obtain⟨rfl,hk⟩:=hk;have:=SB hk;subst this;subst h;exact⟨rfl,by simp⟩
  |false=>
   rw[hk]at h;obtain⟨h1,h2⟩:=VS h;exact⟨h1,List.mem_cons_of_mem _ h2⟩
theorem Zga {P:Program}{gl:Nat->List Cell}{T:FuncId->Option VFun}(hP:P.follows .mixedOrders=true)(hT:∀f vf,T f=some vf->mFun P f vf=true){m:JT}(hm:∀p∈m,FnOk P gl p.1 p.2.1 [] p.2.2 []){f:FuncId}{n:Nat}{args:List V}{objs:List Obj}{rv:V}{objs':List Obj}
 (h:DD (fun g=>bif g==f then T g else none) (fun g args objs=>match objs with | []=>JH m g args | _=>none) gl n f args objs=some (rv,objs')):FnOk P gl f args objs rv objs':=by
 refine MS hP (fun g vf hg=>?_) (fun g args objs rv objs' hx=>?_) n h
 .cases hgf:(g == f) with
  |true=>rw[hgf]at hg;exact hT g vf hg
  |false=>rw[hgf]at hg;cases hg
 .cases objs with
  |cons _ _=>cases hx
  |nil=>
   obtain⟨h1,h2⟩:=VS hx;simp only at h1 h2;subst h1;exact hm _ h2
end Go.Vs
namespace Go.Vs.Tryz
open Go Go.Vs
theorem Kg {n:Nat}{f:FuncId}{args:List V}{res:V}(h:(ev n f args []).map (B9 false)=some (res,[])):FnOk Go.Proofs.Tryz.prog gl0 f args [] res []:=by
 obtain⟨y,h1,h2⟩:=qu.1 h;have:=(S8 (rv:=y.1) (objs':=y.2) h1).norm false;rw[show B9 false (y.1,y.2)=(res,[])from h2]at this;exact this
def rlP:V:=(.ag [(.c (.sl [])),(.c (.sl [[(.int .i64 0),(.bool true),(.str [102]),(.bool false),(.int .i64 0),(.str []),(.int .i64 0),(.int .i64 0),(.sl []),(.int .i64 4),(.int .i64 12),(.str [120]),(.int .i64 0),(.sl [[(.int .i64 5),(.int .i64 16),(.str []),(.int .i64 0),(.sl [[(.int .i64 1),(.int .i64 16),(.str [102]),(.int .i64 0),(.sl []),(.sl []),(.int .i64 0),(.str []),(.int .i64 0),(.int .i64 0),(.sl [])],[(.int .i64 1),(.int .i64 18),(.str [120]),(.int .i64 0),(.sl []),(.sl []),(.int .i64 0),(.str []),(.int .i64 0),(.int .i64 0),(.sl [])]]),(.sl []),(.int .i64 0),(.str []),(.int .i64 0),(.int .i64 0),(.sl [])]]),(.sl []),(.int .i64 0),(.str []),(.int .i64 0),(.int .i64 0),(.sl [])],[(.int .i64 21),(.bool false),(.str [110]),(.bool false),(.int .i64 0),(.str []),(.int .i64 0),(.int .i64 0),(.sl []),(.int .i64 5),(.int .i64 29),(.str []),(.int .i64 0),(.sl [[(.int .i64 1),(.int .i64 29),(.str [102]),(.int .i64 0),(.sl []),(.sl []),(.int .i64 0),(.str []),(.int .i64 0),(.int .i64 0),(.sl [])],[(.int .i64 3),(.int .i64 31),(.str []),(.int .i64 1),(.sl []),(.sl []),(.int .i64 0),(.str []),(.int .i64 0),(.int .i64 0),(.sl [])]]),(.sl []),(.int .i64 0),(.str []),(.int .i64 0),(.int .i64 0),(.sl [])]]))])
def rlE0:V:=(.ag [(.c (.int .i64 7)),(.c (.int .i64 0)),(.c (.str [102])),(.c (.int .i64 0)),(.c (.sl [[(.int .i64 4),(.int .i64 0),(.str [120]),(.int .i64 0),(.sl [[(.int .i64 5),(.int .i64 0),(.str []),(.int .i64 0),(.sl [[(.int .i64 1),(.int .i64 0),(.str [102]),(.int .i64 0),(.sl []),(.sl []),(.int .i64 0),(.str []),(.int .i64 0),(.int .i64 0),(.sl [])],[(.int .i64 1),(.int .i64 0),(.str [120]),(.int .i64 0),(.sl []),(.sl []),(.int .i64 0),(.str []),(.int .i64 0),(.int .i64 0),(.sl [])]]),(.sl []),(.int .i64 0),(.str []),(.int .i64 0),(.int .i64 0),(.sl [])]]),(.sl []),(.int .i64 0),(.str []),(.int .i64 0),(.int .i64 0),(.sl [])],[(.int .i64 6),(.int .i64 0),(.str [110]),(.int .i64 0),(.sl [[(.int .i64 5),(.int .i64 0),(.str []),(.int .i64 0),(.sl [[(.int .i64 1),(.int .i64 0),(.str [102]),(.int .i64 0),(.sl []),(.sl []),(.int .i64 0),(.str []),(.int .i64 0),(.int .i64 0),(.sl [])],[(.int .i64 3),(.int .i64 0),(.str []),(.int .i64 1),(.sl []),(.sl []),(.int .i64 0),(.str []),(.int .i64 0),(.int .i64 0),(.sl [])]]),(.sl []),(.int .i64 0),(.str []),(.int .i64 0),(.int .i64 0),(.sl [])],[(.int .i64 1),(.int .i64 0),(.str [110]),(.int .i64 0),(.sl []),(.sl []),(.int .i64 0),(.str []),(.int .i64 0),(.int .i64 0),(.sl [])]]),(.sl []),(.int .i64 0),(.str []),(.int .i64 0),(.int .i64 0),(.sl [])]])),(.c (.sl [])),(.c (.int .i64 0)),(.c (.str [])),(.c (.int .i64 0)),(.c (.int .i64 0)),(.c (.sl []))])
def rlE1:V:=(.ag [(.c (.int .i64 6)),(.c (.int .i64 0)),(.c (.str [110])),(.c (.int .i64 0)),(.c (.sl [[(.int .i64 5),(.int .i64 0),(.str []),(.int .i64 0),(.sl [[(.int .i64 7),(.int .i64 0),(.str [102]),(.int .i64 0),(.sl [[(.int .i64 4),(.int .i64 0),(.str [120]),(.int .i64 0),(.sl [[(.int .i64 5),(.int .i64 0),(.str []),(.int .i64 0),(.sl [[(.int .i64 1),(.int .i64 0),(.str [102]),(.int .i64 0),(.sl []),(.sl []),(.int .i64 0),(.str []),(.int .i64 0),(.int .i64 0),(.sl [])],[(.int .i64 1),(.int .i64 0),(.str [120]),(.int .i64 0),(.sl []),(.sl []),(.int .i64 0),(.str []),(.int .i64 0),(.int .i64 0),(.sl [])]]),(.sl []),(.int .i64 0),(.str []),(.int .i64 0),(.int .i64 0),(.sl [])]]),(.sl []),(.int .i64 0),(.str []),(.int .i64 0),(.int .i64 0),(.sl [])],[(.int .i64 4),(.int .i64 0),(.str [120]),(.int .i64 0),(.sl [[(.int .i64 5),(.int .i64 0),(.str []),(.int .i64 0),(.sl [[(.int .i64 1),(.int .i64 0),(.str [102]),(.int .i64 0),(.sl []),(.sl []),(.int .i64 0),(.str []),(.int .i64 0),(.int .i64 0),(.sl [])],[(.int .i64 1),(.int .i64 0),(.str [120]),(.int .i64 0),(.sl []),(.sl []),(.int .i64 0),(.str []),(.int .i64 0),(.int .i64 0),(.sl [])]]),(.sl []),(.int .i64 0),(.str []),(.int .i64 0),(.int .i64 0),(.sl [])]]),(.sl []),(.int .i64 0),(.str []),(.int .i64 0),(.int .i64 0),(.sl [])]]),(.sl []),(.int .i64 0),(.str []),(.int .i64 0),(.int .i64 0),(.sl [])],[(.int .i64 3),(.int .i64 0),(.str []),(.int .i64 1),(.sl []),(.sl []),(.int .i64 0),(.str []),(.int .i64 0),(.int .i64 0),(.sl [])]]),(.sl []),(.int .i64 0),(.str []),(.int .i64 0),(.int .i64 0),(.sl [])],[(.int .i64 1),(.int .i64 0),(.str [110]),(.int .i64 0),(.sl []),(.sl []),(.int .i64 0),(.str []),(.int .i64 0),(.int .i64 0),(.sl [])]])),(.c (.sl [])),(.c (.int .i64 0)),(.c (.str [])),(.c (.int .i64 0)),(.c (.int .i64 0)),(.c (.sl []))])
def rlE2:V:=(.ag [(.c (.int .i64 5)),(.c (.int .i64 0)),(.c (.str [])),(.c (.int .i64 0)),(.c (.sl [[(.int .i64 7),(.int .i64 0),(.str [102]),(.int .i64 0),(.sl [[(.int .i64 4),(.int .i64 0),(.str [120]),(.int .i64 0),(.sl [[(.int .i64 5),(.int .i64 0),(.str []),(.int .i64 0),(.sl [[(.int .i64 1),(.int .i64 0),(.str [102]),(.int .i64 0),(.sl []),(.sl []),(.int .i64 0),(.str []),(.int .i64 0),(.int .i64 0),(.sl [])],[(.int .i64 1),(.int .i64 0),(.str [120]),(.int .i64 0),(.sl []),(.sl []),(.int .i64 0),(.str []),(.int .i64 0),(.int .i64 0),(.sl [])]]),(.sl []),(.int .i64 0),(.str []),(.int .i64 0),(.int .i64 0),(.sl [])]]),(.sl []),(.int .i64 0),(.str []),(.int .i64 0),(.int .i64 0),(.sl [])],[(.int .i64 4),(.int .i64 0),(.str [120]),(.int .i64 0),(.sl [[(.int .i64 5),(.int .i64 0),(.str []),(.int .i64 0),(.sl [[(.int .i64 1),(.int .i64 0),(.str [102]),(.int .i64 0),(.sl []),(.sl []),(.int .i64 0),(.str []),(.int .i64 0),(.int .i64 0),(.sl [])],[(.int .i64 1),(.int .i64 0),(.str [120]),(.int .i64 0),(.sl []),(.sl []),(.int .i64 0),(.str []),(.int .i64 0),(.int .i64 0),(.sl [])]]),(.sl []),(.int .i64 0),(.str []),(.int .i64 0),(.int .i64 0),(.sl [])]]),(.sl []),(.int .i64 0),(.str []),(.int .i64 0),(.int .i64 0),(.sl [])]]),(.sl []),(.int .i64 0),(.str []),(.int .i64 0),(.int .i64 0),(.sl [])],[(.int .i64 3),(.int .i64 0),(.str []),(.int .i64 1),(.sl []),(.sl []),(.int .i64 0),(.str []),(.int .i64 0),(.int .i64 0),(.sl [])]])),(.c (.sl [])),(.c (.int .i64 0)),(.c (.str [])),(.c (.int .i64 0)),(.c (.int .i64 0)),(.c (.sl []))])
def rlE3:V:=(.ag [(.c (.int .i64 5)),(.c (.int .i64 0)),(.c (.str [])),(.c (.int .i64 0)),(.c (.sl [[(.int .i64 4),(.int .i64 0),(.str [120]),(.int .i64 0),(.sl [[(.int .i64 5),(.int .i64 0),(.str []),(.int .i64 0),(.sl [[(.int .i64 7),(.int .i64 0),(.str [102]),(.int .i64 0),(.sl [[(.int .i64 4),(.int .i64 0),(.str [120]),(.int .i64 0),(.sl [[(.int .i64 5),(.int .i64 0),(.str []),(.int .i64 0),(.sl [[(.int .i64 1),(.int .i64 0),(.str [102]),(.int .i64 0),(.sl []),(.sl []),(.int .i64 0),(.str []),(.int .i64 0),(.int .i64 0),(.sl [])],[(.int .i64 1),(.int .i64 0),(.str [120]),(.int .i64 0),(.sl []),(.sl []),(.int .i64 0),(.str []),(.int .i64 0),(.int .i64 0),(.sl [])]]),(.sl []),(.int .i64 0),(.str []),(.int .i64 0),(.int .i64 0),(.sl [])]]),(.sl []),(.int .i64 0),(.str []),(.int .i64 0),(.int .i64 0),(.sl [])],[(.int .i64 4),(.int .i64 0),(.str [120]),(.int .i64 0),(.sl [[(.int .i64 5),(.int .i64 0),(.str []),(.int .i64 0),(.sl [[(.int .i64 1),(.int .i64 0),(.str [102]),(.int .i64 0),(.sl []),(.sl []),(.int .i64 0),(.str []),(.int .i64 0),(.int .i64 0),(.sl [])],[(.int .i64 1),(.int .i64 0),(.str [120]),(.int .i64 0),(.sl []),(.sl []),(.int .i64 0),(.str []),(.int .i64 0),(.int .i64 0),(.sl [])]]),(.sl []),(.int .i64 0),(.str []),(.int .i64 0),(.int .i64 0),(.sl [])]]),(.sl []),(.int .i64 0),(.str []),(.int .i64 0),(.int .i64 0),(.sl [])]]),(.sl []),(.int .i64 0),(.str []),(.int .i64 0),(.int .i64 0),(.sl [])],[(.int .i64 1),(.int .i64 0),(.str [120]),(.int .i64 0),(.sl []),(.sl []),(.int .i64 0),(.str []),(.int .i64 0),(.int .i64 0),(.sl [])]]),(.sl []),(.int .i64 0),(.str []),(.int .i64 0),(.int .i64 0),(.sl [])]]),(.sl []),(.int .i64 0),(.str []),(.int .i64 0),(.int .i64 0),(.sl [])],[(.int .i64 3),(.int .i64 0),(.str []),(.int .i64 1),(.sl []),(.sl []),(.int .i64 0),(.str []),(.int .i64 0),(.int .i64 0),(.sl [])]])),(.c (.sl [])),(.c (.int .i64 0)),(.c (.str [])),(.c (.int .i64 0)),(.c (.int .i64 0)),(.c (.sl []))])
def Q7:List V:=[(.sc (.c (.str [108,101,116,32,105,100,32,61,32,92,120,46,32,120,59,32,108,101,116,32,110,32,61,32,105,100,32,49,59])))]
def U9:V:=(.ag [(.c (.sl [])),(.c (.sl [[(.int .i64 0),(.bool false),(.str [105,100]),(.bool false),(.int .i64 0),(.str []),(.int .i64 0),(.int .i64 0),(.sl []),(.int .i64 4),(.int .i64 9),(.str [120]),(.int .i64 0),(.sl [[(.int .i64 1),(.int .i64 13),(.str [120]),(.int .i64 0),(.sl []),(.sl []),(.int .i64 0),(.str []),(.int .i64 0),(.int .i64 0),(.sl [])]]),(.sl []),(.int .i64 0),(.str []),(.int .i64 0),(.int .i64 0),(.sl [])],[(.int .i64 16),(.bool false),(.str [110]),(.bool false),(.int .i64 0),(.str []),(.int .i64 0),(.int .i64 0),(.sl []),(.int .i64 5),(.int .i64 24),(.str []),(.int .i64 0),(.sl [[(.int .i64 1),(.int .i64 24),(.str [105,100]),(.int .i64 0),(.sl []),(.sl []),(.int .i64 0),(.str []),(.int .i64 0),(.int .i64 0),(.sl [])],[(.int .i64 3),(.int .i64 27),(.str []),(.int .i64 1),(.sl []),(.sl []),(.int .i64 0),(.str []),(.int .i64 0),(.int .i64 0),(.sl [])]]),(.sl []),(.int .i64 0),(.str []),(.int .i64 0),(.int .i64 0),(.sl [])]]))])
theorem Yh:(ev 60 34 Q7 []).map (B9 false)=some (U9,[]):=by kernel_rfl
def QL:List V:=[(.ag [(.c (.sl [])),(.c (.sl [[(.int .i64 0),(.bool false),(.str [105,100]),(.bool false),(.int .i64 0),(.str []),(.int .i64 0),(.int .i64 0),(.sl []),(.int .i64 4),(.int .i64 9),(.str [120]),(.int .i64 0),(.sl [[(.int .i64 1),(.int .i64 13),(.str [120]),(.int .i64 0),(.sl []),(.sl []),(.int .i64 0),(.str []),(.int .i64 0),(.int .i64 0),(.sl [])]]),(.sl []),(.int .i64 0),(.str []),(.int .i64 0),(.int .i64 0),(.sl [])],[(.int .i64 16),(.bool false),(.str [110]),(.bool false),(.int .i64 0),(.str []),(.int .i64 0),(.int .i64 0),(.sl []),(.int .i64 5),(.int .i64 24),(.str []),(.int .i64 0),(.sl [[(.int .i64 1),(.int .i64 24),(.str [105,100]),(.int .i64 0),(.sl []),(.sl []),(.int .i64 0),(.str []),(.int .i64 0),(.int .i64 0),(.sl [])],[(.int .i64 3),(.int .i64 27),(.str []),(.int .i64 1),(.sl []),(.sl []),(.int .i64 0),(.str []),(.int .i64 0),(.int .i64 0),(.sl [])]]),(.sl []),(.int .i64 0),(.str []),(.int .i64 0),(.int .i64 0),(.sl [])]]))]),(.sc (.c (.int .i64 20)))]
def Wc:V:=(.tu [(.ag [(.c (.int .i64 3)),(.c (.int .i64 0)),(.c (.str [])),(.c (.int .i64 1)),(.c (.sl [])),(.c (.sl [])),(.c (.int .i64 0)),(.c (.str [])),(.c (.int .i64 0)),(.c (.int .i64 0)),(.c (.sl []))]),(.sc (.c (.int .i64 3))),(.sc (.c (.bool true)))])
theorem ZhS:(ev 60 31 QL []).map (B9 false)=some (Wc,[]):=by kernel_rfl
def QR:List V:=[(.ag [(.c (.int .i64 3)),(.c (.int .i64 0)),(.c (.str [])),(.c (.int .i64 1)),(.c (.sl [])),(.c (.sl [])),(.c (.int .i64 0)),(.c (.str [])),(.c (.int .i64 0)),(.c (.int .i64 0)),(.c (.sl []))]),(.ag [(.c (.int .i64 3)),(.c (.int .i64 0)),(.c (.str [])),(.c (.int .i64 1)),(.c (.sl [])),(.c (.sl [])),(.c (.int .i64 0)),(.c (.str [])),(.c (.int .i64 0)),(.c (.int .i64 0)),(.c (.sl []))])]
def Sc:V:=(.sc (.c (.bool true)))
theorem ZgT:(ev 60 18 QR []).map (B9 false)=some (Sc,[]):=by kernel_rfl
def VI:List V:=[(.ag [(.c (.sl [])),(.c (.sl []))])]
def UU:V:=(.ag [(.c (.int .i64 3)),(.c (.int .i64 0)),(.c (.str [])),(.c (.int .i64 0)),(.c (.sl [])),(.c (.sl [])),(.c (.int .i64 0)),(.c (.str [])),(.c (.int .i64 0)),(.c (.int .i64 0)),(.c (.sl []))])
theorem Zfd:(ev 60 27 VI []).map (B9 false)=some (UU,[]):=by kernel_rfl
def VT:JT:=[(34,Q7,U9),(31,QL,Wc),(18,QR,Sc),(27,VI,UU)]
theorem XG:∀p∈VT,FnOk Go.Proofs.Tryz.prog gl0 p.1 p.2.1 [] p.2.2 []:=by
 intro p hp;simp only[VT,qG,qag,or_false]at hp;rcases hp with rfl|rfl|rfl|rfl
 .exact Kg Yh
 .exact Kg ZhS
 .exact Kg ZgT
 .exact Kg Zfd
theorem Zfa:FnOk Go.Proofs.Tryz.prog gl0 25 [] [] (.sc (.c (.bool true))) []:=
 Zga (n:=2) follows T_ok XG (by kernel_rfl)
end Go.Vs.Tryz
namespace Go.Vs
open Go
structure EntD where
 name:Str
 count:Int
 ty:Ty
def Bw (e:EntD):List Cell:=.str e.name::.int .i64 e.count::e.ty.row
def BZ (l:List EntD):CC1:=l.map Bw
@[simp] theorem entRow_len (e:EntD):(Bw e).length=7:=by simp[Bw]
@[simp] theorem entRows_len (l:List EntD):(BZ l).length=l.length:=by simp[BZ]
@[simp] theorem entRows_get (l:List EntD) (i:Nat):(BZ l)[i]?=(l[i]?).map Bw:=by simp[BZ]
@[simp] theorem okRows_ent (l:List EntD):AZ 7 (wr (BZ l))=true:=Dc l entRow_len
@[simp] theorem entRows_snoc (l:List EntD) (x:EntD):wr (BZ l)++[wc (Bw x)]=wr (BZ (l++[x])):=by simp[BZ,wr]
@[simp] theorem entRows0:BZ []=[]:=rfl
def AY (c:Int)(t:Ty):List Cell:=.int .i64 c::t.row
@[simp] theorem schRow_len (c:Int) (t:Ty):(AY c t).length=6:=by simp[AY]
section
variable (e:EntD)(c:Int)(t:Ty)
@[simp] theorem cut_n0:cut (Bw e) 0 1=some [.str e.name]:=by simp[Bw]
@[simp] theorem cut_n1:cut (Bw e) 1 6=some (AY e.count e.ty):=by rw[Bw,AY,Ty.row_eq];rfl
@[simp] theorem cut_n:cut (Bw e) 0 7=some (Bw e):=by rw[Bw,Ty.row_eq];rfl
@[simp] theorem cutw_n0:cut (wc (Bw e)) 0 1=some [.c (.str e.name)]:=by rw[Bw,Ty.row_eq];rfl
@[simp] theorem cutw_n1:cut (wc (Bw e)) 1 6=some (wc (AY e.count e.ty)):=by rw[Bw,AY,Ty.row_eq];rfl
@[simp] theorem cutw_n:cut (wc (Bw e)) 0 7=some (wc (Bw e)):=by rw[Bw,Ty.row_eq];rfl
@[simp] theorem cutw_sch:cut (wc (AY c t)) 0 6=some (wc (AY c t)):=by rw[AY,Ty.row_eq];rfl
@[simp] theorem flat_sch:(wc (AY c t)).all Bv=false:=by rw[AY,Ty.row_eq];simp[wc,Bv]
@[simp] theorem flat_ent:(wc (Bw e)).all Bv=false:=by rw[Bw,Ty.row_eq];simp[wc,Bv]
end
section
variable {C:Ctx}{E:LV1}{L:LO1}{oid:Nat}
@[simp] theorem x_sl {s:Nat} {x:Opd} {lo hi mx:Option Opd}:Af C E L oid (.sl s x lo hi mx)=Bm L s (x.val C E) (lo.map (·.val C E)) (hi.map (·.val C E)) (mx.map (·.val C E)):=rfl
theorem F8 {α:Type}{f:α->List Cell}{k:Nat}(h:∀a,(f a).length=k)(l:List α):BK k (l.map f)=true:=by
 cases l with
 |nil=>rfl
 |cons a r=>simp[BK,h a]
@[simp] theorem fit_ent (l:List EntD):BK 7 (BZ l)=true:=F8 entRow_len l
@[simp] theorem fit_data (l:List DataD):BK 4 (AM l)=true:=F8 dataRow_len l
@[simp] theorem slice_from {s n:Nat} {k:IntKind} {rows:CC1} (h:n<=rows.length):Bm L s (.sc (.c (.sl rows))) (some (.sc (.c (.int k (n:Int))))) none none=bif BK s rows then some (.sc (.c (.sl (rows.drop n))),[]) else none:=by
 simp[Bm,AR,Ha,Bz,qbl h]
@[simp] theorem slice_from1 {s n:Nat} {k:IntKind} {rows:CC1} (h:n+1<=rows.length):Bm L s (.sc (.c (.sl rows))) (some (.sc (.c (.int k ((n:Int)+1))))) none none=bif BK s rows then some (.sc (.c (.sl (rows.drop (n+1)))),[]) else none:=slice_from (n:=n+1) h
@[simp] theorem slice_to {s n:Nat} {k:IntKind} {rows:CC1} (h:n<=rows.length):Bm L s (.sc (.c (.sl rows))) none (some (.sc (.c (.int k (n:Int))))) none=bif BK s rows then some (.sc (.c (.sl (rows.take n))),[]) else none:=by
 simp[Bm,AR,Ha,Bz,qbl h]
@[simp] theorem entRows_drop (l:List EntD) (n:Nat):(BZ l).drop n=BZ (l.drop n):=by simp[BZ]
@[simp] theorem dataRows_take (l:List DataD) (n:Nat):(AM l).take n=AM (l.take n):=by simp[AM]
@[simp] theorem call1_clo {call:Ag} {f:FuncId} {w:W} {args:List (Bool×V)}:Cb call L oid (.sc (.clo f [true] [[w]])) args=EJ call L oid f (AU L (args++[(true,.sc w)])):=by
 rw[Kb];rfl
end
end Go.Vs
namespace Go.Vs.Tryz
open Go Go.Vs
variable {A:Ag}
abbrev Be (l:List EntD):V:=.sc (.c (.sl (BZ l)))
def Bl (l:List EntD):List Str:=l.map (·.name)
@[simp] theorem names_len (l:List EntD):(Bl l).length=l.length:=by simp[Bl]
@[simp] theorem names_get (l:List EntD) (i:Nat):(Bl l)[i]?=(l[i]?).map (·.name):=by simp[Bl]
def Cj (l:List EntD):Nat->List EntD
 |0=>[]
 |i+1=>match l[i]? with
  |none=>Cj l i
  |some e=>if e.name∈Bl (l.drop (i+1)) then Cj l i else Cj l i++[e]
theorem HV (l:List EntD):∀i,(Cj l i).length<=i
 |0=>by simp[Cj]
 |i+1=>by
  have:=HV l i;simp only[Cj];split
  .omega
  .split
   .omega
   .simp;omega
variable {A:Ag}
def rlast (l:List Str)(s:Str):Int:=if s∈l then (l.length:Int)-1-A5 l.reverse s else -1
theorem Jk {l:List Str}{i:Nat}(h:i<l.length):l.reverse[i]?=l[l.length-1-i]?:=List.getElem?_reverse h
def ZhU (b:Bool)(r:V×List Obj):Prop:=∃c t,r=(.tu [.ag (wc (AY c t)),Ac b],[])
theorem Zha (l:List EntD)(s:Str)(h:l.length<=687194767360):∃r,ZhU (decide (s∈Bl l)) r/\(K A).call 184 [Be l,strV s] []=some r:=by
 refine fnE v184 ?_;unfold v184;have hp:=NK (Bl l).reverse s;rw[List.length_reverse,names_len]at hp;simp(disch:=try exact zd);refine Am (fun i=>⟨[(0,Be l),(1,strV s),(4,.sc (.ptr 64 0)),(6,intV ((l.length:Int)-1-i))],[(64,some (.box [zi,zi,zs,zi,zi,.nil]))]⟩) (A5 (Bl l).reverse s) ?_ ?_ ?_
 .simp
 .intro i hi
  obtain⟨x,hx,hne⟩:=Jl hi;have hlt:i<l.length:=oz
  rw[Jk (by simpa using hlt),names_get,names_len]at hx;obtain⟨e,he,rfl⟩:=qu.1 hx;have hc:(l.length:Int)-1-i=((l.length-1-i:Nat):Int):=oz
  have hc2:(l.length:Int)-1-(i+1)=((l.length-1-i:Nat):Int)-1:=oz
  unfold PW;simp(disch:=try exact zd) [hc,hc2,he,hne,-getElem?_pos]
 .unfold PW
  by_cases hm:A5 (Bl l).reverse s<l.length
  .have hx:=Gm (l:=(Bl l).reverse) (s:=s) (by simpa using hm)
   have hmem:s∈Bl l:=by
    have:=Ev.1 (show A5 (Bl l).reverse s<(Bl l).reverse.length by simpa using hm);simpa using this
   rw[Jk (by simpa using hm),names_get,names_len]at hx;obtain⟨e,he,hes⟩:=qu.1 hx;have hc:(l.length:Int)-1-(A5 (Bl l).reverse s:Nat)=((l.length-1-A5 (Bl l).reverse s:Nat):Int):=oz;simp(disch:=try exact zd) [hc,he,hes,hmem,-getElem?_pos];exact⟨_,_,rfl⟩
  .have hn:s∉Bl l:=fun h=>hm (by have:=Ev.2 (List.mem_reverse.2 h);simpa using this)
   have hc:(l.length:Int)-1-(A5 (Bl l).reverse s:Nat)=-1:=oz;simp(disch:=try exact zd) [hc,hn,-getElem?_pos];refine⟨0,tz,?_⟩;simp[AY,tz,Ty.row]
theorem PY (l:List EntD)(h:l.length<=687194767360):(K A).call 135 [Be l] []=some (Be (Cj l l.length),[]):=by
 refine fnO v135 ?_;unfold v135;simp(disch:=try exact zd);refine Am (fun i=>⟨[(0,Be l),(3,.sc (.arr 129 (Cj l i).length)),(4,intV i)],[(129,some (.arr 7 (wr (BZ (Cj l i))) 0))]⟩) l.length ?_ ?_ ?_
 .simp[Cj]
 .intro i hi
  obtain⟨e,he⟩:=Ab hi;obtain⟨_,⟨c,t,rfl⟩,hc⟩:=Zha (A:=A) (l.drop (i+1)) e.name (by simp;omega);have hsl:=HV l i;have hi':i+1<=l.length:=hi;unfold OF;by_cases hn:e.name∈Bl (l.drop (i+1))
  .simp(disch:=try exact zd) [he,hi,hc,hn,Cj,-getElem?_pos]
  .simp(disch:=try exact zd) [he,hi,hc,hn,Cj,-getElem?_pos]
 .unfold OF
  simp(disch:=try exact zd)
def BP (d:DataD):List Str:=d.cons.map (·.name)
@[simp] theorem cnames_len (d:DataD):(BP d).length=d.cons.length:=by simp[BP]
@[simp] theorem cnames_get (d:DataD) (i:Nat):(BP d)[i]?=(d.cons[i]?).map (·.name):=by simp[BP]
def EC (ds:List DataD)(c:Str):Nat:=ds.findIdx fun d=>decide (c∈BP d)
theorem Zb7 {ds:List DataD}{c:Str}(h:EC ds c<ds.length):∃d,ds[EC ds c]?=some d/\c∈BP d:=by
 refine⟨ds[EC ds c],qj h,?_⟩;have h1:=List.findIdx_getElem (w:=h);exact of_decide_eq_true h1
def Mr (ds:List DataD)(c:Str):Int×Int×Bool:=match ds[EC ds c]? with
 |some d=>(EC ds c,A5 (BP d) c,true)
 |none=>(0,0,false)
abbrev Zio (r:Int×Int×Bool):V:=.tu [intV r.1,intV r.2.1,Ac r.2.2]
end Go.Vs.Tryz
namespace Go.Vs
open Go
section
variable {C:Ctx}
attribute [simp] AX
end
end Go.Vs
namespace Go.Vs.Tryz
open Go Go.Vs
variable {A:Ag}
def Et (ds:List DataD)(i:Nat):Nat:=((ds.take i).map fun d=>d.cons.length).sum
theorem SP {ds:List DataD}{i:Nat}{d:DataD}(h:ds[i]?=some d):Et ds (i+1)=Et ds i+d.cons.length:=by
 unfold Et;rw[AP h,qai,qaF];simp
def Fh (ds:List DataD)(seen bound:List Str)(e:Exp):Int:=
 if e.kind=1 then (if e.name∈bound then seen.length+rlast bound e.name else rlast seen e.name)
 else if e.kind=2 then match Mr ds e.name with
  |(i,k,true)=>seen.length+bound.length+k+Et ds i.toNat
  |_=>-1
 else -1
variable {A:Ag}
theorem U8 {l:List Str}{s:Str}{i:Nat}(h:l[i]?=some s)(hj:∀j x,i<j->l[j]?=some x->¬x=s):rlast l s=i:=by
 have hi:=(qf.1 h).1;have hmem:s∈l:=qc h;unfold rlast;rw[if_pos hmem];have hp:=Ev.2 (List.mem_reverse.2 hmem);have hx:=Gm hp;rw[List.length_reverse]at hp;rw[Jk hp]at hx;have h1:¬i<l.length-1-A5 l.reverse s:=fun hlt=>hj _ s hlt hx rfl;have h2:¬l.length-1-i<A5 l.reverse s:=by
  intro hlt;obtain⟨x,hx2,hne⟩:=Jl hlt;rw[Jk oz,show l.length-1-(l.length-1-i)=i by omega,h]at hx2;cases hx2;exact hne rfl
 omega
def WD (ctx:List EntD):List Str:=Bl (Cj ctx ctx.length)
variable {A:Ag}
end Go.Vs.Tryz
namespace Go.Vs
open Go
mutual
def Ty.size:Ty->Nat
 |.mk _ _ _ _ a=>1+Ty.sizes a
def Ty.sizes:List Ty->Nat
 |[]=>0
 |t::r=>t.size+Ty.sizes r
end
theorem Ty.sizes_map:∀l:List Ty,Ty.sizes l=(l.map Ty.size).sum
 |[]=>by simp[Ty.sizes]
 |t::r=>by simp[Ty.sizes,Ty.sizes_map r]
theorem Ty.size_eq (t:Ty):t.size=1+(t.args.map Ty.size).sum:=by
 cases t;simp[Ty.size,Ty.args,Ty.sizes_map]
theorem Ty.size_pos (t:Ty):1<=t.size:=by
 rw[Ty.size_eq];omega
theorem Hq {l:List Nat}{n:Nat}(h:n∈l):n<=l.sum:=by
 induction l with
 |nil=>cases h
 |cons a r ih=>
  simp only[qQ];rcases qG.1 h with rfl|h
  .omega
  .have:=ih h
   omega
theorem Ty.arg_lt {t x:Ty}(h:x∈t.args):x.size<t.size:=by
 have:=Hq (qaz (f:=Ty.size) h);rw[t.size_eq];omega
theorem Ty.len_le (l:List Ty):l.length<=(l.map Ty.size).sum:=by
 induction l with
 |nil=>simp
 |cons a r ih=>
  have:=a.size_pos;simp only[qI,qt,qQ];omega
theorem Ty.args_lt (t:Ty):t.args.length<t.size:=by
 have:=Ty.len_le t.args;rw[t.size_eq];omega
theorem Ty.size_leaf {k:Int}{n:Str}{i h:Int}:(Ty.mk k n i h []).size=1:=by simp[Ty.size,Ty.sizes]
structure AssD where
 id:Int
 ty:Ty
def BE (a:AssD):List Cell:=.int .i64 a.id::a.ty.row
def De (l:List AssD):CC1:=l.map BE
@[simp] theorem assRow_len (a:AssD):(BE a).length=6:=by simp[BE]
@[simp] theorem assRows_len (l:List AssD):(De l).length=l.length:=by simp[De]
@[simp] theorem assRows_get (l:List AssD) (i:Nat):(De l)[i]?=(l[i]?).map BE:=by simp[De]
@[simp] theorem okRows_ass (l:List AssD):AZ 6 (wr (De l))=true:=Dc l assRow_len
@[simp] theorem assRows_snoc (l:List AssD) (x:AssD):wr (De l)++[wc (BE x)]=wr (De (l++[x])):=by simp[De,wr]
@[simp] theorem assRows0:De []=[]:=rfl
section
variable (a:AssD)
@[simp] theorem cut_as0:cut (BE a) 0 1=some [.int .i64 a.id]:=by rw[BE,Ty.row_eq];rfl
@[simp] theorem cut_as1:cut (BE a) 1 5=some a.ty.row:=by rw[BE,Ty.row_eq];rfl
@[simp] theorem cut_as:cut (BE a) 0 6=some (BE a):=by rw[BE,Ty.row_eq];rfl
@[simp] theorem cutw_as0:cut (wc (BE a)) 0 1=some [.c (.int .i64 a.id)]:=by rw[BE,Ty.row_eq];rfl
@[simp] theorem cutw_as1:cut (wc (BE a)) 1 5=some (wc a.ty.row):=by rw[BE,Ty.row_eq];rfl
@[simp] theorem cutw_as:cut (wc (BE a)) 0 6=some (wc (BE a)):=by rw[BE,Ty.row_eq];rfl
@[simp] theorem flat_ass:(wc (BE a)).all Bv=false:=by rw[BE,Ty.row_eq];simp[wc,Bv]
end
end Go.Vs
namespace Go.Vs.Tryz
open Go Go.Vs
variable {A:Ag}
abbrev Cy (l:List Int):V:=.sc (.c (.sl (Bo l)))
abbrev tysV (l:List Ty):V:=.sc (.c (.sl (Ty.rows l)))
abbrev C4 (l:List AssD):V:=.sc (.c (.sl (De l)))
abbrev schV (c:Int)(t:Ty):V:=.ag (wc (AY c t))
theorem Oj (h i:Int):(K A).call 118 [intV h,intV i] []=some (tyV (.mk 3 [] i h []),[]):=by
 refine fnO v118 ?_;unfold v118;simp(disch:=try exact zd) [Ty.row]
theorem N1 (i:Int):(K A).call 212 [intV i] []=some (tyV (.mk 1 [] i 0 []),[]):=by
 refine fnO v212 ?_;unfold v212;simp(disch:=try exact zd) [Ty.row]
theorem PM (i:Int):(K A).call 169 [intV i] []=some (tyV (.mk 2 [] i 0 []),[]):=by
 refine fnO v169 ?_;unfold v169;simp(disch:=try exact zd) [Ty.row]
def Ky (r:V×List Obj):Prop:=∃b,r=(Ac b,[])
theorem GJ (t:Ty):(K A).call 65 [tyV t] []=some (schV 0 t,[]):=by
 refine fnO v65 ?_;unfold v65;simp(disch:=try exact zd) [AY,Ty.row_eq]
theorem FY (l:List EntD)(s:Str)(c:Int)(t:Ty)(h:l.length<=1073741):(K A).call 64 [Be l,strV s,schV c t] []=some (Be (l++[⟨s,c,t⟩]),[]):=by
 refine fnO v64 ?_;unfold v64;cases l with
 |nil=>simp(disch:=try exact zd) [Bw,AY,BZ]
 |cons a r=>
  have hn:BZ (a::r)=Bw a::BZ r:=rfl;have hok:=okRows_ent (a::r);rw[hn,wr_cons]at hok;simp only[qI]at h;have he:(W.c (.str s)::wc (AY c t))=wc (Bw ⟨s,c,t⟩):=rfl;simp(disch:=try exact zd) [hn,hok,he];rfl
variable {A:Ag}
def cmpI (a b:Int):Int:=if a<b then -1 else if b<a then 1 else 0
def orI:List Int->Int
 |[]=>0
 |a::r=>if a=0 then orI r else a
def Uz (e:Exp):Int:=if e.kind=4 then 0 else if e.kind=8 then 2 else 1
end Go.Vs.Tryz
namespace Go.Vs
open Go
section
variable {call:FuncId->List V->List Obj->Option (V×List Obj)}{L:LO1}{oid:Nat}
@[simp] theorem call1_clo2 {f:FuncId} {w0 w1:W} {args:List (Bool×V)}:Cb call L oid (.sc (.clo f [true,true] [[w0],[w1]])) args=EJ call L oid f (AU L (args++[(true,.sc w0),(true,.sc w1)])):=by
 rw[Kb];rfl
@[simp] theorem call1_clo3 {f:FuncId} {w0 w1 w2:W} {args:List (Bool×V)}:Cb call L oid (.sc (.clo f [true,true,true] [[w0],[w1],[w2]])) args=EJ call L oid f (AU L (args++[(true,.sc w0),(true,.sc w1),(true,.sc w2)])):=by
 rw[Kb];rfl
end
end Go.Vs
namespace Go.Vs.Tryz
open Go Go.Vs
variable {A:Ag}
variable {A:Ag}
def Cn (l:List Exp):Nat->List Exp
 |0=>l
 |i+1=>match (Cn l i)[i]?,(Cn l i)[l.length-1-i]? with
  |some x,some y=>((Cn l i).set i y).set (l.length-1-i) x
  |_,_=>Cn l i
@[simp] theorem swapTo_len (l:List Exp):∀i,(Cn l i).length=l.length
 |0=>rfl
 |i+1=>by
  have:=swapTo_len l i;simp only[Cn];split
  .simp[this]
  .exact this
theorem setRow_set {α:Type}:∀(l:List α)(i:Nat)(a:α),setRow l i a=l.set i a
 |[],_,_=>rfl
 |_::_,0,_=>rfl
 |b::r,n+1,a=>by simp only[setRow,List.set_cons_succ,setRow_set r n a]
theorem DH (l:List Exp)(i:Nat)(x:Exp):setRow (wr (Exp.rows l)) i (wc x.row)=wr (Exp.rows (l.set i x)):=by
 rw[setRow_set];simp[Exp.rows_map,wr,qa8]
theorem Zd8 (l:List Exp)(h:l.length<=687194767360):∃r,r=(.tu [],[.arr 11 (wr (Exp.rows (Cn l (l.length / 2)))) 0])/\(K A).call 80 [.sc (.arr 0 l.length)] [.arr 11 (wr (Exp.rows l)) 0]=some r:=by
 refine AB (fun r=>r=(.tu [],[.arr 11 (wr (Exp.rows (Cn l (l.length / 2)))) 0])) (vf:=v80) (by kernel_rfl) rfl sy ?_;unfold v80;simp(disch:=try exact zd);refine Al (fun i s=>s=⟨[(0,.sc (.arr 0 l.length)),(2,intV i),(3,intV (l.length-1-i))],[(0,some (.arr 11 (wr (Exp.rows (Cn l i))) 0))]⟩) (l.length / 2) (by simp[Cn]) ?_ ?_
 .rintro i s hi rfl
  have hn:((l.length:Int)-1-i)=((l.length-1-i:Nat):Int):=oz
  obtain⟨x,hx⟩:=Ab (l:=Cn l i) (i:=i) (by simp;omega);obtain⟨y,hy⟩:=Ab (l:=Cn l i) (i:=l.length-1-i) (by simp;omega);have hlt:(i:Int)<((l.length-1-i:Nat):Int):=oz
  have r1:=DH (Cn l i) i y;have r2:=DH ((Cn l i).set i y) (l.length-1-i) x;rw[hn];unfold Ob;simp(disch:=try exact zd) [hx,hy,hlt,Cn,r1,r2,-getElem?_pos];omega
 .rintro s rfl
  have hlt:¬(l.length:Int) / 2<(l.length:Int)-1-(l.length:Int) / 2:=oz
  unfold Ob;simp(disch:=try exact zd) [hlt,-getElem?_pos]
theorem Ld (l:List Exp):∀i,2*i<=l.length->∀j,j<l.length->(Cn l i)[j]?=if j<i\/l.length<=j+i then l[l.length-1-j]? else l[j]?
 |0,_,j,hj=>by
  have:¬(j<0\/l.length<=j+0):=oz
  simp only[Cn,if_neg this]
 |i+1,hi,j,hj=>by
  have h1:=Ld l i oz i oz;have h2:=Ld l i oz (l.length-1-i) oz;have h3:=Ld l i oz j hj;rw[if_neg oz]at h1;rw[if_neg oz]at h2;obtain⟨x,hx⟩:=Ab (l:=l) (i:=i) oz;obtain⟨y,hy⟩:=Ab (l:=l) (i:=l.length-1-i) oz;rw[hx]at h1;rw[hy]at h2;simp only[Cn,h1,h2];by_cases e2:j=l.length-1-i
  .subst e2
   rw[qbf (by simp;omega),if_pos oz,show l.length-1-(l.length-1-i)=i by omega,hx]
  .rw [qaN oz]
   by_cases e1:j=i
   .subst e1
    rw[qbf (by simp;omega),if_pos oz,hy]
   .rw [qaN oz,h3]
    by_cases hc:j<i\/l.length<=j+i
    .rw[if_pos hc,if_pos oz]
    .rw[if_neg hc,if_neg oz]
theorem Zcp (l:List Exp):Cn l (l.length / 2)=l.reverse:=by
 apply qH;intro j;by_cases hj:j<l.length
 .rw [Ld l _ oz j hj,List.getElem?_reverse hj]
  by_cases hc:j<l.length / 2\/l.length<=j+l.length / 2
  .rw[if_pos hc]
  .rw[if_neg hc,show l.length-1-j=j by omega]
 .rw[qap (by simp;omega),qap (by simp;omega)]
variable {A:Ag}
def It (c:UInt8):Bool:=(97<=c.toNat&&c.toNat<=122)||(65<=c.toNat&&c.toNat<=90)||(48<=c.toNat&&c.toNat<=57)||c.toNat==95
def keyWords:List Str:=[[100,97,116,97],[108,101,116],[114,101,99],[105,110],[99,97,115,101],[111,102],[101,110,100]]
def nameOk (lo hi:Nat)(s:Str):Prop:=s.length<=12/\(∃c,s[0]?=some c/\lo<=c.toNat/\c.toNat<=hi)/\(∀c∈s,It c=true)/\s∉keyWords
theorem Lh (lo hi:Nat)(s:Str)(h:nameOk lo hi s):(K A).call 141 [strV s,.sc (.c (.int .u8 lo)),.sc (.c (.int .u8 hi))] []=some (Ac true,[]):=by
 refine fnO v141 ?_;obtain⟨h1,⟨c,hc,h2,h3⟩,h4,h5⟩:=h;simp only[keyWords,qG,qag,or_false,not_or]at h5;obtain⟨k1,k2,k3,k4,k5,k6,k7⟩:=h5;have hl:0<s.length:=(qf.1 hc).1;have e1:¬(s.length:Int)<1:=oz
 have e2:¬(12:Int)<s.length:=oz
 have e3:¬(c.toNat:Int)<lo:=oz
 have e4:¬(hi:Int)<c.toNat:=oz
 unfold v141;simp(disch:=try exact zd) [e1,e2,e3,e4,hc,-getElem?_pos];refine Al (fun i t=>t=⟨[(0,strV s),(31,intV s.length),(32,intV i)],[]⟩) s.length sy ?_ ?_
 .rintro i t hi rfl
  obtain⟨d,hd⟩:=Ab hi;have hdo:=h4 d (qc hd);simp only[It,qaw,qe,decide_eq_true_eq,beq_iff_eq]at hdo;unfold NJ;by_cases a1:97<=d.toNat
  .by_cases a2:d.toNat<=122
   .have b1:(97:Int)<=d.toNat:=oz
    have b2:(d.toNat:Int)<=122:=oz;simp(disch:=try exact zd) [hi,hd,b1,b2,-getElem?_pos]
   .omega
  .have b1:¬(97:Int)<=d.toNat:=oz
   by_cases a3:65<=d.toNat
   .have b3:(65:Int)<=d.toNat:=oz
    by_cases a4:d.toNat<=90
    .have b4:(d.toNat:Int)<=90:=oz
     simp(disch:=try exact zd) [hi,hd,b1,b3,b4,-getElem?_pos]
    .have b4:¬(d.toNat:Int)<=90:=oz
     have b5:(d.toNat:Int)=95:=oz;simp(disch:=try exact zd) [hi,hd,b5,-getElem?_pos]
   .have b3:¬(65:Int)<=d.toNat:=oz
    have b4:¬(d.toNat:Int)<48:=oz;have b5:¬(57:Int)<d.toNat:=oz;simp(disch:=try exact zd) [hi,hd,b1,b3,b4,b5,-getElem?_pos]
 .rintro t rfl
  unfold NJ;simp(disch:=try exact zd) [k1,k2,k3,k4,k5,k6,k7,-getElem?_pos]
theorem H1 (s:Str)(h:nameOk 97 122 s):(K A).call 92 [strV s] []=some (Ac true,[]):=by
 have h1:(K A).call 141 [strV s,.sc (.c (.int .u8 97)),.sc (.c (.int .u8 122))] []=some (Ac true,[]):=Lh (A:=A) 97 122 s h;have hs:¬s=[]:=by
  rintro rfl;obtain⟨_,⟨c,hc,_⟩,_⟩:=h;cases hc
 have hv:(K A).call 93 [tyV (.mk 5 s 0 0 [])] []=some (Ac true,[]):=by
  refine fnO v93 ?_;unfold v93;simp(disch:=try exact zd) [h1,hs,Ty.kind,Ty.name,Ty.id,Ty.home,Ty.args,-getElem?_pos]
 refine fnO v92 ?_;simp[tyV,Ty.row,Ty.rows]at hv;unfold v92;simp(disch:=try exact zd) [hv,-getElem?_pos]
theorem U6 (s:Str)(h:nameOk 65 90 s):(K A).call 91 [strV s] []=some (Ac true,[]):=by
 have h1:(K A).call 141 [strV s,.sc (.c (.int .u8 65)),.sc (.c (.int .u8 90))] []=some (Ac true,[]):=Lh (A:=A) 65 90 s h;have hs:¬s=[]:=by
  rintro rfl;obtain⟨_,⟨c,hc,_⟩,_⟩:=h;cases hc
 have hne:¬s=[45,62]:=by
  rintro rfl;obtain⟨_,⟨c,hc,h2,h3⟩,_⟩:=h;cases hc;simp at h2
 have hv:(K A).call 93 [tyV (.mk 4 s 0 0 [])] []=some (Ac true,[]):=by
  have hcon:(K A).call 142 [strV s,intV 0] []=some (Ac true,[]):=by
   refine fnO v142 ?_;unfold v142;by_cases hi:s=[73,110,116]
   .simp(disch:=try exact zd) [hi,-getElem?_pos]
   .simp(disch:=try exact zd) [hne,hi,h1,-getElem?_pos]
  have hall:(K A).call 143 [.sc (.c (.sl [])),.sc (.c (.fn 144 [] []))] []=some (Ac false,[]):=Ek (n:=10) (by kernel_rfl);refine fnO v93 ?_;unfold v93;simp(disch:=try exact zd) [hcon,hall,hs,Ty.kind,Ty.name,Ty.id,Ty.home,Ty.args,-getElem?_pos]
 refine fnO v91 ?_;simp[tyV,Ty.row,Ty.rows]at hv;unfold v91;simp(disch:=try exact zd) [hv,-getElem?_pos]
end Go.Vs.Tryz
namespace Go.Vs
open Go
theorem Ty.ind {P:Ty->Prop}(h:∀t:Ty,(∀x∈t.args,P x)->P t)(t:Ty):P t:=by
 have:∀(n:Nat) (t:Ty),t.size<=n->P t:=by
  intro n
  induction n with
  |zero=>
   intro t ht;have:=t.size_pos;omega
  |succ n ih=>
   intro t ht;exact h t fun x hx=>ih x (by have:=Ty.arg_lt hx;omega)
 exact this t.size t (qg _)
mutual
def Ty.all (p:Ty->Prop):Ty->Prop
 |.mk k n i h a=>p (.mk k n i h a)/\Ty.alls p a
def Ty.alls (p:Ty->Prop):List Ty->Prop
 |[]=>True
 |t::r=>Ty.all p t/\Ty.alls p r
end
theorem Ty.alls_iff {p:Ty->Prop}:∀{l:List Ty},Ty.alls p l↔∀x∈l,Ty.all p x
 |[]=>by simp[Ty.alls]
 |t::r=>by simp[Ty.alls,Ty.alls_iff (l:=r)]
theorem Ty.all_iff {p:Ty->Prop}{t:Ty}:Ty.all p t↔p t/\∀x∈t.args,Ty.all p x:=by
 cases t;simp[Ty.all,Ty.args,Ty.alls_iff]
theorem Ty.all.one {p:Ty->Prop}{t:Ty}(h:Ty.all p t):p t:=(Ty.all_iff.1 h).1
theorem Ty.all.arg {p:Ty->Prop}{t x:Ty}(h:Ty.all p t)(hx:x∈t.args):Ty.all p x:=(Ty.all_iff.1 h).2 x hx
theorem Ty.all.mono {p q:Ty->Prop}(hpq:∀t,p t->q t)(t:Ty):Ty.all p t->Ty.all q t:=by
 induction t using Ty.ind<;>grind[Ty.all_iff]
mutual
def Ty.map (f:Ty->Option Ty):Ty->Ty
 |.mk k n i h a=>match f (.mk k n i h a)with
  |some u=>u
  |none=>.mk k n i h (Ty.maps f a)
def Ty.maps (f:Ty->Option Ty):List Ty->List Ty
 |[]=>[]
 |t::r=>Ty.map f t::Ty.maps f r
end
theorem Ty.maps_map {f:Ty->Option Ty}:∀(l:List Ty),Ty.maps f l=l.map (Ty.map f)
 |[]=>by rfl
 |t::r=>by simp[Ty.maps,Ty.maps_map r]
theorem Ty.map_some {f:Ty->Option Ty}{t u:Ty}(h:f t=some u):Ty.map f t=u:=by
 cases t;simp only[Ty.map,h]
theorem Ty.map_none {f:Ty->Option Ty}{t:Ty}(h:f t=none):Ty.map f t=.mk t.kind t.name t.id t.home (t.args.map (Ty.map f)):=by
 cases t;grind[Ty.map,Ty.maps_map,Ty.kind,Ty.name,Ty.id,Ty.home,Ty.args]
theorem Ty.map_all {f:Ty->Option Ty}{p q:Ty->Prop}(h1:∀t u,Ty.all p t->f t=some u->Ty.all q u)
 (h2:∀(t:Ty) (a:List Ty),p t->f t=none->a.length=t.args.length->q (.mk t.kind t.name t.id t.home a)) (t:Ty):Ty.all p t->Ty.all q (Ty.map f t):=by
 induction t using Ty.ind with
 |h t ih=>
  intro h;cases hf:f t<;>grind[Ty.map_some,Ty.map_none,Ty.all_iff,Ty.args]
theorem QV {m:Nat}:∀{l:List Ty}{g:Ty->Ty},(∀x∈l,(g x).size<=x.size*m)->((l.map g).map Ty.size).sum<=(l.map Ty.size).sum*m
 |[],_,_=>by simp
 |a::r,g,h=>by
  have h1:=h a sy;have h2:=QV (l:=r) (g:=g) fun x hx=>h x (by grind);simp only[qt,qQ,qaU];omega
theorem Ty.map_size {f:Ty->Option Ty}{m:Nat}(hm:1<=m)(h1:∀t u,f t=some u->u.size<=t.size*m)(t:Ty):(Ty.map f t).size<=t.size*m:=by
 induction t using Ty.ind with
 |h t ih=>
  cases hf:f t with
  |some u=>grind[Ty.map_some]
  |none=>
   rw[Ty.map_none hf,Ty.size_eq,t.size_eq];have:=QV (l:=t.args) (g:=Ty.map f) ih;show 1+((t.args.map (Ty.map f)).map Ty.size).sum<=(1+(t.args.map Ty.size).sum)*m;grind
def C1 (s:Str)(n:Nat):Prop:=(s=[45,62]/\n=2)\/(s=[73,110,116]/\n=0)\/(s≠[45,62]/\s≠[73,110,116]/\Tryz.nameOk 65 90 s/\n<=4)
def vldN (c:Nat)(t:Ty):Prop:=(t.kind=2->t.id<c/\t.args=[])/\(t.kind=4->t.id=0/\t.home=0/\C1 t.name t.args.length)/\(t.kind=5->t.id=0/\t.home=0/\t.args=[]/\Tryz.nameOk 97 122 t.name)/\1<=t.kind/\t.kind<=5
def tyN (n c:Nat)(t:Ty):Prop:=(t.kind=1->0<=t.id/\t.id<n/\t.args=[])/\(t.kind=2->0<=t.id)/\(t.kind=3->t.args=[])/\vldN c t
def tyB (n c:Nat)(t:Ty):Prop:=Ty.all (tyN n c) t
def tyS (n:Nat)(t:Ty):Prop:=tyB n 0 t
theorem VL {n c:Nat}{t:Ty}:tyB n c t↔tyN n c t/\∀x∈t.args,tyB n c x:=Ty.all_iff
theorem tyB.one {n c:Nat}{t:Ty}(h:tyB n c t):tyN n c t:=Ty.all.one h
theorem tyB.arg {n c:Nat}{t x:Ty}(h:tyB n c t)(hx:x∈t.args):tyB n c x:=Ty.all.arg h hx
theorem tyB.mono {n m c d:Nat}{t:Ty}(h:tyB n c t)(hnm:n<=m)(hcd:c<=d):tyB m d t:=
 Ty.all.mono (fun t ⟨h1,h2,h3,h4,h5⟩=>⟨fun hk=>⟨(h1 hk).1,oz,(h1 hk).2.2⟩,h2,h3,fun hk=>⟨oz,(h4 hk).2⟩,h5⟩) t h
theorem GQ {n:Nat}{t:Ty}:tyS n t↔tyN n 0 t/\∀x∈t.args,tyS n x:=Ty.all_iff
theorem tyS.one {n:Nat}{t:Ty}(h:tyS n t):tyN n 0 t:=Ty.all.one h
theorem tyS.arg {n:Nat}{t x:Ty}(h:tyS n t)(hx:x∈t.args):tyS n x:=Ty.all.arg h hx
theorem tyS.mono {n m:Nat}{t:Ty}(h:tyS n t)(hnm:n<=m):tyS m t:=tyB.mono h hnm (qg 0)
theorem tyS.up {n c:Nat}{t:Ty}(h:tyS n t):tyB n c t:=tyB.mono h (qg n) (qaa c)
theorem tyN.len {n c:Nat}{t:Ty}{a:List Ty}(h:tyN n c t)(ha:a.length=t.args.length):tyN n c (.mk t.kind t.name t.id t.home a):=by
 have he:t.args=[]->a=[]:=fun h=>qS.1 (by grind);obtain⟨h1,h2,h3,h4,h5,h6,h7⟩:=h;refine⟨fun hk=>⟨(h1 hk).1,(h1 hk).2.1,he (h1 hk).2.2⟩,h2,fun hk=>he (h3 hk),fun hk=>⟨(h4 hk).1,he (h4 hk).2⟩,fun hk=>⟨(h5 hk).1,(h5 hk).2.1,?_⟩,fun hk=>⟨(h6 hk).1,(h6 hk).2.1,he (h6 hk).2.2.1,(h6 hk).2.2.2⟩,h7⟩;show C1 t.name a.length;rw[ha];exact(h5 hk).2.2
theorem tyN.noBound {n c d:Nat}{t:Ty}(h:tyN n c t)(hk:t.kind≠2):tyN n d t:=by
 obtain⟨h1,h2,h3,h4,h5⟩:=h;exact⟨h1,h2,h3,fun h=>absurd h hk,h5⟩
theorem tyN.noVar {n m c:Nat}{t:Ty}(h:tyN n c t)(hk:t.kind≠1):tyN m c t:=by
 obtain⟨h1,h2⟩:=h;exact⟨fun h=>absurd h hk,h2⟩
theorem IN:C1 [45,62] 2:=.inl ⟨rfl,rfl⟩
theorem L1 {n c:Nat}{s:Str}{l:List Ty}(hs:C1 s l.length)(h:∀x∈l,tyB n c x):tyB n c (.mk 4 s 0 0 l):=
 VL.2 ⟨⟨fun hk=>absurd (show(4:Int)=1 from hk) (by decide),fun hk=>absurd (show(4:Int)=2 from hk) (by decide),fun hk=>absurd (show(4:Int)=3 from hk) (by decide),
  fun hk=>absurd (show(4:Int)=2 from hk) (by decide),fun _=>⟨rfl,rfl,hs⟩,fun hk=>absurd (show(4:Int)=5 from hk) (by decide),by show(1:Int)<=4;decide,by show(4:Int)<=5;decide⟩,fun x hx=>h x hx⟩
theorem Jw {n:Nat}{s:Str}{l:List Ty}(hs:C1 s l.length)(h:∀x∈l,tyS n x):tyS n (.mk 4 s 0 0 l):=L1 hs h
theorem Nw {n:Nat}:tyS n (.mk 4 [73,110,116] 0 0 []):=Jw (.inr (.inl ⟨rfl,rfl⟩)) fun x hx=>by cases hx
theorem IK {n i:Nat}(h:i<n):tyS n (.mk 1 [] i 0 []):=
 GQ.2 ⟨⟨fun _=>⟨by show(0:Int)<=i;omega,by show(i:Int)<n;omega,rfl⟩,fun hk=>absurd (show(1:Int)=2 from hk) (by decide),fun hk=>absurd (show(1:Int)=3 from hk) (by decide),
  fun hk=>absurd (show(1:Int)=2 from hk) (by decide),fun hk=>absurd (show(1:Int)=4 from hk) (by decide),fun hk=>absurd (show(1:Int)=5 from hk) (by decide),by show(1:Int)<=1;decide,by show(1:Int)<=5;decide⟩,fun x hx=>by cases hx⟩
theorem Pq {n c i:Nat}(h:i<c):tyB n c (.mk 2 [] i 0 []):=
 VL.2 ⟨⟨fun hk=>absurd (show(2:Int)=1 from hk) (by decide),fun _=>by show(0:Int)<=i;omega,fun hk=>absurd (show(2:Int)=3 from hk) (by decide),
  fun _=>⟨by show(i:Int)<c;omega,rfl⟩,fun hk=>absurd (show(2:Int)=4 from hk) (by decide),fun hk=>absurd (show(2:Int)=5 from hk) (by decide),by show(1:Int)<=2;decide,by show(2:Int)<=5;decide⟩,fun x hx=>by cases hx⟩
theorem O4 {n:Nat}{i h:Int}:tyS n (.mk 3 [] i h []):=
 GQ.2 ⟨⟨fun hk=>absurd (show(3:Int)=1 from hk) (by decide),fun hk=>absurd (show(3:Int)=2 from hk) (by decide),fun _=>rfl,
  fun hk=>absurd (show(3:Int)=2 from hk) (by decide),fun hk=>absurd (show(3:Int)=4 from hk) (by decide),fun hk=>absurd (show(3:Int)=5 from hk) (by decide),by show(1:Int)<=3;decide,by show(3:Int)<=5;decide⟩,fun x hx=>by cases hx⟩
theorem Zgu {n:Nat}{s:Str}(hs:Tryz.nameOk 97 122 s):tyS n (.mk 5 s 0 0 []):=
 GQ.2 ⟨⟨fun hk=>absurd (show(5:Int)=1 from hk) (by decide),fun hk=>absurd (show(5:Int)=2 from hk) (by decide),fun hk=>absurd (show(5:Int)=3 from hk) (by decide),
  fun hk=>absurd (show(5:Int)=2 from hk) (by decide),fun hk=>absurd (show(5:Int)=4 from hk) (by decide),fun _=>⟨rfl,rfl,rfl,hs⟩,by show(1:Int)<=5;decide,by show(5:Int)<=5;decide⟩,fun x hx=>by cases hx⟩
def Hc (args:List Ty)(t:Ty):Option Ty:=if t.kind=2/\0<=t.id/\t.id<args.length then args[t.id.toNat]? else none
def CE (args:List Ty):Ty->Ty:=Ty.map (Hc args)
def Fe (s:List AssD)(t:Ty):Ty:=match s.find? (fun a=>decide (a.id=t.id))with
 |some a=>a.ty
 |none=>t
def C9 (s:List AssD)(t:Ty):Option Ty:=if t.kind=1 then some (Fe s t) else none
def Bt (s:List AssD):Ty->Ty:=Ty.map (C9 s)
def idxS (l:List Str)(s:Str):Int:=match l.findIdx? (fun x=>decide (x=s))with
 |some i=>i
 |none=>-1
def G3 (l:List Str)(t:Ty):Option Ty:=if t.kind=5 then some (if idxS l t.name>=0 then .mk 2 [] (idxS l t.name) 0 [] else t) else none
def BW (l:List Str):Ty->Ty:=Ty.map (G3 l)
def DT (t:Ty):Option Ty:=if t.kind=3/\t.home=99 then some (.mk 1 [] (900+t.id) 0 []) else none
def Cp:Ty->Ty:=Ty.map DT
theorem NY {n:Nat}{args:List Ty}(h:∀x∈args,tyS n x){t:Ty}(ht:tyB n args.length t):tyS n (CE args t):=by
 refine Ty.map_all (p:=tyN n args.length) (q:=tyN n 0) ?_ ?_ t ht
 .intro t u _ hf
  unfold Hc at hf;split at hf
  .exact h u (qc hf)
  grind
 .intro t a hp hf ha
  refine(hp.noBound fun hk=>?_).len ha;have h0:=hp.2.1 hk;have h1:=(hp.2.2.2.1 hk).1;grind[Hc]
theorem Qc {m:Nat}(hm:1<=m){args:List Ty}(h:∀x∈args,x.size<=m)(t:Ty):(CE args t).size<=t.size*m:=by
 refine Ty.map_size hm ?_ t;intro t u hf;unfold Hc at hf;split at hf
 .have h1:=h u (qc hf)
  have h2:=t.size_pos;have:=qD m h2;omega
 grind
theorem ZeW (l:List Str)(s:Str):idxS l s<l.length:=by
 grind[idxS,qaO]
theorem Px {n:Nat}{l:List Str}{t:Ty}(ht:tyS n t):tyB n l.length (BW l t):=by
 refine Ty.map_all (p:=tyN n 0) (q:=tyN n l.length) ?_ ?_ t ht
 .intro t u hp hf
  unfold G3 at hf;split at hf
  .cases hf
   split
   .rename_i hi
    obtain⟨i,hi2⟩:∃i:Nat,idxS l t.name=i:=⟨(idxS l t.name).toNat,oz⟩;have:=ZeW l t.name;rw[hi2]at this |-;exact Pq oz
   .exact tyB.mono hp (qg n) (qaa _)
  grind
 .intro t a hp _ ha
  exact(hp.noBound fun hk=>by have h0:=hp.2.1 hk;have h1:=(hp.2.2.2.1 hk).1;omega).len ha
theorem Pj (l:List Str)(t:Ty):(BW l t).size<=t.size:=by
 have h:=Ty.map_size (f:=G3 l) (m:=1) (qg _) ?_ t
 .unfold BW
  omega
 .intro t u hf
  unfold G3 at hf;split at hf
  .cases hf
   split
   .have:=t.size_pos
    grind[Ty.size_leaf]
   simp
  grind
def E6 (l:List Int)(t:Ty):Prop:=Ty.all (fun u=>u.kind=1->u.id∈l) t
theorem Zai {n:Nat}{l:List Int}(t:Ty):tyS n t->E6 l t->Ty.all (fun u=>tyN n 0 u/\(u.kind=1->u.id∈l)) t:=by
 induction t using Ty.ind with
 |h t ih=>
  intro h1 h2;exact Ty.all_iff.2 ⟨⟨h1.one,Ty.all.one h2⟩,fun x hx=>ih x hx (h1.arg hx) (Ty.all.arg h2 hx)⟩
theorem Nt {n m c:Nat}{l:List Int}{s:List AssD}(hs:∀i∈l,∃a∈s,a.id=i)(hm:∀a∈s,tyB m c a.ty){t:Ty}(ht:tyS n t)(hv:E6 l t):tyB m c (Bt s t):=by
 refine Ty.map_all (p:=fun u=>tyN n 0 u/\(u.kind=1->u.id∈l)) (q:=tyN m c) ?_ ?_ t (Zai t ht hv)
 .intro t u hp hf
  unfold C9 at hf;split at hf
  .rename_i hk
   cases hf;obtain⟨a,ha,hai⟩:=hs _ (hp.one.2 hk);unfold Fe;split
   .rename_i b hb
    exact hm b (qaG hb)
   grind
  grind
 .intro t a ⟨hp,_⟩ hf ha
  have hk:t.kind≠1:=by
   grind[C9]
  exact((hp.noVar hk).noBound fun hk=>by have h0:=hp.2.1 hk;have h1:=(hp.2.2.2.1 hk).1;omega).len ha
theorem OG {m:Nat}(hm:1<=m){s:List AssD}(h:∀a∈s,a.ty.size<=m)(t:Ty):(Bt s t).size<=t.size*m:=by
 refine Ty.map_size hm ?_ t;intro t u hf;have h2:=t.size_pos;unfold C9 at hf;split at hf
 .cases hf
  unfold Fe;split
  .rename_i b hb
   have h1:=h b (qaG hb);have:=qD m h2;omega
  .have:=qaH t.size hm
   omega
 grind
theorem Ve {s:List AssD}{c:Nat}(t:Ty):tyB 0 c t->Bt s t=t:=by
 induction t using Ty.ind with
 |h t ih=>
  intro h;have hk:t.kind≠1:=fun hk=>by
   have:=(h.one.1 hk);omega
  have hf:C9 s t=none:=by grind[C9]
  unfold Bt;have e:t.args.map (Ty.map (C9 s))=t.args:=(qM (g:=id) fun x hx=>ih x hx (h.arg hx)).trans (List.map_id _);rw[Ty.map_none hf,e];cases t;rfl
theorem Zht (t:Ty):(Cp t).size<=t.size:=by
 have h:=Ty.map_size (f:=DT) (m:=1) (qg _) ?_ t
 .unfold Cp
  omega
 .intro t u hf
  have:=t.size_pos;grind[DT,Ty.size_leaf]
def Py (l:List Int)(t:Ty):Prop:=Ty.all (fun u=>u.kind=3/\u.home=99->0<=u.id/\900+u.id∈l) t
theorem Zhj {l:List Int}{n:Nat}(hl:∀i∈l,i<n)(t:Ty):tyS 0 t->Py l t->tyS n (Cp t)/\E6 l (Cp t):=by
 induction t using Ty.ind with
 |h t ih=>
  intro h1 h2;by_cases hk:t.kind=3/\t.home=99
  .have hf:DT t=some (.mk 1 [] (900+t.id) 0 []):=by grind [DT]
   obtain⟨h3,h4⟩:=Ty.all.one h2 hk;have h5:=hl _ h4;unfold Cp;rw[Ty.map_some hf];obtain⟨i,hi⟩:∃i:Nat,900+t.id=i:=⟨(900+t.id).toNat,oz⟩;rw[hi]at h4 h5 |-;exact⟨IK oz,Ty.all_iff.2 ⟨fun _=>h4,fun x hx=>by cases hx⟩⟩
  .have hf:DT t=none:=by grind [DT]
   have hk1:t.kind≠1:=fun hk=>by
    have:=(h1.one.1 hk);omega
   unfold Cp;rw[Ty.map_none hf];refine⟨GQ.2 ⟨(h1.one.noVar hk1).len sy,?_⟩,Ty.all_iff.2 ⟨fun h=>absurd h hk1,?_⟩⟩
   .intro x hx
    obtain⟨y,hy,rfl⟩:=qJ.1 (show x∈t.args.map (Ty.map DT)from hx);exact(ih y hy (h1.arg hy) (Ty.all.arg h2 hy)).1
   .intro x hx
    obtain⟨y,hy,rfl⟩:=qJ.1 (show x∈t.args.map (Ty.map DT)from hx);exact(ih y hy (h1.arg hy) (Ty.all.arg h2 hy)).2
def leafIn (k:Int)(l:List Ty)(t:Ty):Prop:=Ty.all (fun u=>u.kind=k->u.args=[]->u∈l) t
theorem leafIn.mono {k:Int}{l m:List Ty}(h:∀x∈l,x∈m){t:Ty}(ht:leafIn k l t):leafIn k m t:=Ty.all.mono (fun _ h1 h2 h3=>h _ (h1 h2 h3)) t ht
end Go.Vs
namespace Go.Vs.Tryz
open Go Go.Vs
variable {A:Ag}
theorem ZQ (l m:List Ty)(hl:l.length<=687194767360)(ih:∀x∈l,∀b,∃r,Ky r/\(K A).call 52 [tyV x,tyV b] []=some r):∃r,Ky r/\(K A).call 107 [tysV l,tysV m] []=some r:=by
 refine fnE v107 ?_;unfold v107;by_cases hn:l.length=m.length
 .simp (disch:=try exact zd) [hn]
  refine Al (fun i s=>s=⟨[(0,tysV l),(1,tysV m),(5,intV i)],[]⟩) l.length sy ?_ ?_
  .rintro i s hi rfl
   obtain⟨x,hx⟩:=Ab hi;obtain⟨y,hy⟩:=Ab (l:=m) (i:=i) oz;obtain⟨_,⟨b,rfl⟩,hc⟩:=ih x (qc hx) y;unfold HR;cases b with
   |true=>simp(disch:=try exact zd) [hi,hx,hy,hc,-getElem?_pos]
   |false=>
    simp(disch:=try exact zd) [hi,hx,hy,hc,-getElem?_pos];exact⟨false,rfl⟩
  .rintro s rfl
   unfold HR;simp(disch:=try exact zd);exact⟨true,rfl⟩
 .have hn':¬(l.length:Int)=m.length:=oz
  simp(disch:=try exact zd) [hn,hn'];exact⟨false,rfl⟩
theorem Up:∀(n:Nat)(a b:Ty),a.size<=n->n<=687194767360->∃r,Ky r/\(K A).call 52 [tyV a,tyV b] []=some r:=by
 intro n
 induction n with
 |zero=>
  intro a b ha;have:=a.size_pos;omega
 |succ n ih=>
  intro a b ha hn;have hal:=a.args_lt;obtain⟨_,⟨v,rfl⟩,hc⟩:=ZQ (A:=A) a.args b.args oz (fun x hx b=>ih x b (by have:=Ty.arg_lt hx;omega) oz);refine fnE v52 ?_;unfold v52;by_cases h1:a.kind=b.kind
  .by_cases h2:a.name=b.name
   .by_cases h3:a.id=b.id
    .by_cases h4:a.home=b.home
     .simp (disch:=try exact zd) [h1,h2,h3,h4,hc]
      exact⟨v,rfl⟩
     .simp (disch:=try exact zd) [h1,h2,h3,h4,hc]
      exact⟨false,rfl⟩
    .simp (disch:=try exact zd) [h1,h2,h3,hc]
     exact⟨false,rfl⟩
   .simp (disch:=try exact zd) [h1,h2,hc]
    exact⟨false,rfl⟩
  .simp (disch:=try exact zd) [h1,hc]
   exact⟨false,rfl⟩
def ZiO (n m:Nat)(r:V×List Obj):Prop:=∃out:List Ty,n<=out.length/\out.length<=m/\(∀x∈out,x.size<=687194767360)/\r=(.sc (.arr 0 out.length),[.arr 5 (wr (Ty.rows out)) 0])
def ZiN (m:Nat)(r:V×List Obj):Prop:=∃ids:List Int,ids.length<=m/\r=(Cy ids,[])
variable {A:Ag}
def TyP (r:V×List Obj):Prop:=∃t:Ty,r=(tyV t,[])
def ZiB (r:V×List Obj):Prop:=∃(c:Int)(t:Ty),r=(schV c t,[])
theorem GU {m:Nat}:∀{l:List Ty},(∀x∈l,x.size<=m)->(l.map Ty.size).sum<=l.length*m
 |[],_=>by simp
 |a::r,h=>by
  have h1:=h a sy;have h2:=GU (l:=r) fun x hx=>h x (by simp[hx]);simp only[qt,qQ,qI,Nat.succ_mul];omega
def ZiL (L:List Int)(m:Nat)(r:V×List Obj):Prop:=∃t J,t.size<=m/\J<=L.length/\r=(tyV t,[Ao L J])
def ZiD (L:List Int)(ds:List DataD)(ls:List Ty)(dd:DataD)(d i:Nat)(s:St):Prop:=∃tys J,tys.length=i/\(∀x∈tys,x.size<=5 ^ d)/\J<=L.length/\
 s=⟨[(0,.sc (.ptr 0 0)),(1,Aw ds),(2,tysV ls),(3,intV (d+1)),(8,.sc (.ptr 64 0)),(10,.sc (.ptr 3392 0)),(11,.sc (.arr 3521 i)),(12,intV i)],
  [(0,some (Ao L J)),(64,some (.box [zi,zs,zi,zi,.nil])),(3392,some (.box (wc (A2 dd)))),(3521,some (.arr 5 (wr (Ty.rows tys)) 0))]⟩
variable {A:Ag}
theorem GM (t:Ty):(∃a b,t.args=[a,b]/\(K A).call 84 [tyV t] []=some (.tu [tyV a,tyV b,Ac true],[]))\/(K A).call 84 [tyV t] []=some (.tu [tyV (.mk 0 [] 0 0 []),tyV (.mk 0 [] 0 0 []),Ac false],[]):=by
 by_cases h:t.kind=4/\t.name=[45,62]/\t.args.length=2
 .obtain ⟨h1,h2,h3⟩:=h
  left;obtain⟨a,b,hab⟩:∃a b,t.args=[a,b]:=by
   match hl:t.args,h3 with
   |[a,b],_=>exact⟨a,b,rfl⟩
  refine⟨a,b,hab,?_⟩;have hr:Ty.rows [a,b]=[a.row,b.row]:=by simp[Ty.rows]
  refine fnO v84 ?_;unfold v84;simp(disch:=try exact zd) [h1,h2,hab,hr]
 .right
  refine fnO v84 ?_;unfold v84;by_cases h1:t.kind=4
  .by_cases h2:t.name=[45,62]
   .have h3:¬t.args.length=2:=fun h3=>h ⟨h1,h2,h3⟩
    have h3':¬(t.args.length:Int)=2:=oz;simp(disch:=try exact zd) [h1,h2,h3,h3',Ty.row]
   .simp(disch:=try exact zd) [h1,h2,Ty.row]
  .simp(disch:=try exact zd) [h1,Ty.row]
def HasK (k:Int)(t:Ty)(r:V×List Obj):Prop:=∃b:Bool,(b=false->Ty.all (fun u=>u.kind≠k) t)/\r=(Ac b,[])
theorem Sb (k:Int)(t:Ty):t.size<=687194767360->∃r,HasK k t r/\(K A).call 88 [tyV t,intV k] []=some r:=by
 induction t using Ty.ind with
 |h t ih=>
 intro ht;have hal:=t.args_lt;refine fnE v88 ?_;unfold v88;by_cases h1:t.kind=k
 .simp (disch:=try exact zd) [h1]
  exact⟨true,fun h=>(by cases h),rfl⟩
 .simp (disch:=try exact zd) [h1]
  refine Al (fun i s=>(∀(j:Nat) y,j<i->t.args[j]?=some y->Ty.all (fun u=>u.kind≠k) y)/\s=⟨[(1,intV k),(2,.sc (.ptr 64 0)),(5,intV i)],[(64,some (.box (wc t.row)))]⟩) t.args.length ⟨oz,by simp⟩ ?_ ?_
  .rintro i s hi ⟨hno,rfl⟩
   obtain⟨x,hx⟩:=Ab hi;have hxs:=Ty.arg_lt (qc hx);obtain⟨_,⟨b,hb,rfl⟩,hc⟩:=ih x (qc hx) oz;unfold Pg;cases b with
   |true=>
    simp(disch:=try exact zd) [hi,hx,hc,-getElem?_pos];exact⟨true,fun h=>(by cases h),rfl⟩
   |false=>
    simp(disch:=try exact zd) [hi,hx,hc,-getElem?_pos];intro j y hj hy;by_cases hji:j<i
    .exact hno j y hji hy
    .obtain rfl:j=i:=oz
     rw[hx]at hy;cases hy;exact hb rfl
  .rintro s ⟨hno,rfl⟩
   unfold Pg;simp(disch:=try exact zd) [-getElem?_pos];refine⟨false,fun _=>Ty.all_iff.2 ⟨h1,fun y hy=>?_⟩,rfl⟩;obtain⟨j,hj,he⟩:=qT hy;exact hno j y hj (by rw[qj hj,he])
theorem Zbe {l:List Str}{s:Str}{i:Nat}(h:l[i]?=some s)(hn:∀j,j<i->l[j]?≠some s):idxS l s=i:=by
 unfold idxS;have:l.findIdx? (fun x=>decide (x=s))=some i:=by
  rw[qaO];obtain⟨hi,he⟩:=qf.1 h;refine⟨hi,by simpa using he,fun j hj=>?_⟩;have:=hn j hj;rw[qj oz]at this;simpa using this
 rw[this]
theorem YO {l:List Str}{s:Str}(hn:∀j:Nat,j<l.length->l[j]?≠some s):idxS l s=-1:=by
 unfold idxS;have:l.findIdx? (fun x=>decide (x=s))=none:=by
  rw[List.findIdx?_eq_none_iff];intro x hx;obtain⟨j,hj,rfl⟩:=qT hx;have:=hn j hj;rw[qj hj]at this;simpa using this
 rw[this]
theorem Wf (l:List Str)(s:Str)(h:l.length<=687194767360):(K A).call 168 [AA l,strV s] []=some (intV (idxS l s),[]):=by
 refine fnO v168 ?_;unfold v168;simp(disch:=try exact zd);refine Al (fun i t=>(∀j,j<i->l[j]?≠some s)/\t=⟨[(0,AA l),(1,strV s),(5,intV i)],[]⟩) l.length ⟨by simp,by simp⟩ ?_ ?_
 .rintro i t hi ⟨hn,rfl⟩
  obtain⟨x,hx⟩:=Ab hi;unfold Ov;by_cases hxs:x=s
  .subst hxs
   have:=Zbe hx hn;simp(disch:=try exact zd) [hi,hx,this,-getElem?_pos]
  .simp (disch:=try exact zd) [hi,hx,hxs,-getElem?_pos]
   intro j hj;by_cases hji:j<i
   .exact hn j hji
   .obtain rfl:j=i:=oz
    rw[hx];simpa using hxs
 .rintro t ⟨hn,rfl⟩
  have:=YO hn;unfold Ov;simp(disch:=try exact zd) [this,-getElem?_pos]
theorem Ix (t:Ty)(l:List Ty):(Ty.mk t.kind t.name t.id t.home l).row=[.int .i64 t.kind,.str t.name,.int .i64 t.id,.int .i64 t.home,.sl (Ty.rows l)]:=by rw[Ty.row]
theorem Pi (l:List Str)(hl:l.length<=687194767360)(t:Ty):t.size<=687194767360->(K A).call 117 [tyV t,AA l] []=some (tyV (BW l t),[]):=by
 induction t using Ty.ind with
 |h t ih=>
 intro ht;have hal:=t.args_lt;refine fnO v117 ?_;unfold v117;by_cases h1:t.kind=5
 .have hx:=Wf (A:=A) l t.name hl
  have hb:=PM (A:=A) (idxS l t.name);have hm:BW l t=if idxS l t.name>=0 then .mk 2 [] (idxS l t.name) 0 [] else t:=Ty.map_some (by unfold G3;rw[if_pos h1])
  by_cases h2:idxS l t.name>=0
  .rw [if_pos h2] at hm
   simp(disch:=try exact zd) [h1,hx,h2,hb,hm]
  .rw [if_neg h2] at hm
   simp(disch:=try exact zd) [h1,hx,h2,hm]
 .have hm:BW l t=.mk t.kind t.name t.id t.home (t.args.map (BW l)):=Ty.map_none (by unfold G3;rw [if_neg h1])
  simp(disch:=try exact zd) [h1];simp(disch:=try exact zd) [Ty.row_eq t];refine Al (fun i st=>st=⟨[(1,AA l),(2,.sc (.ptr 64 0)),(4,.sc (.ptr 128 0)),(6,.sc (.ptr 1216 0)),(7,intV i)],
   [(64,some (.box [.c (.int .i64 t.kind),.c (.str t.name),.c (.int .i64 t.id),.c (.int .i64 t.home),.c (.sl (Ty.rows t.args))])),(128,some (.box [zi,zs,zi,zi,.nil])),
     (1216,some (.box [.c (.int .i64 t.kind),.c (.str t.name),.c (.int .i64 t.id),.c (.int .i64 t.home),.arr 1409 i])),(1409,some (.arr 5 (wr (Ty.rows ((t.args.map (BW l)).take i))) 0))]⟩) t.args.length sy ?_ ?_
  .rintro i st hi rfl
   obtain⟨x,hx⟩:=Ab hi;have hxs:=Ty.arg_lt (qc hx);have hc:=ih x (qc hx) oz;have hmx:(t.args.map (BW l))[i]?=some (BW l x):=(by rw[qk,hx];rfl);have hlen:((t.args.map (BW l)).take i).length=i:=(by simp;omega);unfold N6;simp(disch:=try exact zd) [hi,hx,hc,hlen,AP hmx,-getElem?_pos]
  .rintro st rfl
   have htk:(t.args.map (BW l)).take t.args.length=t.args.map (BW l):=qh sy;unfold N6;simp(disch:=try exact zd) [htk,hm,Ix]
end Go.Vs.Tryz
