/- Chapters 4 and 11, walked: children. -/
import Derived.Test.YtccmnfpbcmccpaaGreatDoorR0q
import Derived.Test.YtccmnfpbcmccpaaGreatDoorM6q
set_option linter.unusedSimpArgs false
set_option linter.unusedVariables false
set_option linter.deprecated false
set_option maxHeartbeats 2000000
set_option maxRecDepth 100000
namespace Go.Vs.Tryz
open Go Go.Vs
def skip (f:Nat):Bool:=f==11||f==25||f==81
def T2:FuncId->Option VFun:=fun f=>bif skip f then none else T f
theorem ZhL:∀f vf,T2 f=some vf->mFun Go.Proofs.Tryz.prog f vf=true:=by
 intro f vf h;unfold T2 at h;cases hs:skip f with
 |true=>rw[hs]at h;cases h
 |false=>rw[hs]at h;exact T_ok f vf h
def Kj (f:Nat):Nat:=bif f==223 then 14 else 1
theorem WL (f:Nat):0<Kj f:=by
 unfold Kj;cases f==223<;>decide
noncomputable def X1:Ag:=fun f args objs=>match objs with
 |_::_=>lim Tc (fun _ _ _=>none) gl0 f args objs
 |[]=>match args with
  |[.sc (.c (.str l))]=>bif f==284&&Nat.ble l.length 281474976710656 then some (.sc (.c (.str l)),[]) else none
  |[.sc (.c (.sl []))]=>bif f==149 then some (.sc (.full []),[]) else bif FX f then some (.sc (.arr 0 0),[.arr (Kj f) [] 0]) else none
  |_=>lim Tc (fun _ _ _=>none) gl0 f args objs
noncomputable def X2 (A:Ag):Ag:=fun f args objs=>bif skip f then A f args objs else X1 f args objs
theorem U9 {f:FuncId}{args:List V}{objs:List Obj}{rv:V}{objs':List Obj}(h:lim Tc (fun _ _ _=>none) gl0 f args objs=some (rv,objs')):FnOk Go.Proofs.Tryz.prog gl0 f args objs rv objs':=by
 obtain⟨n,h⟩:=KH h;exact P8 follows Ut Tm n h
theorem ZbX {A:Ag}(hA:∀f args objs rv objs',skip f=true->A f args objs=some (rv,objs')->FnOk Go.Proofs.Tryz.prog gl0 f args objs rv objs'):
 ∀(f:FuncId) (args:List V) (objs:List Obj) (rv:V) (objs':List Obj),X2 A f args objs=some (rv,objs')->FnOk Go.Proofs.Tryz.prog gl0 f args objs rv objs':=by
 intro f args objs rv objs' h;unfold X2 at h;cases hs:skip f with
 |true=>rw[hs]at h;exact hA _ _ _ _ _ hs h
 |false=>
  rw[hs]at h;simp only[cond_false]at h;unfold X1 at h;split at h
  .exact U9 h
  .split at h
   .rename_i l
    cases hc:(f==284&&Nat.ble l.length 281474976710656)with
    |false=>rw[hc]at h;cases h
    |true=>
     rw[hc]at h;simp only[cond_true,qd,qi]at h;simp only[qe,beq_iff_eq]at hc;obtain⟨rfl,rfl⟩:=h;obtain⟨rfl,hl⟩:=hc;exact QD (qm hl)
   .cases h140:f == 149 with
    |true=>
     rw[h140]at h;simp only[cond_true,qd,qi]at h;obtain⟨rfl,rfl⟩:=h;have:f=149:=(by simpa using h140);subst this;exact LP rfl
    |false=>
     rw[h140]at h;simp only[cond_false]at h;cases hc:FX f with
     |false=>rw[hc]at h;cases h
     |true=>
      rw[hc]at h;simp only[cond_true,qd,qi]at h;obtain⟨rfl,rfl⟩:=h;exact(LP hc).owned (WL f)
   .exact U9 h
noncomputable def K (A:Ag):Ctx:=⟨lim T2 (X2 A) gl0,gl0⟩
noncomputable def Kc:Ctx:=⟨lim Tc (fun _ _ _=>none) gl0,gl0⟩
@[simp] theorem K_gl {A:Ag}:(K A).gl=gl0:=rfl
@[simp] theorem Kc_gl:Kc.gl=gl0:=rfl
theorem K_ok {A:Ag}(hA:∀f args objs rv objs',skip f=true->A f args objs=some (rv,objs')->FnOk Go.Proofs.Tryz.prog gl0 f args objs rv objs')
 {f:FuncId}{args:List V}{objs:List Obj}{rv:V}{objs':List Obj}(h:(K A).call f args objs=some (rv,objs')):FnOk Go.Proofs.Tryz.prog gl0 f args objs rv objs':=by
 obtain⟨n,h⟩:=KH h;exact P8 follows ZhL (ZbX hA) n h
variable {A:Ag}
theorem Ah {f:FuncId}{vf:VFun}{args:List V}{objs:List Obj}{r:V×List Obj}(hT:T2 f=some vf)(hn:args.length=vf.nparams)(ho:objs.length<=64)
 (h:wp (K A) vf.body (Du vf.keep objs.length vf.results r) ⟨A8 0 args,A8 0 (objs.map some)⟩):(K A).call f args objs=some r:=Lt hT hn ho h
theorem fnO {f:FuncId}{args:List V}{objs:List Obj}{r:V×List Obj}(vf:VFun)(h:wp (K A) vf.body (Du vf.keep objs.length vf.results r) ⟨A8 0 args,A8 0 (objs.map some)⟩)(hT:T2 f=some vf:=by kernel_rfl)(hn:args.length=vf.nparams:=by rfl)(ho:objs.length<=64:=by simp):(K A).call f args objs=some r:=Ah hT hn ho h
theorem zd{p:Prop}(h:p:=by first|omega|(simp;done)|(simp;omega)):p:=h
theorem OU {f:FuncId}{vf:VFun}{args:List V}{objs:List Obj}{r:V×List Obj}(hT:Tc f=some vf)(hn:args.length=vf.nparams)(ho:objs.length<=64)
 (h:wp Kc vf.body (Du vf.keep objs.length vf.results r) ⟨A8 0 args,A8 0 (objs.map some)⟩):Kc.call f args objs=some r:=Lt hT hn ho h
theorem MA {f:FuncId}(hs:skip f=false)(hT:T2 f=none){c:List Cell}{rows:CC1}:(K A).call f [.sc (.c (.sl (c::rows)))] []=Kc.call f [.sc (.c (.sl (c::rows)))] []:=by
 have h:X2 A f [.sc (.c (.sl (c::rows)))] []=Kc.call f [.sc (.c (.sl (c::rows)))] []:=by
  unfold X2;rw[hs];rfl
 rw[<-h];cases hx:X2 A f [.sc (.c (.sl (c::rows)))] []with
 |some r=>exact H3 hT hx
 |none=>
  cases hk:(K A).call f [.sc (.c (.sl (c::rows)))] []with
  |none=>rfl
  |some r=>
   obtain⟨n,hn⟩:=KH hk;cases n with
   |zero=>cases hn
   |succ n=>
    simp only[Bk,hT]at hn;rw[hx]at hn;cases hn
theorem ZhV:(K A).call 149 [.sc (.c (.sl []))] []=some (.sc (.full []),[]):=by
 refine H3 (by kernel_rfl) ?_;simp only[X2,X1,show skip 149=false from rfl,cond_false,show(149==149)=true from rfl,cond_true]
theorem Rp {f:FuncId}(hs:skip f=false)(hT:T2 f=none)(h140:(f==149)=false)(hf:FX f=true):(K A).call f [.sc (.c (.sl []))] []=some (.sc (.arr 0 0),[.arr (Kj f) [] 0]):=by
 refine H3 hT ?_;simp only[X2,X1,hs,cond_false,h140,hf,cond_true]
theorem EW (e:Exp)(h:e.kids.length+e.arms.length<=687194767360):(K A).call 46 [.ag (wc e.row)] []=some (.sc (.arr 0 e.children.length),[.arr 11 (wr (Exp.rows e.children)) 0]):=by
 refine Ah (vf:=v46) (by kernel_rfl) rfl (by decide) ?_;unfold v46;simp(disch:=try exact zd);refine An (fun i=>⟨[(1,.sc (.ptr 64 0)),(3,.sc (.arr 320 (e.kids.length+i))),(4,.sc (.c (.int .i64 i)))],
  [(64,some (.box (wc e.row))),(320,some (.arr 11 (wr (Exp.rows (e.kids++(e.arms.map (·.2)).take i))) 0))]⟩) e.arms.length ?_ ?_ ?_
 .simp
 .intro i hi
  obtain⟨x,hx⟩:=Ab hi;have hx':(e.arms.map (·.2))[i]?=some x.2:=by simp[hx]
  unfold LN;simp(disch:=try exact zd) [hi,hx,AR hx',qaE,-getElem?_pos]
 .unfold LN
  have ht:(e.arms.map (·.2)).take e.arms.length=e.arms.map (·.2):=qh sy;simp(disch:=try exact zd) [Exp.children,ht]
variable {A:Ag}
abbrev AB (l:List Str):V:=.sc (.c (.sl (Al l)))
abbrev strV (s:Str):V:=.sc (.c (.str s))
abbrev intV (n:Int):V:=.sc (.c (.int .i64 n))
abbrev Ad (b:Bool):V:=.sc (.c (.bool b))
abbrev expV (e:Exp):V:=.ag (wc e.row)
@[simp] theorem wc_strRow (s:Str):wc (DX s)=[.c (.str s)]:=rfl
@[simp] theorem wc_intRow (n:Int):wc (Fu n)=[.c (.int .i64 n)]:=rfl
def Bb (l:List Str)(s:Str):Nat:=l.findIdx (· == s)
theorem Jj {l:List Str}{s:Str}{i:Nat}(h:i<Bb l s):∃x,l[i]?=some x/\¬x=s:=by
 have hlt:i<l.length:=qak h List.findIdx_le_length;refine⟨l[i],qj hlt,?_⟩;have:=List.not_of_lt_findIdx h;simpa using this
theorem Gh {l:List Str}{s:Str}(h:Bb l s<l.length):l[Bb l s]?=some s:=by
 have h1:=List.findIdx_getElem (w:=h);rw[qj h];exact congrArg some (beq_iff_eq.1 h1)
theorem Es {l:List Str}{s:Str}:Bb l s<l.length↔s∈l:=by
 unfold Bb;rw[List.findIdx_lt_length];simp
theorem LR (l:List Str)(s:Str):Bb l s<=l.length:=List.findIdx_le_length
theorem Gi (l:List Str)(s:Str)(h:l.length<=1649267441664):(K A).call 166 [AB l,strV s] []=some (Ad (decide (s∈l)),[]):=by
 refine Ah (vf:=v166) (by kernel_rfl) rfl (by decide) ?_;unfold v166;have hp:=LR l s;simp(disch:=try exact zd);refine An (fun i=>⟨[(0,AB l),(1,strV s),(5,intV i)],[]⟩) (Bb l s) ?_ ?_ ?_
 .simp
 .intro i hi
  obtain⟨x,hx,hne⟩:=Jj hi;have hlt:i<l.length:=oz
  unfold Nr;simp(disch:=try exact zd) [hx,hne,hlt,-getElem?_pos]
 .unfold Nr
  by_cases hm:Bb l s<l.length
  .have hx:=Gh hm
   simp(disch:=try exact zd) [hx,hm,Es.1 hm,-getElem?_pos]
  .have hn:s∉l:=fun h=>hm (Es.2 h)
   simp(disch:=try exact zd) [hm,hn,-getElem?_pos]
theorem ZeL (l:List Str)(s:Str)(h:l.length<=1649267441664):(K A).call 239 [AB l,strV s] []=some (intV (if s∈l then (Bb l s:Int) else -1),[]):=by
 refine Ah (vf:=v239) (by kernel_rfl) rfl (by decide) ?_;unfold v239;have hp:=LR l s;simp(disch:=try exact zd);refine An (fun i=>⟨[(0,AB l),(1,strV s),(7,intV l.length),(8,intV i)],[]⟩) (Bb l s) ?_ ?_ ?_
 .simp
 .intro i hi
  obtain⟨x,hx,hne⟩:=Jj hi;have hlt:i<l.length:=oz
  have hne':¬s=x:=fun h=>hne h.symm;unfold O4;simp(disch:=try exact zd) [hx,hne',hlt,-getElem?_pos]
 .unfold O4
  by_cases hm:Bb l s<l.length
  .have hx:=Gh hm
   simp(disch:=try exact zd) [hx,hm,Es.1 hm,-getElem?_pos]
  .have hn:s∉l:=fun h=>hm (Es.2 h)
   simp(disch:=try exact zd) [hm,hn]
theorem E7 (l:List Str)(s:Str)(h:l.length<=1649267441664):(K A).call 221 [AB l,strV s] []=some (Ad (decide (s∈l)),[]):=by
 refine Ah (vf:=v221) (by kernel_rfl) rfl (by decide) ?_;unfold v221;have:=ZeL (A:=A) l s h;simp[this];by_cases hn:s∈l<;>simp[hn]
theorem few8 (l:List Int):(K A).call 12 [.sc (.c (.sl (l.map Fu)))] []=some (Ad (decide (l.length<=60)),[]):=by
 refine Ah (vf:=v12) (by kernel_rfl) rfl (by decide) ?_;unfold v12;simp;omega
def Cg:List Str->List Str->Nat
 |a::l,b::m=>if a=b then Cg l m+1 else 0
 |_,_=>0
theorem Sl:∀{l m:List Str}{i:Nat},i<Cg l m->∃x,l[i]?=some x/\m[i]?=some x
 |[],_,_,h=>by simp[Cg]at h
 |_::_,[],_,h=>by simp[Cg]at h
 |a::l,b::m,i,h=>by
  simp only[Cg]at h;split at h
  .rename_i hab
   subst hab;cases i with
   |zero=>exact⟨a,rfl,rfl⟩
   |succ i=>simpa using Sl (l:=l) (m:=m) (i:=i) oz
  .omega
theorem So:∀(l m:List Str),Cg l m<=l.length
 |[],_=>by simp[Cg]
 |_::_,[]=>by simp[Cg]
 |a::l,b::m=>by
  simp only[Cg];split
  .have:=So l m
   simp only[qJ];omega
  .simp
theorem Tw:∀{l m:List Str},l.length=m.length->Cg l m<l.length->∃x y,l[Cg l m]?=some x/\m[Cg l m]?=some y/\x≠y
 |[],_,_,h=>by simp at h
 |_::_,[],h,_=>by simp at h
 |a::l,b::m,h,h2=>by
  simp only[Cg]at h2 |-;split
  .rename_i hab
   rw[if_pos hab]at h2;simpa using Tw (l:=l) (m:=m) (by simpa using h) (by simpa using h2)
  .rename_i hab
   exact⟨a,b,rfl,rfl,hab⟩
theorem Mc:∀{l m:List Str},l.length=m.length->(Cg l m=l.length↔l=m)
 |[],[],_=>by simp[Cg]
 |[],_::_,h=>by simp at h
 |_::_,[],h=>by simp at h
 |a::l,b::m,h=>by
  simp only[Cg];split
  .rename_i hab
   have:=Mc (l:=l) (m:=m) (by simpa using h);simp[hab,this]
  .rename_i hab
   simp[hab]
variable {A:Ag}
theorem ZaT {l:List Exp}(h:l≠[]):∃c rows,Exp.rows l=c::rows:=by
 cases l with
 |nil=>exact absurd rfl h
 |cons e r=>exact⟨e.row,Exp.rows r,by rw[Exp.rows]⟩
theorem VH (l:List Exp)(h:l≠[])(hl:l.length<=687194767360):(K A).call 149 [.sc (.c (.sl (Exp.rows l)))] []=some (.sc (.arr 0 l.length),[.arr 11 (wr (Exp.rows l)) 0]):=by
 obtain⟨c,rows,hr⟩:=ZaT h;have hlen:rows.length+1=l.length:=by
  have:=Exp.rows_len l;rw[hr]at this;simpa using this
 have hok:A2 11 (wr (c::rows))=true:=hr▸okRows_exp l;rw[hr,MA (by kernel_rfl) (by kernel_rfl)];refine OU (vf:=v149) (by kernel_rfl) rfl (by decide) ?_;unfold v149;rw[wr_cons]at hok;simp(disch:=try exact zd) [hok];omega
theorem DW (e:Exp)(h1:e.kids=[])(h2:e.arms=[]):(K A).call 99 [expV e] []=some (.sc (.full []),[]):=by
 refine Ah (vf:=v99) (by kernel_rfl) rfl (by decide) ?_;have hc:=ZhV (A:=A);have hn:Exp.rows []=[]:=by rw[Exp.rows]
 unfold v99;simp[h1,hn,hc];refine An (fun i=>⟨[(3,.sc (.full [])),(10,.sc (.c (.sl (Exp.armRows e.arms)))),(11,intV e.arms.length),(12,intV i)],[(64,some (.box (wc e.row)))]⟩) 0 ?_ ?_ ?_
 .simp
 .intro i hi;omega
 .unfold Ja
  simp[h2]
theorem Cn (e:Exp)(h:e.kids≠[])(hl:e.weight<=687194767360):(K A).call 99 [expV e] []=some (.sc (.arr 0 e.children.length),[.arr 11 (wr (Exp.rows e.children)) 0]):=by
 refine Ah (vf:=v99) (by kernel_rfl) rfl (by decide) ?_;have hk:=e.children_le;rw[e.children_len]at hk;have hc:=VH (A:=A) e.kids h oz;unfold v99;simp[hc];refine An (fun i=>⟨[(3,.sc (.arr 352 (e.kids.length+i))),(10,.sc (.c (.sl (Exp.armRows e.arms)))),(11,intV e.arms.length),(12,intV i)],
  [(64,some (.box (wc e.row))),(352,some (.arr 11 (wr (Exp.rows (e.kids++(e.arms.map (·.2)).take i))) 0))]⟩) e.arms.length ?_ ?_ ?_
 .simp
 .intro i hi
  obtain⟨x,hx⟩:=Ab hi;have hx':(e.arms.map (·.2))[i]?=some x.2:=by simp[hx]
  unfold Ja;simp(disch:=try exact zd) [hi,hx,AR hx',qaE,-getElem?_pos]
 .unfold Ja
  have ht:(e.arms.map (·.2)).take e.arms.length=e.arms.map (·.2):=qh sy;simp(disch:=try exact zd) [Exp.children,ht]
abbrev E8 (i:Int):V:=.sc (.c (.sl [[.int .i64 i]]))
theorem at89 (e x:Exp)(i:Nat)(h:e.kids≠[])(hx:e.children[i]?=some x)(hl:e.weight<=687194767360):(K A).call 237 [expV e,E8 i] []=some (.tu [expV x,Ad true],[]):=by
 refine Ah (vf:=v237) (by kernel_rfl) rfl (by decide) ?_;have hk:=e.children_le;have hi:i<e.children.length:=(qf.1 hx).1;have hi':¬(e.kids.length:Int)+e.arms.length<=i:=by rw[e.children_len]at hi;omega
 have hi2:¬(i:Int)<0:=oz
 have hc:=Cn (A:=A) e h hl;rw[e.children_len]at hk hi;unfold v237;simp;refine An (fun j=>match j with
  |0=>⟨[(2,.sc (.ptr 64 0)),(4,.sc (.ptr 128 0)),(9,E8 i),(10,intV 1),(11,intV 0)],[(64,some (.box (wc e.row))),(128,some (.box [zi,zi,zs,zi,.nil,.nil,zi,zs,zi,zi,.nil]))]⟩
  |_=>⟨[(2,.sc (.ptr 64 0)),(4,.sc (.ptr 128 0)),(9,E8 i),(10,intV 1),(11,intV 1)],[(64,some (.box (wc x.row))),(128,some (.box [zi,zi,zs,zi,.nil,.nil,zi,zs,zi,zi,.nil]))]⟩) 1 ?_ ?_ ?_
 .simp
 .intro j hj
  obtain rfl:j=0:=oz
  unfold LZ;simp(disch:=try exact zd) [hc,hi',hi2,hx,-getElem?_pos,qP]
 .unfold LZ
  simp(disch:=try exact zd)
theorem ZdD (e:Exp)(i:Nat)(h:e.wf1)(hi:i<e.children.length)(hl:e.weight<=687194767360):(K A).call 255 [expV e,intV i] []=some (AB (e.bound i),[]):=by
 refine Ah (vf:=v255) (by kernel_rfl) rfl (by decide) ?_;have hk:=e.children_le;have hn:Al []=[]:=rfl;have h1:∀s:Str,Al [s]=[[.str s]]:=fun _=>rfl;rw[e.children_len]at hk hi;unfold v255;by_cases h4:e.kind=4
 .simp[h4,Exp.bound,h1]
 .by_cases h7:e.kind=7
  .simp[h7,Exp.bound,h1]
  .by_cases h6:e.kind=6
   .by_cases hi1:i=1
    .simp[h6,hi1,Exp.bound,h1]
    .have hi1':¬(i:Int)=1:=oz
     simp[h6,hi1,hi1',Exp.bound,hn]
   .by_cases h8:e.kind=8
    .have hk1:=h.1 h8
     by_cases hi1:0<i
     .obtain ⟨x,hx⟩:=Ab (l:=e.arms) (i:=i-1) oz
      have hi2:(1:Int)<=i:=oz;have hw:IntKind.i64.wrap ((i:Int)-1)=((i-1:Nat):Int):=(by rw[FW _ oz];omega);simp(disch:=try exact zd) [h8,hi1,hi2,hk1,hw,hx,Exp.bound,-getElem?_pos]
     .have hi2:¬(1:Int)<=i:=oz
      simp[h8,hi1,hi2,hk1,Exp.bound,hn]
    .simp[h4,h7,h6,h8,Exp.bound,hn]
theorem Xl (s:Str):(K A).call 147 [.sc (.c (.sl [])),.sc (.clo 257 [true] [[.ptr 0 0]])] [.box [.c (.str s)]]=some (intV (-1),[.box [.c (.str s)]]):=by
 refine fnO v147 ?_;unfold v147;simp;refine An (fun i=>⟨[(0,.sc (.c (.sl []))),(1,.sc (.clo 257 [true] [[.ptr 0 0]])),(7,intV 0),(8,intV i)],[(0,some (.box [.c (.str s)]))]⟩) 0 ?_ ?_ ?_
 .simp
 .intro i hi;omega
 .unfold Ki
  simp
theorem Zdg (s:Str):(K A).call 256 [.sc (.arr 0 0),.sc (.clo 257 [true] [[.ptr 1 0]])] [.arr 1 [] 0,.box [.c (.str s)]]=some (.sc (.arr 0 0),[.arr 1 [] 0,.box [.c (.str s)]]):=by
 refine fnO v256 ?_;have h:=Xl (A:=A) s;unfold v256;simp[h]
theorem Zbq (e:Exp)(i:Nat)(h:e.wf1)(hi:i<e.children.length)(hl:e.weight<=687194767360):(K A).call 109 [expV e,intV i] []=some (AB (e.bound i),[]):=by
 refine Ah (vf:=v109) (by kernel_rfl) rfl (by decide) ?_;have hk:=e.children_le;have hn:Al []=[]:=rfl;have h1:∀s:Str,Al [s]=[[.str s]]:=fun _=>rfl;rw[e.children_len]at hk hi;unfold v109;by_cases h4:e.kind=4
 .simp[h4,Exp.bound,h1]
 .by_cases h7:e.kind=7
  .simp[h7,Exp.bound,h1]
  .by_cases h6:e.kind=6
   .by_cases hi1:i=1
    .simp[h6,hi1,Exp.bound,h1]
    .have hi1':¬(i:Int)=1:=oz
     simp[h6,hi1,hi1',Exp.bound,hn]
   .by_cases h8:e.kind=8
    .have hk1:=h.1 h8
     by_cases hi1:0<i
     .obtain ⟨x,hx⟩:=Ab (l:=e.arms) (i:=i-1) oz
      have hi2:(0:Int)<i:=oz;have hw:IntKind.i64.wrap ((i:Int)-1)=((i-1:Nat):Int):=(by rw[FW _ oz];omega);simp(disch:=try exact zd) [h8,hi1,hi2,hk1,hw,hx,Exp.bound]
     .have hi2:¬(0:Int)<i:=oz
      simp[h8,hi1,hi2,hk1,Exp.bound,hn]
    .simp[h4,h7,h6,h8,Exp.bound,hn]
variable {A:Ag}
theorem ZaI {e:Exp}{i:Nat}(h:¬(e.kind=8/\0<i)):e.bound i=[]\/∃s,e.bound i=[s]:=by
 unfold Exp.bound;rw[if_neg h];split
 .exact .inr ⟨_,rfl⟩
 .exact .inl rfl
theorem Su {e:Exp}{i:Nat}(h:e.wf1)(hi:i<e.children.length):e.kids≠[]:=by
 intro hk;rw[e.children_len,hk]at hi;by_cases h8:e.kind=8
 .have:=h.1 h8
  rw[hk]at this;simp at this
 .rw [h.2.1 h8] at hi
  simp at hi
theorem WZ (e x:Exp)(i:Nat)(h:e.wf1)(hb:¬(e.kind=8/\0<i))(hx:e.children[i]?=some x)(hl:e.weight<=687194767360):(K A).call 238 [expV e,E8 i] []=some (AB (e.bound i),[]):=by
 refine Ah (vf:=v238) (by kernel_rfl) rfl (by decide) ?_;have hi:i<e.children.length:=(qf.1 hx).1;have hk:=Su h hi;have h51:=Cn (A:=A) e hk hl;have h89:=at89 (A:=A) e x i hk hx hl;have h135:=ZdD (A:=A) e i h hi hl;have hn:Al []=[]:=rfl;rw[e.children_len]at hi;have hle:=e.children_le;rw[e.children_len]at hle;unfold v238;simp(disch:=try exact zd) [h89];refine An (fun j=>match j with
  |0=>⟨[(2,.sc (.ptr 64 0)),(7,.sc (.arr 961 0)),(20,E8 i),(21,intV 1),(22,intV 0)],[(64,some (.box (wc e.row))),(961,some (.arr 1 [] 0))]⟩
  |_=>⟨[(2,.sc (.ptr 64 0)),(7,.sc (.arr 961 (e.bound i).length)),(20,E8 i),(21,intV 1),(22,intV 1)],[(64,some (.box (wc x.row))),(961,some (.arr 1 (wr (Al (e.bound i))) 0))]⟩) 1 ?_ ?_ ?_
 .simp
 .intro j hj
  obtain rfl:j=0:=oz
  unfold NW;simp(disch:=try exact zd) [h135,-getElem?_pos,qP];rcases ZaI hb with h0|⟨s,h0⟩
  .rw [h0]
   refine An (fun j=>⟨[(2,.sc (.ptr 64 0)),(7,.sc (.arr 961 0)),(20,E8 i),(21,intV 1),(22,intV 0),(9,intV i),(28,AB []),(29,intV 0),(30,intV j)],[(64,some (.box (wc e.row))),(961,some (.arr 1 [] 0))]⟩) 0 ?_ ?_ ?_
   .simp
   .intro j hj;omega
   .unfold HF
    simp(disch:=try exact zd) [h51,hx,hn,-getElem?_pos]
  .rw [h0]
   have h1:Al [s]=[[.str s]]:=rfl;have h136:=Zdg (A:=A) s;refine An (fun j=>match j with
    |0=>⟨[(2,.sc (.ptr 64 0)),(7,.sc (.arr 961 0)),(20,E8 i),(21,intV 1),(22,intV 0),(9,intV i),(28,AB [s]),(29,intV 1),(30,intV 0)],[(64,some (.box (wc e.row))),(961,some (.arr 1 [] 0))]⟩
    |_=>⟨[(2,.sc (.ptr 64 0)),(7,.sc (.arr 961 1)),(20,E8 i),(21,intV 1),(22,intV 0),(9,intV i),(28,AB [s]),(29,intV 1),(30,intV 1)],[(64,some (.box (wc e.row))),(961,some (.arr 1 (wr (Al [s])) 0))]⟩) 1 ?_ ?_ ?_
   .simp
   .intro j hj
    obtain rfl:j=0:=oz;unfold HF;simp(disch:=try exact zd) [h136,h1,-getElem?_pos,qP]
   .unfold HF
    simp(disch:=try exact zd) [h51,hx,-getElem?_pos]
 .unfold NW
  simp(disch:=try exact zd)
theorem HX (e:Exp)(i:Nat)(h:e.wf1)(hi:i<e.children.length)(hl:e.weight<=687194767360):(K A).call 220 [expV e,intV i] []=some (AB (e.bound i),[]):=by
 refine Ah (vf:=v220) (by kernel_rfl) rfl (by decide) ?_;obtain⟨x,hx⟩:=Ab hi;have hk:=Su h hi;have h89:=at89 (A:=A) e x i hk hx hl;rw[e.children_len]at hi;have hle:=e.children_le;rw[e.children_len]at hle;unfold v220;by_cases hb:e.kind=8/\0<i
 .have hk1:=h.1 hb.1
  obtain⟨y,hy⟩:=Ab (l:=e.arms) (i:=i-1) oz;have hi2:(1:Int)<=i:=oz
  have hw:IntKind.i64.wrap ((i:Int)-1)=((i-1:Nat):Int):=by rw[FW _ oz];omega
  simp(disch:=try exact zd) [h89,hb,hi2,hk1,hw,hy,Exp.bound,-getElem?_pos]
 .have h90:=WZ (A:=A) e x i h hb hx hl
  by_cases h8:e.kind=8
  .have hk1:=h.1 h8
   have hi2:¬(1:Int)<=i:=oz;simp(disch:=try exact zd) [h89,h8,hi2,hk1,h90]
  .simp(disch:=try exact zd) [h89,h8,h90]
variable {A:Ag}
def Bf (hidden out:List Str)(s:Str):List Str:=if s∈hidden\/s∈out then out else out++[s]
def EH (e:Exp)(out:List Str)(p:List Str×Nat):List Str:=p.1.foldl (Bf (e.bound p.2)) out
def Ac (e:Exp):List Str:=e.fold fun e l=>if e.kind=1 then [e.name] else l.zipIdx.foldl (EH e) []
theorem Ef (e:Exp):Ac e=if e.kind=1 then [e.name] else (e.children.map Ac).zipIdx.foldl (EH e) []:=Exp.fold_eq _ e
theorem WS (h out:List Str)(s:Str):(Bf h out s).length<=out.length+1:=by
 unfold Bf;split<;>simp
theorem Ow (h:List Str):∀(l out:List Str),(l.foldl (Bf h) out).length<=out.length+l.length
 |[],out=>by simp
 |s::l,out=>by
  have h1:=WS h out s;have h2:=Ow h l (Bf h out s);simp only[qaD,qJ];omega
theorem Np (e:Exp):∀(l:List (List Str×Nat))(out:List Str),(l.foldl (EH e) out).length<=out.length+(l.map fun p=>p.1.length).sum
 |[],out=>by simp
 |p::l,out=>by
  have h1:(EH e out p).length<=out.length+p.1.length:=Ow _ _ _;have h2:=Np e l (EH e out p);simp only[qaD,qu,qT];omega
theorem DT {l:List Nat}{i:Nat}:(l.take i).sum<=l.sum:=by
 have:l.sum=(l.take i).sum+(l.drop i).sum:=by rw[<-qaF,qa7]
 omega
theorem RE (l:List (List Str)):(l.zipIdx.map fun p=>p.1.length)=l.map List.length:=by
 rw[show(fun p:List Str×Nat=>p.1.length)=List.length∘Prod.fst from rfl,<-qat,List.zipIdx_map_fst]
theorem Gb {α:Type}{f g:α->Nat}:∀{l:List α},(∀x∈l,f x<=g x)->(l.map f).sum<=(l.map g).sum
 |[],_=>by simp
 |a::l,h=>by
  have h1:=h a sy;have h2:=Gb (l:=l) fun x hx=>h x (by simp[hx]);simp only[qu,qT];omega
theorem DZ (e:Exp):(Ac e).length<=e.weight:=by
 induction e using Exp.ind with
 |h e ih=>
  rw[Ef];split
  .exact e.weight_pos
  .have h1:=Np e (e.children.map Ac).zipIdx []
   rw[RE,qat]at h1;have h2:(e.children.map (List.length∘Ac)).sum<=(e.children.map Exp.weight).sum:=Gb ih;rw[e.weight_eq];simp only[qZ]at h1;omega
def outP (e:Exp)(i:Nat):List Str:=((e.children.map Ac).zipIdx.take i).foldl (EH e) []
theorem Yq (e:Exp)(i:Nat):(outP e i).length<=e.weight:=by
 have h1:=Np e ((e.children.map Ac).zipIdx.take i) [];have h2:(((e.children.map Ac).zipIdx.take i).map fun p=>p.1.length).sum<=(e.children.map Exp.weight).sum:=by
  rw[qaC,RE,qat];exact qr DT (Gb fun x _=>DZ x)
 unfold outP;rw[e.weight_eq];simp only[qZ]at h1;omega
theorem Nk {e x:Exp}{i:Nat}(hx:e.children[i]?=some x):outP e (i+1)=(Ac x).foldl (Bf (e.bound i)) (outP e i):=by
 have h:(e.children.map Ac).zipIdx[i]?=some (Ac x,i):=by simp[qan,hx]
 unfold outP;rw[AR h,qaY];rfl
theorem Pn (e:Exp):outP e e.children.length=(e.children.map Ac).zipIdx.foldl (EH e) []:=by
 unfold outP;rw[qh sy]
theorem UF (e:Exp)(hw:e.wf)(hl:e.weight<=687194767360):(K A).call 201 [expV e] []=some (AB (Ac e),[]):=by
 induction e using Exp.ind with
 |h e ih=>
 refine Ah (vf:=v201) (by kernel_rfl) rfl (by decide) ?_;have hle:=e.children_le;rw[e.children_len]at hle;have h1:∀s:Str,Al [s]=[[.str s]]:=fun _=>rfl;have hn:Al []=[]:=rfl;by_cases hk:e.kind=1
 .unfold v201
  simp[hk,Ef,h1]
 .by_cases hkids:e.kids=[]
  .have harms:e.arms=[]:=by
    by_cases h8:e.kind=8
    .have:=hw.one.1 h8
     rw[hkids]at this;simp at this
    .exact hw.one.2.1 h8
   have hc:=DW (A:=A) e hkids harms;have hch:e.children=[]:=(by simp[Exp.children,hkids,harms]);unfold v201;simp(disch:=try exact zd) [hk,hc];refine An (fun i=>⟨[(1,.sc (.ptr 64 0)),(3,.sc (.arr 641 0)),(16,.sc (.full [])),(17,intV 0),(18,intV i)],[(64,some (.box (wc e.row))),(641,some (.arr 1 [] 0))]⟩) 0 ?_ ?_ ?_
   .simp
   .intro i hi;omega
   .unfold JJ
    simp[Ef,hk,hch,hn]
  .have hc:=Cn (A:=A) e hkids hl
   unfold v201;simp(disch:=try exact zd) [hk,hc];refine An (fun i=>⟨[(1,.sc (.ptr 64 0)),(3,.sc (.arr 641 (outP e i).length)),(16,.sc (.arr 800 e.children.length)),(17,intV e.children.length),(18,intV i)],[(64,some (.box (wc e.row))),(641,some (.arr 1 (wr (Al (outP e i))) 0)),(800,some (.arr 11 (wr (Exp.rows e.children)) 0))]⟩) e.children.length ?_ ?_ ?_
   .simp[outP,hn]
   .intro i hi
    obtain⟨x,hx⟩:=Ab hi;have hmem:x∈e.children:=qc hx;have h19:=ih x hmem (hw.child hmem) (by have:=Exp.child_lt hmem;omega);have h52:=HX (A:=A) e i hw.one hi hl;have hfl:=DZ x;have hol:=Yq e i;have hbl:=e.bound_le i;have hxl:=Exp.child_lt hmem;rw[e.children_len]at hi;have hi':(i:Int)<(e.kids.length:Int)+e.arms.length:=oz;unfold JJ;simp(disch:=try exact zd) [hi',hx,h52,h19,-getElem?_pos]
    refine An (fun j=>⟨[(1,.sc (.ptr 64 0)),(3,.sc (.arr 641 (((Ac x).take j).foldl (Bf (e.bound i)) (outP e i)).length)),(16,.sc (.arr 800 e.children.length)),(17,intV e.children.length),(18,intV i),(6,AB (e.bound i)),(27,AB (Ac x)),(28,intV (Ac x).length),(29,intV j)],
     [(64,some (.box (wc e.row))),(641,some (.arr 1 (wr (Al (((Ac x).take j).foldl (Bf (e.bound i)) (outP e i)))) 0)),(800,some (.arr 11 (wr (Exp.rows e.children)) 0)),(1216,some (.box (wc x.row)))]⟩) (Ac x).length ?_ ?_ ?_
    .simp
    .intro j hj
     obtain⟨s,hs⟩:=Ab hj;rw[AR hs,qaY,qaD,List.foldl_nil];have hjl:=Ow (e.bound i) ((Ac x).take j) (outP e i);have hjl2:((Ac x).take j).length<=(Ac x).length:=(by simp;omega);generalize ((Ac x).take j).foldl (Bf (e.bound i)) (outP e i)=out at hjl |-;have hc1:=E7 (A:=A) (e.bound i) s oz;have hc2:=E7 (A:=A) out s oz;unfold Kk;by_cases hb:s∈e.bound i
     .simp(disch:=try exact zd) [hj,hs,hc1,hb,Bf,-getElem?_pos]
     .by_cases ho:s∈out
      .simp(disch:=try exact zd) [hj,hs,hc1,hc2,hb,ho,Bf,-getElem?_pos]
      .simp(disch:=try exact zd) [hj,hs,hc1,hc2,hb,ho,Bf,-getElem?_pos]
    .unfold Kk
     simp(disch:=try exact zd) [Nk hx,-getElem?_pos]
   .unfold JJ
    have he:=Pn e;rw[e.children_len]at he;simp(disch:=try exact zd) [Ef,hk,he]
variable {A:Ag}
def C7 (e:Exp)(bound out:List Str):List Str:=if e.kind=1/\e.name∉bound/\e.name∉out then out++[e.name] else out
def KD (e:Exp)(bound:List Str)(out:List Str)(p:(List Str->List Str->List Str)×Nat):List Str:=p.1 (bound++e.bound p.2) out
def Co (e:Exp):List Str->List Str->List Str:=e.fold fun e l bound out=>l.zipIdx.foldl (KD e bound) (C7 e bound out)
theorem VA (e:Exp)(bound out:List Str):Co e bound out=(e.children.map Co).zipIdx.foldl (KD e bound) (C7 e bound out):=by
 unfold Co;rw[Exp.fold_eq]
def outR (e:Exp)(bound out:List Str)(i:Nat):List Str:=((e.children.map Co).zipIdx.take i).foldl (KD e bound) (C7 e bound out)
theorem JA {e x:Exp}{bound out:List Str}{i:Nat}(hx:e.children[i]?=some x):outR e bound out (i+1)=Co x (bound++e.bound i) (outR e bound out i):=by
 have h:(e.children.map Co).zipIdx[i]?=some (Co x,i):=by simp[qan,hx]
 unfold outR;rw[AR h,qaY];rfl
theorem MG (e:Exp)(bound out:List Str):outR e bound out e.children.length=Co e bound out:=by
 rw[VA];unfold outR;rw[qh sy]
theorem Pu (e:Exp)(bound out:List Str):(C7 e bound out).length<=out.length+1:=by
 unfold C7;split<;>simp
theorem UB {e:Exp}{i:Nat}:((e.children.take i).map Exp.weight).sum<=(e.children.map Exp.weight).sum:=by
 rw[qaC];exact DT
theorem WX (e:Exp):∀bound out:List Str,(Co e bound out).length<=out.length+e.weight:=by
 induction e using Exp.ind with
 |h e ih=>
  intro bound out;have key:∀i,i<=e.children.length->(outR e bound out i).length<=out.length+1+((e.children.take i).map Exp.weight).sum:=by
   intro i
   induction i with
   |zero=>
    intro _;have:=Pu e bound out;simpa[outR]using this
   |succ i ihi=>
    intro hi;obtain⟨x,hx⟩:=Ab (l:=e.children) (i:=i) oz;have h1:=ih x (qc hx) (bound++e.bound i) (outR e bound out i);have h2:=ihi oz;rw[JA hx,AR hx,qai,qaF];simp only[qu,qX,qT,qaJ];omega
  have h1:=key _ (qg _);rw[MG,qaN]at h1;rw[e.weight_eq];omega
theorem Zj (e:Exp):∀bound out:List Str,out.length<=(Co e bound out).length:=by
 induction e using Exp.ind with
 |h e ih=>
  intro bound out;have key:∀i,i<=e.children.length->out.length<=(outR e bound out i).length:=by
   intro i
   induction i with
   |zero=>
    intro _;simp only[outR,List.take_zero,List.foldl_nil,C7];split<;>simp
   |succ i ihi=>
    intro hi;obtain⟨x,hx⟩:=Ab (l:=e.children) (i:=i) oz;rw[JA hx];exact qr (ihi oz) (ih x (qc hx) _ _)
  have:=key _ (qg _);rwa[MG]at this
theorem Zgx {e:Exp}{bound out:List Str}:∀i,i<=e.children.length->(outR e bound out i).length<=out.length+1+((e.children.take i).map Exp.weight).sum:=by
 intro i
 induction i with
 |zero=>
  intro _;have:=Pu e bound out;simpa[outR]using this
 |succ i ihi=>
  intro hi;obtain⟨x,hx⟩:=Ab (l:=e.children) (i:=i) oz;have h1:=WX x (bound++e.bound i) (outR e bound out i);have h2:=ihi oz;rw[JA hx,AR hx,qai,qaF];simp only[qu,qX,qT,qaJ];omega
theorem ZfK {e x:Exp}{bound out:List Str}{i:Nat}(hx:e.children[i]?=some x):(outR e bound out i).length+x.weight<=out.length+e.weight:=by
 have hi:i<e.children.length:=(qf.1 hx).1;have h1:=Zgx (e:=e) (bound:=bound) (out:=out) i oz;have h2:=UB (e:=e) (i:=i+1);rw[AR hx,qai,qaF]at h2;simp only[qu,qX,qT,qaJ]at h2;rw[e.weight_eq];omega
theorem ZY {e x:Exp}{i:Nat}(hx:e.children[i]?=some x):(e.bound i).length+x.weight<=e.weight:=by
 have h1:=I4 (f:=Exp.weight) (qc hx);have h2:(e.bound i).length<=1+(e.arms.map fun a=>a.1.vars.length).sum:=by
  unfold Exp.bound;split
  .simp
  .split
   .cases h:e.arms[i-1]? with
    |none=>simp
    |some a=>
     have:=I4 (f:=fun a:ArmH×Exp=>a.1.vars.length) (qc h);simp only[qv,Option.getD_some];omega
   .simp
 rw[e.weight_eq];omega
theorem Zax (e:Exp):∀(bound out:List Str),e.wf->bound.length+e.weight<=687194767360->out.length+e.weight<=687194767360->
 (K A).call 111 [.sc (.arr 0 out.length),AB bound,expV e] [.arr 1 (wr (Al out)) 0]=some (.sc (.arr 0 (Co e bound out).length),[.arr 1 (wr (Al (Co e bound out))) 0]):=by
 induction e using Exp.ind with
 |h e ih=>
 intro bound out hw hbl hol;refine fnO v111 ?_;have hle:=e.children_le;have hc:=EW (A:=A) e (by rw[e.children_len]at hle;omega);have hb1:=Gi (A:=A) bound e.name oz;have hb2:=Gi (A:=A) out e.name oz;have hsl:=Pu e bound out;have hwp:=e.weight_pos;unfold v111
 refine D4 ⟨[(0,.sc (.arr 0 out.length)),(1,AB bound),(5,.sc (.ptr 64 0))],[(0,some (.arr 1 (wr (Al out)) 0)),(64,some (.box (wc e.row)))]⟩ sy ?_
 refine Ta ⟨[(0,.sc (.arr 0 (C7 e bound out).length)),(1,AB bound),(5,.sc (.ptr 64 0)),(7,.sc (.arr 1760 e.children.length))],[(0,some (.arr 1 (wr (Al (C7 e bound out))) 0)),(64,some (.box (wc e.row))),(1760,some (.arr 11 (wr (Exp.rows e.children)) 0))]⟩ ?_ ?_
 .by_cases hk:e.kind=1
  .by_cases h1:e.name∈bound
   .simp(disch:=try exact zd) [hk,h1,hb1,C7,hc]
   .by_cases h2:e.name∈out
    .simp(disch:=try exact zd) [hk,h1,h2,hb1,hb2,C7,hc]
    .simp(disch:=try exact zd) [hk,h1,h2,hb1,hb2,C7,hc]
  .simp(disch:=try exact zd) [hk,C7,hc]
 .simp (disch:=try exact zd)
  refine An (fun i=>⟨[(0,.sc (.arr 0 (outR e bound out i).length)),(1,AB bound),(5,.sc (.ptr 64 0)),(7,.sc (.arr 1760 e.children.length)),(8,intV i)],[(0,some (.arr 1 (wr (Al (outR e bound out i))) 0)),(64,some (.box (wc e.row))),(1760,some (.arr 11 (wr (Exp.rows e.children)) 0))]⟩) e.children.length ?_ ?_ ?_
  .simp[outR]
  .intro i hi
   obtain⟨x,hx⟩:=Ab hi;have hmem:x∈e.children:=qc hx;have ho:=ZfK (bound:=bound) (out:=out) hx;have hb:=ZY hx;have hxp:=x.weight_pos;have h54:=ih x hmem (bound++e.bound i) (outR e bound out i) (hw.child hmem) (by simp;omega) oz;have h91:=Zbq (A:=A) e i hw.one hi oz;rw[e.children_len]at hi hle;have hi':(i:Int)<(e.kids.length:Int)+e.arms.length:=oz
   have hlen:(outR e bound out i).length<=(Co x (bound++e.bound i) (outR e bound out i)).length:=Zj x _ _;unfold N8;simp(disch:=try exact zd) [hi',hx,h54,h91,JA hx,hlen,-getElem?_pos]
  .have he:=MG e bound out
   rw[e.children_len]at he;unfold N8;simp(disch:=try exact zd) [he]
theorem II (e:Exp)(hw:e.wf)(hl:e.weight<=687194767360):(K A).call 58 [expV e] []=some (.sc (.arr 0 (Co e [] []).length),[.arr 1 (wr (Al (Co e [] []))) 0]):=by
 refine fnO v58 ?_;have h:=Zax (A:=A) e [] [] hw (by simpa using hl) (by simpa using hl);have hn:Al []=[]:=rfl;simp[AB,hn]at h;unfold v58;simp[h,hn]
theorem Zd5 {b out:List Str}{s t:Str}:t∈Bf b out s↔t∈out\/(t=s/\s∉b):=by
 grind[Bf]
theorem Lu {b:List Str}:∀{l out:List Str}{t:Str},t∈l.foldl (Bf b) out↔t∈out\/(t∈l/\t∉b)
 |[],out,t=>by simp
 |s::l,out,t=>by
  rw[qaD,Lu,Zd5,qF];grind
theorem ZdA {b out:List Str}{s:Str}(h:s∈b\/s∈out):Bf b out s=out:=if_pos h
theorem ZcY {b out:List Str}{s:Str}(h:¬(s∈b\/s∈out)):Bf b out s=out++[s]:=if_neg h
theorem Uu {bound b:List Str}:∀(l acc out:List Str),(l.foldl (Bf b) acc).foldl (Bf bound) out=l.foldl (Bf (bound++b)) (acc.foldl (Bf bound) out)
 |[],acc,out=>rfl
 |s::l,acc,out=>by
  rw[qaD,qaD,Uu l];grind[Lu,Bf]
theorem Zer (e:Exp):e.wf->∀bound out:List Str,Co e bound out=(Ac e).foldl (Bf bound) out:=by
 induction e using Exp.ind with
 |h e ih=>
  intro hw bound out;rw[VA,Ef];by_cases hk:e.kind=1
  .have hch:e.children=[]:=by
    have h1:=hw.one.2.2 hk;have h2:=hw.one.2.1 oz;grind[Exp.children]
   grind[List.zipIdx_nil,C7,ZdA,ZcY]
  .rw [if_neg hk]
   have hs:C7 e bound out=out:=by
    grind[C7]
   rw[hs];have key:∀(l:List Exp) (i:Nat) (acc:List Str),(∀x∈l,x∈e.children)->((l.map Co).zipIdx i).foldl (KD e bound) (acc.foldl (Bf bound) out)=(((l.map Ac).zipIdx i).foldl (EH e) acc).foldl (Bf bound) out:=by
    intro l
    induction l with
    |nil=>simp
    |cons x l ihl=>
     intro i acc hmem;rw[qu,qu,qaX,qaX,qaD,qaD,<-ihl (i+1) _ fun y hy=>hmem y (List.mem_cons_of_mem _ hy)];congr 1;have hx:=hmem x sy;show Co x (bound++e.bound i) _=((Ac x).foldl (Bf (e.bound i)) acc).foldl (Bf bound) out;rw[ih x hx (hw.child hx),Uu]
   grind
theorem Zep {b out:List Str}{s:Str}(h:out.Nodup):(Bf b out s).Nodup:=by
 grind[Bf]
theorem To {b:List Str}:∀{l out:List Str},out.Nodup->(l.foldl (Bf b) out).Nodup
 |[],_,h=>h
 |_::l,_,h=>To (l:=l) (Zep h)
theorem T6 {e:Exp}:∀{l:List (List Str×Nat)}{out:List Str},out.Nodup->(l.foldl (EH e) out).Nodup
 |[],_,h=>h
 |_::l,_,h=>T6 (l:=l) (To h)
theorem Zd0 (e:Exp):(Ac e).Nodup:=by
 grind[Ef,T6]
theorem Rq:∀{l out:List Str},(out++l).Nodup->l.foldl (Bf []) out=out++l
 |[],out,_=>by simp
 |s::l,out,h=>by
  have hs:s∉out:=by
   grind
  have he:Bf [] out s=out++[s]:=by
   grind[Bf]
  rw[qaD,he,Rq (by grind)];simp
theorem HC (e:Exp)(hw:e.wf):Co e [] []=Ac e:=by
 grind[Zer,Rq,Zd0]
variable {A:Ag}
theorem AC {f:FuncId}{vf:VFun}{args:List V}{objs:List Obj}(P:V×List Obj->Prop)(hT:T2 f=some vf)(hn:args.length=vf.nparams)(ho:objs.length<=64)
 (h:wp (K A) vf.body (B3 vf.keep objs.length vf.results P) ⟨A8 0 args,A8 0 (objs.map some)⟩):∃r,P r/\(K A).call f args objs=some r:=Zbv P hT hn ho h
theorem fnE {f:FuncId}{args:List V}{objs:List Obj}{P:V×List Obj->Prop}(vf:VFun)(h:wp (K A) vf.body (B3 vf.keep objs.length vf.results P) ⟨A8 0 args,A8 0 (objs.map some)⟩)(hT:T2 f=some vf:=by kernel_rfl)(hn:args.length=vf.nparams:=by rfl)(ho:objs.length<=64:=by simp):∃r,P r/\(K A).call f args objs=some r:=AC P hT hn ho h
def Bn (l:List Int):CC1:=l.map Fu
@[simp] theorem intRows_len (l:List Int):(Bn l).length=l.length:=by simp[Bn]
@[simp] theorem intRows_get (l:List Int) (i:Nat):(Bn l)[i]?=(l[i]?).map Fu:=by simp[Bn]
@[simp] theorem cut_i (n:Int):cut (Fu n) 0 1=some [.int .i64 n]:=rfl
abbrev Ap (L:List Int)(I:Nat):Obj:=.box [.c (.sl (Bn L)),.c (.int .i64 I)]
abbrev Ax (ds:List DataD):V:=.sc (.c (.sl (AO ds)))
abbrev tyV (t:Ty):V:=.ag (wc t.row)
theorem NM (a m:Int)(hm:0<m)(hb:m<=687194767360):∃k:Nat,(k:Int)<m/\(K A).call 30 [intV a,intV m] []=some (intV k,[]):=by
 have h1:¬m<1:=oz
 have h0:m≠0:=oz
 have hlt:a.tmod m<m:=Int.tmod_lt_of_pos a oz;have hgt:-m<a.tmod m:=Int.lt_tmod_of_pos a oz;by_cases hneg:a.tmod m<0
 .refine ⟨(a.tmod m+m).toNat,oz,?_⟩
  have hw:((a.tmod m+m).toNat:Int)=a.tmod m+m:=oz
  rw[hw];refine Ah (vf:=v30) (by rfl) rfl sy ?_;unfold v30;simp(disch:=try exact zd) [h1,h0,hneg]
 .refine ⟨(a.tmod m).toNat,oz,?_⟩
  have hw:((a.tmod m).toNat:Int)=a.tmod m:=oz
  rw[hw];refine Ah (vf:=v30) (by rfl) rfl sy ?_;unfold v30;simp(disch:=try exact zd) [h1,h0,hneg]
theorem BF (L:List Int)(I:Nat)(n:Int)(hI:I<=L.length)(hL:L.length<=687194767360)(hn:0<n)(hb:n<=687194767360):
 ∃k J:Nat,(k:Int)<n/\J<=L.length/\(K A).call 62 [.sc (.ptr 0 0),intV n] [Ap L I]=some (intV k,[Ap L J]):=by
 by_cases h:I<L.length
 .obtain ⟨a,ha⟩:=Ab h
  obtain⟨k,hk,hc⟩:=NM (A:=A) a n hn hb;refine⟨k,I+1,hk,h,?_⟩;refine Ah (vf:=v62) (by rfl) rfl sy ?_;have h1:¬L.length<=I:=oz
  unfold v62;simp(disch:=try exact zd) [h1,ha,hc,-getElem?_pos]
 .refine ⟨0,I,hn,hI,?_⟩
  refine Ah (vf:=v62) (by rfl) rfl sy ?_;have h1:L.length<=I:=oz
  unfold v62;simp_all
def Cf:List Str:=[[120],[121],[122],[102],[103],[118,49],[118,50],[105,100]]
theorem SU (L:List Int)(I:Nat)(hI:I<=L.length)(hL:L.length<=687194767360):
 ∃s J,s∈Cf/\J<=L.length/\(K A).call 82 [.sc (.ptr 0 0)] [Ap L I]=some (strV s,[Ap L J]):=by
 obtain⟨k,J,hk,hJ,hc⟩:=BF (A:=A) L I 8 hI hL oz oz;obtain⟨s,hs⟩:=Ab (l:=Cf) (i:=k) (by grind[Cf,qJ]);refine⟨s,J,qc hs,hJ,?_⟩;refine Ah (vf:=v82) (by rfl) rfl sy ?_;have hr:(wr (Al Cf))[k]?=some [.c (.str s)]:=by simp[hs]
 have hw:wr (Al Cf)=[[.c (.str [120])],[.c (.str [121])],[.c (.str [122])],[.c (.str [102])],[.c (.str [103])],[.c (.str [118,49])],[.c (.str [118,50])],[.c (.str [105,100])]]:=rfl;rw[hw]at hr;unfold v82;simp(disch:=try exact zd) [hc,hr,-getElem?_pos]
theorem G7 (s:Str)(l:List Ty)(hl:l.length<=687194767360):(K A).call 90 [strV s,.sc (.c (.sl (Ty.rows l)))] []=some (tyV (.mk 4 s 0 0 l),[]):=by
 refine Ah (vf:=v90) (by rfl) rfl sy ?_;unfold v90;cases l with
 |nil=>
  have hn:Ty.rows []=[]:=by rfl
  simp(disch:=try exact zd) [hn,Ty.row]
 |cons t l=>
  have hn:Ty.rows (t::l)=t.row::Ty.rows l:=by rfl
  have hok:=okRows_ty (t::l);rw[hn,wr_cons]at hok;simp only[qJ]at hl;simp(disch:=try exact zd) [hn,hok,Ty.row]
theorem Fb:(K A).call 69 [] []=some (tyV (.mk 4 [73,110,116] 0 0 []),[]):=by
 refine Ah (vf:=v69) (by rfl) rfl sy ?_;have hn:Ty.rows []=[]:=by rfl
 have h:=G7 (A:=A) [73,110,116] [] sy;simp[hn]at h;unfold v69;simp_all
theorem I0 (a b:Ty):(K A).call 85 [tyV a,tyV b] []=some (tyV (.mk 4 [45,62] 0 0 [a,b]),[]):=by
 refine Ah (vf:=v85) (by rfl) rfl sy ?_;have hn:Ty.rows [a,b]=[a.row,b.row]:=by rfl
 have h:=G7 (A:=A) [45,62] [a,b] sy;rw[hn]at h;unfold v85;simp_all
def G0 (d:DataD):Prop:=d.params.length<=4/\1<=d.cons.length/\d.cons.length<=6/\∀c∈d.cons,c.fields.length<=4
def Ga (ds:List DataD):Prop:=ds.length<=100/\∀d∈ds,G0 d
def Zig (L:List Int)(r:V×List Obj):Prop:=∃t J,J<=L.length/\r=(tyV t,[Ap L J])
def ZiG (L:List Int)(ds:List DataD)(dd:DataD)(d i:Nat)(s:St):Prop:=∃tys J,tys.length=i/\J<=L.length/\
 s=⟨[(0,.sc (.ptr 0 0)),(1,Ax ds),(2,.sc (.c (.sl []))),(3,intV (d+1)),(8,.sc (.ptr 64 0)),(10,.sc (.ptr 3392 0)),(11,.sc (.arr 3521 i)),(12,intV i)],
  [(0,some (Ap L J)),(64,some (.box [zi,zs,zi,zi,.nil])),(3392,some (.box (wc (A3 dd)))),(3521,some (.arr 5 (wr (Ty.rows tys)) 0))]⟩
variable {A:Ag}
def tz:Ty:=.mk 0 [] 0 0 []
@[simp] theorem strRows0:Al []=[]:=rfl
@[simp] theorem rows0:Exp.rows []=[]:=by rfl
@[simp] theorem rows1 (x:Exp):Exp.rows [x]=[x.row]:=by rfl
@[simp] theorem rows2 (x y:Exp):Exp.rows [x,y]=[x.row,y.row]:=by rfl
@[simp] theorem armRows0:Exp.armRows []=[]:=by rfl
@[simp] theorem tyRows0:Ty.rows []=[]:=by rfl
def RawP (L:List Int)(B:Nat)(r:V×List Obj):Prop:=∃e J,e.wf/\e.weight<=B/\J<=L.length/\r=(expV e,[Ap L J])
theorem Gu (k p n m ks l t):(Exp.mk k p n m ks l t).weight=1+(l.map fun a=>a.1.vars.length).sum+((ks.map Exp.weight).sum+(l.map fun a=>a.2.weight).sum):=by
 grind[Exp.weight_eq,Exp.children,Exp.arms,Exp.kids,Function.comp_def]
def ArmI (L:List Int)(ds:List DataD)(dd:DataD)(x:Exp)(B d i:Nat)(s:St):Prop:=∃arms J,arms.length=i/\J<=L.length/\(∀a∈arms,a.2.wf/\a.2.weight<=B/\a.1.vars.length<=4)/\
 s=⟨[(0,.sc (.ptr 0 0)),(1,Ax ds),(2,intV (d+1)),(6,.sc (.ptr 64 0)),(13,.sc (.ptr 10176 0)),(14,.sc (.ptr 10752 0)),(15,intV i)],
  [(0,some (Ap L J)),(64,some (.box [zi,zi,zs,zi,.nil,.nil,zi,zs,zi,zi,.nil])),(10176,some (.box (wc (A3 dd)))),(10624,some (.arr 11 [wc x.row] 0)),
    (10752,some (.box [.c (.int .i64 8),zi,zs,zi,.arr 10624 1,.arr 10822 i,zi,zs,zi,zi,.nil])),(10822,some (.arr 14 (wr (Exp.armRows arms)) 0))]⟩
def VarI (L:List Int)(ds:List DataD)(dd:DataD)(x:Exp)(arms:List (ArmH×Exp))(con:Str)(d i j:Nat)(s:St):Prop:=∃vars J,vars.length=j/\J<=L.length/\
 s=⟨[(0,.sc (.ptr 0 0)),(1,Ax ds),(2,intV (d+1)),(6,.sc (.ptr 64 0)),(13,.sc (.ptr 10176 0)),(14,.sc (.ptr 10752 0)),(15,intV i),(16,.sc (.ptr 11712 0)),(17,intV j)],
  [(0,some (Ap L J)),(64,some (.box [zi,zi,zs,zi,.nil,.nil,zi,zs,zi,zi,.nil])),(10176,some (.box (wc (A3 dd)))),(10624,some (.arr 11 [wc x.row] 0)),
    (10752,some (.box [.c (.int .i64 8),zi,zs,zi,.arr 10624 1,.arr 10822 i,zi,zs,zi,zi,.nil])),(10822,some (.arr 14 (wr (Exp.armRows arms)) 0)),
    (11712,some (.box [zi,.c (.str con),.arr 11779 j,zi,zi,zs,zi,.nil,.nil,zi,zs,zi,zi,.nil])),(11779,some (.arr 1 (wr (Al vars)) 0))]⟩
variable {A:Ag}
def VR (ds7:List DataD)(r:V×List Obj):Prop:=∃ds,(∀d∈ds,d∈ds7)/\Ga ds/\r=(Ax ds,[])
def Ss (bits:Int)(ds7:List DataD)(i:Nat)(s:St):Prop:=∃ds:List DataD,ds.length<=i+1/\(∀d∈ds,d∈ds7/\G0 d)/\
 s=⟨[(0,intV bits),(3,Ax ds7),(4,.sc (.arr 257 ds.length)),(5,intV i)],[(257,some (.arr 4 (wr (AO ds)) 0))]⟩
@[simp] theorem dataRows0:AO []=[]:=rfl
@[simp] theorem dataRows1 (d:DataD):wr (AO [d])=[wc (A3 d)]:=rfl
theorem Zdm (bits:Int)(ds7:List DataD)(h7:ds7.length=7)(hg:∀d∈ds7,G0 d)(h55:(K A).call 81 [] []=some (Ax ds7,[])):
 ∃r,VR ds7 r/\(K A).call 42 [intV bits] []=some r:=by
 refine fnE v42 ?_;obtain⟨d1,hd1⟩:=Ab (l:=ds7) (i:=1) oz;have hgd1:=hg d1 (qc hd1);have fin:∀s,Ss bits ds7 0 s->wp (K A) (.loop Jo) (BI 0 (BM (K A) (.seq (.region [] [o 44 (.mv (tv 4)),o 2 (.mv (tv 44))] [] [2]) .ret) (B3 false 0 [.tmp 2] (VR ds7)))) s:=by
  intro s hs;refine Am (Ss bits ds7) 7 hs ?_ ?_
  .rintro i s hi ⟨ds,hds1,hds2,rfl⟩
   obtain⟨d,hd⟩:=Ab (l:=ds7) (i:=i) oz;have hgd:=hg d (qc hd);have hi2:(i:Int)<7:=oz;unfold Jo;by_cases hi1:i=1
   .subst hi1
    simp(disch:=try exact zd) [h7,hd,-getElem?_pos];exact⟨ds,oz,hds2,by simp⟩
   .have hi1':¬(i:Int)=1:=oz
    by_cases hb:andI .i64 (shrI .i64 bits i) 1=1
    .simp (disch:=try exact zd) [h7,hd,hi2,hi1',hb,-getElem?_pos]
     refine⟨ds++[d],by simp;omega,?_,by simp⟩;intro x hx;rcases qp.1 hx with hx|hx
     .exact hds2 x hx
     .simp only [qo] at hx
      exact hx▸⟨qc hd,hgd⟩
    .simp (disch:=try exact zd) [h7,hd,hi2,hi1',hb,-getElem?_pos]
     exact⟨ds,oz,hds2,by simp⟩
  .rintro s ⟨ds,hds1,hds2,rfl⟩
   unfold Jo;simp(disch:=try exact zd) [h7];exact⟨ds,fun d hd=>(hds2 d hd).1,⟨oz,fun d hd=>(hds2 d hd).2⟩,rfl⟩
 unfold v42;by_cases h1:andI .i64 bits 2=0
 .by_cases h2:andI .i64 bits 64=0
  .simp (disch:=try exact zd) [h55,h1,h2,-getElem?_pos]
   exact fin _ ⟨[],by simp,by simp,by simp⟩
  .simp (disch:=try exact zd) [h55,h1,h2,h7,hd1,-getElem?_pos]
   exact fin _ ⟨[d1],by simp,by simp[hgd1,qc hd1],by simp⟩
 .simp (disch:=try exact zd) [h55,h1,h7,hd1,-getElem?_pos]
  exact fin _ ⟨[d1],by simp,by simp[hgd1,qc hd1],by simp⟩
def Zix (L:List Int)(r:V×List Obj):Prop:=∃a b J,a.wf/\a.weight<=32 ^ 4/\b.wf/\b.weight<=32 ^ 3/\J<=L.length/\r=(.tu [expV a,expV b,.sc (.ptr 0 0)],[Ap L J])
def Zio (r:V×List Obj):Prop:=∃b,r=(Ad b,[])
end Go.Vs.Tryz
namespace Go.Vs
open Go
mutual
def Cell.eqb:Cell->Cell->Bool
 |.int k n,.int k' n'=>decide (k=k')&&decide (n=n')
 |.bool b,.bool b'=>b==b'
 |.str s,.str s'=>s==s'
 |.sl rows,.sl rows'=>Cell.eqRows rows rows'
 |.nilfn,.nilfn=>true
 |.nilptr,.nilptr=>true
 |.nilif,.nilif=>true
 |_,_=>false
def Cell.eqRows:CC1->CC1->Bool
 |[],[]=>true
 |r::rs,r'::rs'=>Cell.eqList r r'&&Cell.eqRows rs rs'
 |_,_=>false
def Cell.eqList:List Cell->List Cell->Bool
 |[],[]=>true
 |c::cs,c'::cs'=>Cell.eqb c c'&&Cell.eqList cs cs'
 |_,_=>false
end
mutual
theorem Cell.eqb_eq:∀(a b:Cell),Cell.eqb a b=true->a=b
 |.int k n,b,h=>by cases b<;>simp_all[Cell.eqb]
 |.bool _,b,h=>by cases b<;>simp_all[Cell.eqb]
 |.str _,b,h=>by cases b<;>simp_all[Cell.eqb]
 |.sl rows,b,h=>by
  cases b with
  |sl rows'=>rw[Cell.eqRows_eq rows rows' (by simpa[Cell.eqb]using h)]
  |_=>simp[Cell.eqb]at h
 |.fn ..,b,h=>by cases b<;>simp[Cell.eqb]at h
 |.nilfn,b,h=>by cases b<;>simp_all[Cell.eqb]
 |.nilptr,b,h=>by cases b<;>simp_all[Cell.eqb]
 |.nilif,b,h=>by cases b<;>simp_all[Cell.eqb]
 |.ifc ..,b,h=>by cases b<;>simp[Cell.eqb]at h
 |.ro ..,b,h=>by cases b<;>simp[Cell.eqb]at h
theorem Cell.eqRows_eq:∀(a b:CC1),Cell.eqRows a b=true->a=b
 |[],b,h=>by cases b<;>simp_all[Cell.eqRows]
 |r::rs,b,h=>by
  cases b with
  |nil=>simp[Cell.eqRows]at h
  |cons r' rs'=>
   simp only[Cell.eqRows,qe]at h;rw[Cell.eqList_eq r r' h.1,Cell.eqRows_eq rs rs' h.2]
theorem Cell.eqList_eq:∀(a b:List Cell),Cell.eqList a b=true->a=b
 |[],b,h=>by cases b<;>simp_all[Cell.eqList]
 |c::cs,b,h=>by
  cases b with
  |nil=>simp[Cell.eqList]at h
  |cons c' cs'=>
   simp only[Cell.eqList,qe]at h;rw[Cell.eqb_eq c c' h.1,Cell.eqList_eq cs cs' h.2]
end
def W.eqb:W->W->Bool
 |.c a,.c b=>a.eqb b
 |.nil,.nil=>true
 |_,_=>false
theorem W.eqb_eq {a b:W}(h:a.eqb b=true):a=b:=by
 cases a<;>cases b<;>first | rfl | (simp[W.eqb]at h;done) | exact congrArg W.c (Cell.eqb_eq _ _ (by simpa[W.eqb]using h))
def eqWs:List W->List W->Bool
 |[],[]=>true
 |c::cs,c'::cs'=>c.eqb c'&&eqWs cs cs'
 |_,_=>false
theorem Ud:∀{a b:List W},eqWs a b=true->a=b
 |[],b,h=>by cases b<;>simp_all[eqWs]
 |c::cs,b,h=>by
  cases b with
  |nil=>simp[eqWs]at h
  |cons c' cs'=>
   simp only[eqWs,qe]at h;rw[W.eqb_eq h.1,Ud h.2]
def V.eqb:V->V->Bool
 |.sc a,.sc b=>a.eqb b
 |.ag a,.ag b=>eqWs a b
 |_,_=>false
theorem V.eqb_eq {a b:V}(h:a.eqb b=true):a=b:=by
 cases a<;>cases b<;>first | (simp[V.eqb]at h;done) | exact congrArg V.sc (W.eqb_eq (by simpa[V.eqb]using h)) | exact congrArg V.ag (Ud (by simpa[V.eqb]using h))
def eqVs:List V->List V->Bool
 |[],[]=>true
 |c::cs,c'::cs'=>c.eqb c'&&eqVs cs cs'
 |_,_=>false
theorem UN:∀{a b:List V},eqVs a b=true->a=b
 |[],b,h=>by cases b<;>simp_all[eqVs]
 |c::cs,b,h=>by
  cases b with
  |nil=>simp[eqVs]at h
  |cons c' cs'=>
   simp only[eqVs,qe]at h;rw[V.eqb_eq h.1,UN h.2]
abbrev JK:=List (Nat×List V×V)
def I7:JK->Nat->List V->Option (V×List Obj)
 |[],_,_=>none
 |(g,k,v)::r,f,l=>bif f==g&&eqVs l k then some (v,[]) else I7 r f l
theorem Tf:∀{m:JK}{f:Nat}{l:List V}{q:V×List Obj},I7 m f l=some q->q.2=[]/\(f,l,q.1)∈m
 |[],_,_,_,h=>by cases h
 |(g,k,v)::r,f,l,q,h=>by
  simp only[I7]at h;cases hk:(f==g&&eqVs l k)with
  |true=>
   rw[hk]at h;simp only[cond_true,qd]at h;simp only[qe,beq_iff_eq]at hk;obtain⟨rfl,hk⟩:=hk;have:=UN hk;subst this;subst h;exact⟨rfl,by simp⟩
  |false=>
   rw[hk]at h;obtain⟨h1,h2⟩:=Tf h;exact⟨h1,List.mem_cons_of_mem _ h2⟩
theorem Zeh {P:Program}{gl:Nat->List Cell}{T:FuncId->Option VFun}(hP:P.follows .mixedOrders=true)(hT:∀f vf,T f=some vf->mFun P f vf=true){m:JK}(hm:∀p∈m,FnOk P gl p.1 p.2.1 [] p.2.2 []){f:FuncId}{n:Nat}{args:List V}{objs:List Obj}{rv:V}{objs':List Obj}
 (h:DD (fun g=>bif g==f then T g else none) (fun g args objs=>match objs with | []=>I7 m g args | _=>none) gl n f args objs=some (rv,objs')):FnOk P gl f args objs rv objs':=by
 refine N3 hP (fun g vf hg=>?_) (fun g args objs rv objs' hx=>?_) n h
 .cases hgf:(g == f) with
  |true=>rw[hgf]at hg;exact hT g vf hg
  |false=>rw[hgf]at hg;cases hg
 .cases objs with
  |cons _ _=>cases hx
  |nil=>
   obtain⟨h1,h2⟩:=Tf hx;simp only at h1 h2;subst h1;exact hm _ h2
end Go.Vs
namespace Go.Vs.Tryz
open Go Go.Vs
theorem KE {n:Nat}{f:FuncId}{args:List V}{res:V}(h:(ev n f args []).map (B5 false)=some (res,[])):FnOk Go.Proofs.Tryz.prog gl0 f args [] res []:=by
 obtain⟨y,h1,h2⟩:=qt.1 h;have:=(Ur (rv:=y.1) (objs':=y.2) h1).norm false;rw[show B5 false (y.1,y.2)=(res,[])from h2]at this;exact this
def rlP:V:=(.ag [(.c (.sl [])),(.c (.sl [[(.int .i64 0),(.bool true),(.str [102]),(.bool false),(.int .i64 0),(.str []),(.int .i64 0),(.int .i64 0),(.sl []),(.int .i64 4),(.int .i64 12),(.str [120]),(.int .i64 0),(.sl [[(.int .i64 5),(.int .i64 16),(.str []),(.int .i64 0),(.sl [[(.int .i64 1),(.int .i64 16),(.str [102]),(.int .i64 0),(.sl []),(.sl []),(.int .i64 0),(.str []),(.int .i64 0),(.int .i64 0),(.sl [])],[(.int .i64 1),(.int .i64 18),(.str [120]),(.int .i64 0),(.sl []),(.sl []),(.int .i64 0),(.str []),(.int .i64 0),(.int .i64 0),(.sl [])]]),(.sl []),(.int .i64 0),(.str []),(.int .i64 0),(.int .i64 0),(.sl [])]]),(.sl []),(.int .i64 0),(.str []),(.int .i64 0),(.int .i64 0),(.sl [])],[(.int .i64 21),(.bool false),(.str [110]),(.bool false),(.int .i64 0),(.str []),(.int .i64 0),(.int .i64 0),(.sl []),(.int .i64 5),(.int .i64 29),(.str []),(.int .i64 0),(.sl [[(.int .i64 1),(.int .i64 29),(.str [102]),(.int .i64 0),(.sl []),(.sl []),(.int .i64 0),(.str []),(.int .i64 0),(.int .i64 0),(.sl [])],[(.int .i64 3),(.int .i64 31),(.str []),(.int .i64 1),(.sl []),(.sl []),(.int .i64 0),(.str []),(.int .i64 0),(.int .i64 0),(.sl [])]]),(.sl []),(.int .i64 0),(.str []),(.int .i64 0),(.int .i64 0),(.sl [])]]))])
def rlE0:V:=(.ag [(.c (.int .i64 7)),(.c (.int .i64 0)),(.c (.str [102])),(.c (.int .i64 0)),(.c (.sl [[(.int .i64 4),(.int .i64 0),(.str [120]),(.int .i64 0),(.sl [[(.int .i64 5),(.int .i64 0),(.str []),(.int .i64 0),(.sl [[(.int .i64 1),(.int .i64 0),(.str [102]),(.int .i64 0),(.sl []),(.sl []),(.int .i64 0),(.str []),(.int .i64 0),(.int .i64 0),(.sl [])],[(.int .i64 1),(.int .i64 0),(.str [120]),(.int .i64 0),(.sl []),(.sl []),(.int .i64 0),(.str []),(.int .i64 0),(.int .i64 0),(.sl [])]]),(.sl []),(.int .i64 0),(.str []),(.int .i64 0),(.int .i64 0),(.sl [])]]),(.sl []),(.int .i64 0),(.str []),(.int .i64 0),(.int .i64 0),(.sl [])],[(.int .i64 6),(.int .i64 0),(.str [110]),(.int .i64 0),(.sl [[(.int .i64 5),(.int .i64 0),(.str []),(.int .i64 0),(.sl [[(.int .i64 1),(.int .i64 0),(.str [102]),(.int .i64 0),(.sl []),(.sl []),(.int .i64 0),(.str []),(.int .i64 0),(.int .i64 0),(.sl [])],[(.int .i64 3),(.int .i64 0),(.str []),(.int .i64 1),(.sl []),(.sl []),(.int .i64 0),(.str []),(.int .i64 0),(.int .i64 0),(.sl [])]]),(.sl []),(.int .i64 0),(.str []),(.int .i64 0),(.int .i64 0),(.sl [])],[(.int .i64 1),(.int .i64 0),(.str [110]),(.int .i64 0),(.sl []),(.sl []),(.int .i64 0),(.str []),(.int .i64 0),(.int .i64 0),(.sl [])]]),(.sl []),(.int .i64 0),(.str []),(.int .i64 0),(.int .i64 0),(.sl [])]])),(.c (.sl [])),(.c (.int .i64 0)),(.c (.str [])),(.c (.int .i64 0)),(.c (.int .i64 0)),(.c (.sl []))])
def rlE1:V:=(.ag [(.c (.int .i64 6)),(.c (.int .i64 0)),(.c (.str [110])),(.c (.int .i64 0)),(.c (.sl [[(.int .i64 5),(.int .i64 0),(.str []),(.int .i64 0),(.sl [[(.int .i64 7),(.int .i64 0),(.str [102]),(.int .i64 0),(.sl [[(.int .i64 4),(.int .i64 0),(.str [120]),(.int .i64 0),(.sl [[(.int .i64 5),(.int .i64 0),(.str []),(.int .i64 0),(.sl [[(.int .i64 1),(.int .i64 0),(.str [102]),(.int .i64 0),(.sl []),(.sl []),(.int .i64 0),(.str []),(.int .i64 0),(.int .i64 0),(.sl [])],[(.int .i64 1),(.int .i64 0),(.str [120]),(.int .i64 0),(.sl []),(.sl []),(.int .i64 0),(.str []),(.int .i64 0),(.int .i64 0),(.sl [])]]),(.sl []),(.int .i64 0),(.str []),(.int .i64 0),(.int .i64 0),(.sl [])]]),(.sl []),(.int .i64 0),(.str []),(.int .i64 0),(.int .i64 0),(.sl [])],[(.int .i64 4),(.int .i64 0),(.str [120]),(.int .i64 0),(.sl [[(.int .i64 5),(.int .i64 0),(.str []),(.int .i64 0),(.sl [[(.int .i64 1),(.int .i64 0),(.str [102]),(.int .i64 0),(.sl []),(.sl []),(.int .i64 0),(.str []),(.int .i64 0),(.int .i64 0),(.sl [])],[(.int .i64 1),(.int .i64 0),(.str [120]),(.int .i64 0),(.sl []),(.sl []),(.int .i64 0),(.str []),(.int .i64 0),(.int .i64 0),(.sl [])]]),(.sl []),(.int .i64 0),(.str []),(.int .i64 0),(.int .i64 0),(.sl [])]]),(.sl []),(.int .i64 0),(.str []),(.int .i64 0),(.int .i64 0),(.sl [])]]),(.sl []),(.int .i64 0),(.str []),(.int .i64 0),(.int .i64 0),(.sl [])],[(.int .i64 3),(.int .i64 0),(.str []),(.int .i64 1),(.sl []),(.sl []),(.int .i64 0),(.str []),(.int .i64 0),(.int .i64 0),(.sl [])]]),(.sl []),(.int .i64 0),(.str []),(.int .i64 0),(.int .i64 0),(.sl [])],[(.int .i64 1),(.int .i64 0),(.str [110]),(.int .i64 0),(.sl []),(.sl []),(.int .i64 0),(.str []),(.int .i64 0),(.int .i64 0),(.sl [])]])),(.c (.sl [])),(.c (.int .i64 0)),(.c (.str [])),(.c (.int .i64 0)),(.c (.int .i64 0)),(.c (.sl []))])
def rlE2:V:=(.ag [(.c (.int .i64 5)),(.c (.int .i64 0)),(.c (.str [])),(.c (.int .i64 0)),(.c (.sl [[(.int .i64 7),(.int .i64 0),(.str [102]),(.int .i64 0),(.sl [[(.int .i64 4),(.int .i64 0),(.str [120]),(.int .i64 0),(.sl [[(.int .i64 5),(.int .i64 0),(.str []),(.int .i64 0),(.sl [[(.int .i64 1),(.int .i64 0),(.str [102]),(.int .i64 0),(.sl []),(.sl []),(.int .i64 0),(.str []),(.int .i64 0),(.int .i64 0),(.sl [])],[(.int .i64 1),(.int .i64 0),(.str [120]),(.int .i64 0),(.sl []),(.sl []),(.int .i64 0),(.str []),(.int .i64 0),(.int .i64 0),(.sl [])]]),(.sl []),(.int .i64 0),(.str []),(.int .i64 0),(.int .i64 0),(.sl [])]]),(.sl []),(.int .i64 0),(.str []),(.int .i64 0),(.int .i64 0),(.sl [])],[(.int .i64 4),(.int .i64 0),(.str [120]),(.int .i64 0),(.sl [[(.int .i64 5),(.int .i64 0),(.str []),(.int .i64 0),(.sl [[(.int .i64 1),(.int .i64 0),(.str [102]),(.int .i64 0),(.sl []),(.sl []),(.int .i64 0),(.str []),(.int .i64 0),(.int .i64 0),(.sl [])],[(.int .i64 1),(.int .i64 0),(.str [120]),(.int .i64 0),(.sl []),(.sl []),(.int .i64 0),(.str []),(.int .i64 0),(.int .i64 0),(.sl [])]]),(.sl []),(.int .i64 0),(.str []),(.int .i64 0),(.int .i64 0),(.sl [])]]),(.sl []),(.int .i64 0),(.str []),(.int .i64 0),(.int .i64 0),(.sl [])]]),(.sl []),(.int .i64 0),(.str []),(.int .i64 0),(.int .i64 0),(.sl [])],[(.int .i64 3),(.int .i64 0),(.str []),(.int .i64 1),(.sl []),(.sl []),(.int .i64 0),(.str []),(.int .i64 0),(.int .i64 0),(.sl [])]])),(.c (.sl [])),(.c (.int .i64 0)),(.c (.str [])),(.c (.int .i64 0)),(.c (.int .i64 0)),(.c (.sl []))])
def rlE3:V:=(.ag [(.c (.int .i64 5)),(.c (.int .i64 0)),(.c (.str [])),(.c (.int .i64 0)),(.c (.sl [[(.int .i64 4),(.int .i64 0),(.str [120]),(.int .i64 0),(.sl [[(.int .i64 5),(.int .i64 0),(.str []),(.int .i64 0),(.sl [[(.int .i64 7),(.int .i64 0),(.str [102]),(.int .i64 0),(.sl [[(.int .i64 4),(.int .i64 0),(.str [120]),(.int .i64 0),(.sl [[(.int .i64 5),(.int .i64 0),(.str []),(.int .i64 0),(.sl [[(.int .i64 1),(.int .i64 0),(.str [102]),(.int .i64 0),(.sl []),(.sl []),(.int .i64 0),(.str []),(.int .i64 0),(.int .i64 0),(.sl [])],[(.int .i64 1),(.int .i64 0),(.str [120]),(.int .i64 0),(.sl []),(.sl []),(.int .i64 0),(.str []),(.int .i64 0),(.int .i64 0),(.sl [])]]),(.sl []),(.int .i64 0),(.str []),(.int .i64 0),(.int .i64 0),(.sl [])]]),(.sl []),(.int .i64 0),(.str []),(.int .i64 0),(.int .i64 0),(.sl [])],[(.int .i64 4),(.int .i64 0),(.str [120]),(.int .i64 0),(.sl [[(.int .i64 5),(.int .i64 0),(.str []),(.int .i64 0),(.sl [[(.int .i64 1),(.int .i64 0),(.str [102]),(.int .i64 0),(.sl []),(.sl []),(.int .i64 0),(.str []),(.int .i64 0),(.int .i64 0),(.sl [])],[(.int .i64 1),(.int .i64 0),(.str [120]),(.int .i64 0),(.sl []),(.sl []),(.int .i64 0),(.str []),(.int .i64 0),(.int .i64 0),(.sl [])]]),(.sl []),(.int .i64 0),(.str []),(.int .i64 0),(.int .i64 0),(.sl [])]]),(.sl []),(.int .i64 0),(.str []),(.int .i64 0),(.int .i64 0),(.sl [])]]),(.sl []),(.int .i64 0),(.str []),(.int .i64 0),(.int .i64 0),(.sl [])],[(.int .i64 1),(.int .i64 0),(.str [120]),(.int .i64 0),(.sl []),(.sl []),(.int .i64 0),(.str []),(.int .i64 0),(.int .i64 0),(.sl [])]]),(.sl []),(.int .i64 0),(.str []),(.int .i64 0),(.int .i64 0),(.sl [])]]),(.sl []),(.int .i64 0),(.str []),(.int .i64 0),(.int .i64 0),(.sl [])],[(.int .i64 3),(.int .i64 0),(.str []),(.int .i64 1),(.sl []),(.sl []),(.int .i64 0),(.str []),(.int .i64 0),(.int .i64 0),(.sl [])]])),(.c (.sl [])),(.c (.int .i64 0)),(.c (.str [])),(.c (.int .i64 0)),(.c (.int .i64 0)),(.c (.sl []))])
def Rv:List V:=[(.sc (.c (.str [108,101,116,32,105,100,32,61,32,92,120,46,32,120,59,32,108,101,116,32,110,32,61,32,105,100,32,49,59])))]
def Ru:V:=(.ag [(.c (.sl [])),(.c (.sl [[(.int .i64 0),(.bool false),(.str [105,100]),(.bool false),(.int .i64 0),(.str []),(.int .i64 0),(.int .i64 0),(.sl []),(.int .i64 4),(.int .i64 9),(.str [120]),(.int .i64 0),(.sl [[(.int .i64 1),(.int .i64 13),(.str [120]),(.int .i64 0),(.sl []),(.sl []),(.int .i64 0),(.str []),(.int .i64 0),(.int .i64 0),(.sl [])]]),(.sl []),(.int .i64 0),(.str []),(.int .i64 0),(.int .i64 0),(.sl [])],[(.int .i64 16),(.bool false),(.str [110]),(.bool false),(.int .i64 0),(.str []),(.int .i64 0),(.int .i64 0),(.sl []),(.int .i64 5),(.int .i64 24),(.str []),(.int .i64 0),(.sl [[(.int .i64 1),(.int .i64 24),(.str [105,100]),(.int .i64 0),(.sl []),(.sl []),(.int .i64 0),(.str []),(.int .i64 0),(.int .i64 0),(.sl [])],[(.int .i64 3),(.int .i64 27),(.str []),(.int .i64 1),(.sl []),(.sl []),(.int .i64 0),(.str []),(.int .i64 0),(.int .i64 0),(.sl [])]]),(.sl []),(.int .i64 0),(.str []),(.int .i64 0),(.int .i64 0),(.sl [])]]))])
theorem Zck:(ev 60 34 Rv []).map (B5 false)=some (Ru,[]):=by kernel_rfl
def U6:List V:=[(.ag [(.c (.sl [])),(.c (.sl [[(.int .i64 0),(.bool false),(.str [105,100]),(.bool false),(.int .i64 0),(.str []),(.int .i64 0),(.int .i64 0),(.sl []),(.int .i64 4),(.int .i64 9),(.str [120]),(.int .i64 0),(.sl [[(.int .i64 1),(.int .i64 13),(.str [120]),(.int .i64 0),(.sl []),(.sl []),(.int .i64 0),(.str []),(.int .i64 0),(.int .i64 0),(.sl [])]]),(.sl []),(.int .i64 0),(.str []),(.int .i64 0),(.int .i64 0),(.sl [])],[(.int .i64 16),(.bool false),(.str [110]),(.bool false),(.int .i64 0),(.str []),(.int .i64 0),(.int .i64 0),(.sl []),(.int .i64 5),(.int .i64 24),(.str []),(.int .i64 0),(.sl [[(.int .i64 1),(.int .i64 24),(.str [105,100]),(.int .i64 0),(.sl []),(.sl []),(.int .i64 0),(.str []),(.int .i64 0),(.int .i64 0),(.sl [])],[(.int .i64 3),(.int .i64 27),(.str []),(.int .i64 1),(.sl []),(.sl []),(.int .i64 0),(.str []),(.int .i64 0),(.int .i64 0),(.sl [])]]),(.sl []),(.int .i64 0),(.str []),(.int .i64 0),(.int .i64 0),(.sl [])]]))]),(.sc (.c (.int .i64 20)))]
def Wf:V:=(.tu [(.ag [(.c (.int .i64 3)),(.c (.int .i64 0)),(.c (.str [])),(.c (.int .i64 1)),(.c (.sl [])),(.c (.sl [])),(.c (.int .i64 0)),(.c (.str [])),(.c (.int .i64 0)),(.c (.int .i64 0)),(.c (.sl []))]),(.sc (.c (.int .i64 3))),(.sc (.c (.bool true)))])
theorem Z0:(ev 60 31 U6 []).map (B5 false)=some (Wf,[]):=by kernel_rfl
def RA:List V:=[(.ag [(.c (.int .i64 3)),(.c (.int .i64 0)),(.c (.str [])),(.c (.int .i64 1)),(.c (.sl [])),(.c (.sl [])),(.c (.int .i64 0)),(.c (.str [])),(.c (.int .i64 0)),(.c (.int .i64 0)),(.c (.sl []))]),(.ag [(.c (.int .i64 3)),(.c (.int .i64 0)),(.c (.str [])),(.c (.int .i64 1)),(.c (.sl [])),(.c (.sl [])),(.c (.int .i64 0)),(.c (.str [])),(.c (.int .i64 0)),(.c (.int .i64 0)),(.c (.sl []))])]
def Te:V:=(.sc (.c (.bool true)))
theorem Zhl:(ev 60 18 RA []).map (B5 false)=some (Te,[]):=by kernel_rfl
def Tb:List V:=[(.ag [(.c (.sl [])),(.c (.sl []))])]
def TY:V:=(.ag [(.c (.int .i64 3)),(.c (.int .i64 0)),(.c (.str [])),(.c (.int .i64 0)),(.c (.sl [])),(.c (.sl [])),(.c (.int .i64 0)),(.c (.str [])),(.c (.int .i64 0)),(.c (.int .i64 0)),(.c (.sl []))])
theorem ZhA:(ev 60 27 Tb []).map (B5 false)=some (TY,[]):=by kernel_rfl
def VC:JK:=[(34,Rv,Ru),(31,U6,Wf),(18,RA,Te),(27,Tb,TY)]
theorem ZaN:∀p∈VC,FnOk Go.Proofs.Tryz.prog gl0 p.1 p.2.1 [] p.2.2 []:=by
 intro p hp;simp only[VC,qF,qae,or_false]at hp;rcases hp with rfl|rfl|rfl|rfl
 .exact KE Zck
 .exact KE Z0
 .exact KE Zhl
 .exact KE ZhA
theorem ZeS:FnOk Go.Proofs.Tryz.prog gl0 25 [] [] (.sc (.c (.bool true))) []:=
 Zeh (n:=2) follows T_ok ZaN (by kernel_rfl)
end Go.Vs.Tryz
namespace Go.Vs
open Go
structure EntD where
 name:Str
 count:Int
 ty:Ty
def Bx (e:EntD):List Cell:=.str e.name::.int .i64 e.count::e.ty.row
def B8 (l:List EntD):CC1:=l.map Bx
@[simp] theorem entRow_len (e:EntD):(Bx e).length=7:=by simp[Bx]
@[simp] theorem entRows_len (l:List EntD):(B8 l).length=l.length:=by simp[B8]
@[simp] theorem entRows_get (l:List EntD) (i:Nat):(B8 l)[i]?=(l[i]?).map Bx:=by simp[B8]
@[simp] theorem okRows_ent (l:List EntD):A2 7 (wr (B8 l))=true:=Dn l entRow_len
@[simp] theorem entRows_snoc (l:List EntD) (x:EntD):wr (B8 l)++[wc (Bx x)]=wr (B8 (l++[x])):=by simp[B8,wr]
@[simp] theorem entRows0:B8 []=[]:=rfl
def AZ (c:Int)(t:Ty):List Cell:=.int .i64 c::t.row
@[simp] theorem schRow_len (c:Int) (t:Ty):(AZ c t).length=6:=by simp[AZ]
section
variable (e:EntD)(c:Int)(t:Ty)
@[simp] theorem cut_n0:cut (Bx e) 0 1=some [.str e.name]:=by simp[Bx]
@[simp] theorem cut_n1:cut (Bx e) 1 6=some (AZ e.count e.ty):=by rw[Bx,AZ,Ty.row_eq];rfl
@[simp] theorem cut_n:cut (Bx e) 0 7=some (Bx e):=by rw[Bx,Ty.row_eq];rfl
@[simp] theorem cutw_n0:cut (wc (Bx e)) 0 1=some [.c (.str e.name)]:=by rw[Bx,Ty.row_eq];rfl
@[simp] theorem cutw_n1:cut (wc (Bx e)) 1 6=some (wc (AZ e.count e.ty)):=by rw[Bx,AZ,Ty.row_eq];rfl
@[simp] theorem cutw_n:cut (wc (Bx e)) 0 7=some (wc (Bx e)):=by rw[Bx,Ty.row_eq];rfl
@[simp] theorem cutw_sch:cut (wc (AZ c t)) 0 6=some (wc (AZ c t)):=by rw[AZ,Ty.row_eq];rfl
@[simp] theorem flat_sch:(wc (AZ c t)).all Bv=false:=by rw[AZ,Ty.row_eq];simp[wc,Bv]
@[simp] theorem flat_ent:(wc (Bx e)).all Bv=false:=by rw[Bx,Ty.row_eq];simp[wc,Bv]
end
section
variable {C:Ctx}{E:LV1}{L:LO1}{oid:Nat}
@[simp] theorem x_sl {s:Nat} {x:Opd} {lo hi mx:Option Opd}:Af C E L oid (.sl s x lo hi mx)=Bp L s (x.val C E) (lo.map (·.val C E)) (hi.map (·.val C E)) (mx.map (·.val C E)):=rfl
theorem F5 {α:Type}{f:α->List Cell}{k:Nat}(h:∀a,(f a).length=k)(l:List α):BN k (l.map f)=true:=by
 cases l with
 |nil=>rfl
 |cons a r=>simp[BN,h a]
@[simp] theorem fit_ent (l:List EntD):BN 7 (B8 l)=true:=F5 entRow_len l
@[simp] theorem fit_data (l:List DataD):BN 4 (AO l)=true:=F5 dataRow_len l
@[simp] theorem slice_from {s n:Nat} {k:IntKind} {rows:CC1} (h:n<=rows.length):Bp L s (.sc (.c (.sl rows))) (some (.sc (.c (.int k (n:Int))))) none none=bif BN s rows then some (.sc (.c (.sl (rows.drop n))),[]) else none:=by
 simp[Bp,AS,G4,Bz,qbm h]
@[simp] theorem slice_from1 {s n:Nat} {k:IntKind} {rows:CC1} (h:n+1<=rows.length):Bp L s (.sc (.c (.sl rows))) (some (.sc (.c (.int k ((n:Int)+1))))) none none=bif BN s rows then some (.sc (.c (.sl (rows.drop (n+1)))),[]) else none:=slice_from (n:=n+1) h
@[simp] theorem slice_to {s n:Nat} {k:IntKind} {rows:CC1} (h:n<=rows.length):Bp L s (.sc (.c (.sl rows))) none (some (.sc (.c (.int k (n:Int))))) none=bif BN s rows then some (.sc (.c (.sl (rows.take n))),[]) else none:=by
 simp[Bp,AS,G4,Bz,qbm h]
@[simp] theorem entRows_drop (l:List EntD) (n:Nat):(B8 l).drop n=B8 (l.drop n):=by simp[B8]
@[simp] theorem dataRows_take (l:List DataD) (n:Nat):(AO l).take n=AO (l.take n):=by simp[AO]
@[simp] theorem call1_clo {call:Ag} {f:FuncId} {w:W} {args:List (Bool×V)}:B1 call L oid (.sc (.clo f [true] [[w]])) args=EE call L oid f (AY L (args++[(true,.sc w)])):=by
 rw[Lg];rfl
end
end Go.Vs
namespace Go.Vs.Tryz
open Go Go.Vs
variable {A:Ag}
abbrev Bh (l:List EntD):V:=.sc (.c (.sl (B8 l)))
def Bm (l:List EntD):List Str:=l.map (·.name)
@[simp] theorem names_len (l:List EntD):(Bm l).length=l.length:=by simp[Bm]
@[simp] theorem names_get (l:List EntD) (i:Nat):(Bm l)[i]?=(l[i]?).map (·.name):=by simp[Bm]
def Cp (l:List EntD):Nat->List EntD
 |0=>[]
 |i+1=>match l[i]? with
  |none=>Cp l i
  |some e=>if e.name∈Bm (l.drop (i+1)) then Cp l i else Cp l i++[e]
theorem IE (l:List EntD):∀i,(Cp l i).length<=i
 |0=>by simp[Cp]
 |i+1=>by
  have:=IE l i;simp only[Cp];split
  .omega
  .split
   .omega
   .simp;omega
variable {A:Ag}
def rlast (l:List Str)(s:Str):Int:=if s∈l then (l.length:Int)-1-Bb l.reverse s else -1
theorem Lp {l:List Str}{i:Nat}(h:i<l.length):l.reverse[i]?=l[l.length-1-i]?:=List.getElem?_reverse h
def YR (b:Bool)(r:V×List Obj):Prop:=∃c t,r=(.tu [.ag (wc (AZ c t)),Ad b],[])
theorem Ww (l:List EntD)(s:Str)(h:l.length<=687194767360):∃r,YR (decide (s∈Bm l)) r/\(K A).call 184 [Bh l,strV s] []=some r:=by
 refine fnE v184 ?_;unfold v184;have hp:=LR (Bm l).reverse s;rw[List.length_reverse,names_len]at hp;simp(disch:=try exact zd);refine An (fun i=>⟨[(0,Bh l),(1,strV s),(4,.sc (.ptr 64 0)),(6,intV ((l.length:Int)-1-i))],[(64,some (.box [zi,zi,zs,zi,zi,.nil]))]⟩) (Bb (Bm l).reverse s) ?_ ?_ ?_
 .simp
 .intro i hi
  obtain⟨x,hx,hne⟩:=Jj hi;have hlt:i<l.length:=oz
  rw[Lp (by simpa using hlt),names_get,names_len]at hx;obtain⟨e,he,rfl⟩:=qt.1 hx;have hc:(l.length:Int)-1-i=((l.length-1-i:Nat):Int):=oz
  have hc2:(l.length:Int)-1-(i+1)=((l.length-1-i:Nat):Int)-1:=oz
  unfold OZ;simp(disch:=try exact zd) [hc,hc2,he,hne,-getElem?_pos]
 .unfold OZ
  by_cases hm:Bb (Bm l).reverse s<l.length
  .have hx:=Gh (l:=(Bm l).reverse) (s:=s) (by simpa using hm)
   have hmem:s∈Bm l:=by
    have:=Es.1 (show Bb (Bm l).reverse s<(Bm l).reverse.length by simpa using hm);simpa using this
   rw[Lp (by simpa using hm),names_get,names_len]at hx;obtain⟨e,he,hes⟩:=qt.1 hx;have hc:(l.length:Int)-1-(Bb (Bm l).reverse s:Nat)=((l.length-1-Bb (Bm l).reverse s:Nat):Int):=oz;simp(disch:=try exact zd) [hc,he,hes,hmem,-getElem?_pos];exact⟨_,_,rfl⟩
  .have hn:s∉Bm l:=fun h=>hm (by have:=Es.2 (List.mem_reverse.2 h);simpa using this)
   have hc:(l.length:Int)-1-(Bb (Bm l).reverse s:Nat)=-1:=oz;simp(disch:=try exact zd) [hc,hn,-getElem?_pos];refine⟨0,tz,?_⟩;simp[AZ,tz,Ty.row]
theorem Pv (l:List EntD)(h:l.length<=687194767360):(K A).call 135 [Bh l] []=some (Bh (Cp l l.length),[]):=by
 refine fnO v135 ?_;unfold v135;simp(disch:=try exact zd);refine An (fun i=>⟨[(0,Bh l),(3,.sc (.arr 129 (Cp l i).length)),(4,intV i)],[(129,some (.arr 7 (wr (B8 (Cp l i))) 0))]⟩) l.length ?_ ?_ ?_
 .simp[Cp]
 .intro i hi
  obtain⟨e,he⟩:=Ab hi;obtain⟨_,⟨c,t,rfl⟩,hc⟩:=Ww (A:=A) (l.drop (i+1)) e.name (by simp;omega);have hsl:=IE l i;have hi':i+1<=l.length:=hi;unfold O0;by_cases hn:e.name∈Bm (l.drop (i+1))
  .simp(disch:=try exact zd) [he,hi,hc,hn,Cp,-getElem?_pos]
  .simp(disch:=try exact zd) [he,hi,hc,hn,Cp,-getElem?_pos]
 .unfold O0
  simp(disch:=try exact zd)
def BR (d:DataD):List Str:=d.cons.map (·.name)
@[simp] theorem cnames_len (d:DataD):(BR d).length=d.cons.length:=by simp[BR]
@[simp] theorem cnames_get (d:DataD) (i:Nat):(BR d)[i]?=(d.cons[i]?).map (·.name):=by simp[BR]
def EN (ds:List DataD)(c:Str):Nat:=ds.findIdx fun d=>decide (c∈BR d)
theorem YZ {ds:List DataD}{c:Str}(h:EN ds c<ds.length):∃d,ds[EN ds c]?=some d/\c∈BR d:=by
 refine⟨ds[EN ds c],qj h,?_⟩;have h1:=List.findIdx_getElem (w:=h);exact of_decide_eq_true h1
def Oi (ds:List DataD)(c:Str):Int×Int×Bool:=match ds[EN ds c]? with
 |some d=>(EN ds c,Bb (BR d) c,true)
 |none=>(0,0,false)
abbrev Zif (r:Int×Int×Bool):V:=.tu [intV r.1,intV r.2.1,Ad r.2.2]
end Go.Vs.Tryz
namespace Go.Vs
open Go
section
variable {C:Ctx}
theorem Ug (ks:List Nat)(s:St):CQ ks s=s.scrub ks:=by
 cases ks with
 |cons _ _=>rfl
 |nil=>
  obtain⟨E,O⟩:=s;unfold CQ St.scrub;have:(O.any fun x=>x.2.isSome&&List.contains [] x.1)=false:=by
   rw[List.any_eq_false];intro x _;simp
  simp only[this,cond_false]
theorem Yu {x:Opd}{f s p q k:Nat}{ag:Bool}{asg body:VCode}{Q:Ex->St->Prop}{st:St}{rows:CC1}(hx:x.val C (get? st.env)=.sc (.clo f [true] [[.ptr k 0]]))(hk:64<=k)
 (hL:look st.objs k=some (.box [.c (.sl rows)])) (hn:rows.length<=1649267441664) (I:Nat->St->Prop) (h0:I rows.length (CQ [k] st))
 (round:∀i st' row,I (i+1) st'->rows[i]?=some row->row.length=s/\∃v,asV ag (wc row)=some v/\
   wp C asg (fun e s1=>e=.normal/\((AJ body).all fun k=>(look s1.objs k).isNone)=true/\
    wp C body (fun e s2=>(e=.normal/\I i ⟨(CQ (AJ asg++AJ body) st').env,s2.objs⟩)\/(e≠.normal/\Q e ⟨(CQ (AJ asg++AJ body) st').env,s2.objs⟩)) s1)
    ⟨put (put (CQ (AJ asg++AJ body) st').env p (.sc (.c (.int .i64 i)))) q v,(CQ (AJ asg++AJ body) st').objs⟩)
 (fin:∀st',I 0 st'->Q .normal st'):wp C (.rangeB x f s ag p q asg body) Q st:=by
 have key:∀i,i<=rows.length->∀st',I i st'->∃n e s',(∀n',n<=n'->Dr (run C n' asg) (run C n' body) (AJ asg++AJ body) (AJ body) s ag p q rows i st'=some (e,s'))/\Q e s':=by
  intro i
  induction i with
  |zero=>exact fun _ st' h=>⟨0,.normal,st',fun _ _=>rfl,fin st' h⟩
  |succ i ih=>
   intro hi st' h;obtain⟨row,hrow⟩:∃row,rows[i]?=some row:=⟨rows[i],qj oz⟩;obtain⟨hlen,v,hv,n1,e1,s1,h1,rfl,h2,n2,e2,s2,h3,h4⟩:=round i st' row h hrow;rw[Ug]at h1 h4;have hl:(row.length==s)=true:=(by simp[hlen])
   have r1:∀n',n1<=n'->run C n' asg ⟨put (put (st'.scrub (AJ asg++AJ body)).env p (.sc (.c (.int .i64 i)))) q v,(st'.scrub (AJ asg++AJ body)).objs⟩=some (.normal,s1):=fun n' hn=>D5 (gl:=C.gl) (c:=C.call) (Le.refl _) hn h1;have r2:∀n',n2<=n'->run C n' body s1=some (e2,s2):=fun n' hn=>D5 (gl:=C.gl) (c:=C.call) (Le.refl _) hn h3;have hv':asV ag (row.map W.c)=some v:=hv;rcases h4 with ⟨rfl,h4⟩|⟨hne,h4⟩
   .obtain ⟨n3,e3,s3,h5,h6⟩:=ih oz _ h4
    refine⟨max n1 (max n2 n3),e3,s3,fun n' hn'=>?_,h6⟩;have ha:=r1 n' oz;have hb:=r2 n' oz;simp only[Dr,hrow,hl,cond_true,hv',ha,h2,hb];exact h5 n' oz
   .refine ⟨max n1 n2,e2,_,fun n' hn' => ?_,h4⟩
    have ha:=r1 n' oz;have hb:=r2 n' oz;simp only[Dr,hrow,hl,cond_true,hv',ha,h2,hb];cases e2 with
    |normal=>exact absurd rfl hne
    |exit _=>rfl
    |ret=>rfl
 obtain⟨n,e,s',h1,h2⟩:=key rows.length (qg _) _ h0;refine⟨n,e,s',?_,h2⟩;have hb:(f==f&&Nat.ble 64 k)=true:=by
  simp only[beq_self_eq_true,Bool.true_and];exact qU hk
 have hb2:Nat.ble rows.length ID=true:=qU (by unfold ID;omega);rw[Ug]at h1;simp only[run,hx,hb,cond_true,hL,hb2];exact h1 n (qg n)
attribute [simp] AJ
end
end Go.Vs
namespace Go.Vs.Tryz
open Go Go.Vs
variable {A:Ag}
def Ek (ds:List DataD)(i:Nat):Nat:=((ds.take i).map fun d=>d.cons.length).sum
theorem Rh {ds:List DataD}{i:Nat}{d:DataD}(h:ds[i]?=some d):Ek ds (i+1)=Ek ds i+d.cons.length:=by
 unfold Ek;rw[AR h,qai,qaF];simp
def FD (ds:List DataD)(seen bound:List Str)(e:Exp):Int:=
 if e.kind=1 then (if e.name∈bound then seen.length+rlast bound e.name else rlast seen e.name)
 else if e.kind=2 then match Oi ds e.name with
  |(i,k,true)=>seen.length+bound.length+k+Ek ds i.toNat
  |_=>-1
 else -1
variable {A:Ag}
theorem Tu {l:List Str}{s:Str}{i:Nat}(h:l[i]?=some s)(hj:∀j x,i<j->l[j]?=some x->¬x=s):rlast l s=i:=by
 have hi:=(qf.1 h).1;have hmem:s∈l:=qc h;unfold rlast;rw[if_pos hmem];have hp:=Es.2 (List.mem_reverse.2 hmem);have hx:=Gh hp;rw[List.length_reverse]at hp;rw[Lp hp]at hx;have h1:¬i<l.length-1-Bb l.reverse s:=fun hlt=>hj _ s hlt hx rfl;have h2:¬l.length-1-i<Bb l.reverse s:=by
  intro hlt;obtain⟨x,hx2,hne⟩:=Jj hlt;rw[Lp oz,show l.length-1-(l.length-1-i)=i by omega,h]at hx2;cases hx2;exact hne rfl
 omega
def Zas (ctx:List EntD):List Str:=Bm (Cp ctx ctx.length)
variable {A:Ag}
end Go.Vs.Tryz
namespace Go.Vs
open Go
mutual
def Ty.size:Ty->Nat
 |.mk _ _ _ _ a=>1+Ty.sizes a
def Ty.sizes:List Ty->Nat
 |[]=>0
 |t::r=>t.size+Ty.sizes r
end
theorem Ty.sizes_map:∀l:List Ty,Ty.sizes l=(l.map Ty.size).sum
 |[]=>by simp[Ty.sizes]
 |t::r=>by simp[Ty.sizes,Ty.sizes_map r]
theorem Ty.size_eq (t:Ty):t.size=1+(t.args.map Ty.size).sum:=by
 cases t;simp[Ty.size,Ty.args,Ty.sizes_map]
theorem Ty.size_pos (t:Ty):1<=t.size:=by
 rw[Ty.size_eq];omega
theorem G2 {l:List Nat}{n:Nat}(h:n∈l):n<=l.sum:=by
 induction l with
 |nil=>cases h
 |cons a r ih=>
  simp only[qT];rcases qF.1 h with rfl|h
  .omega
  .have:=ih h
   omega
theorem Ty.arg_lt {t x:Ty}(h:x∈t.args):x.size<t.size:=by
 have:=G2 (qaz (f:=Ty.size) h);rw[t.size_eq];omega
theorem Ty.len_le (l:List Ty):l.length<=(l.map Ty.size).sum:=by
 induction l with
 |nil=>simp
 |cons a r ih=>
  have:=a.size_pos;simp only[qJ,qu,qT];omega
theorem Ty.args_lt (t:Ty):t.args.length<t.size:=by
 have:=Ty.len_le t.args;rw[t.size_eq];omega
theorem Ty.size_leaf {k:Int}{n:Str}{i h:Int}:(Ty.mk k n i h []).size=1:=by simp[Ty.size,Ty.sizes]
structure AssD where
 id:Int
 ty:Ty
def BG (a:AssD):List Cell:=.int .i64 a.id::a.ty.row
def Dl (l:List AssD):CC1:=l.map BG
@[simp] theorem assRow_len (a:AssD):(BG a).length=6:=by simp[BG]
@[simp] theorem assRows_len (l:List AssD):(Dl l).length=l.length:=by simp[Dl]
@[simp] theorem assRows_get (l:List AssD) (i:Nat):(Dl l)[i]?=(l[i]?).map BG:=by simp[Dl]
@[simp] theorem okRows_ass (l:List AssD):A2 6 (wr (Dl l))=true:=Dn l assRow_len
@[simp] theorem assRows_snoc (l:List AssD) (x:AssD):wr (Dl l)++[wc (BG x)]=wr (Dl (l++[x])):=by simp[Dl,wr]
@[simp] theorem assRows0:Dl []=[]:=rfl
section
variable (a:AssD)
@[simp] theorem cut_as0:cut (BG a) 0 1=some [.int .i64 a.id]:=by rw[BG,Ty.row_eq];rfl
@[simp] theorem cut_as1:cut (BG a) 1 5=some a.ty.row:=by rw[BG,Ty.row_eq];rfl
@[simp] theorem cut_as:cut (BG a) 0 6=some (BG a):=by rw[BG,Ty.row_eq];rfl
@[simp] theorem cutw_as0:cut (wc (BG a)) 0 1=some [.c (.int .i64 a.id)]:=by rw[BG,Ty.row_eq];rfl
@[simp] theorem cutw_as1:cut (wc (BG a)) 1 5=some (wc a.ty.row):=by rw[BG,Ty.row_eq];rfl
@[simp] theorem cutw_as:cut (wc (BG a)) 0 6=some (wc (BG a)):=by rw[BG,Ty.row_eq];rfl
@[simp] theorem flat_ass:(wc (BG a)).all Bv=false:=by rw[BG,Ty.row_eq];simp[wc,Bv]
end
end Go.Vs
namespace Go.Vs.Tryz
open Go Go.Vs
variable {A:Ag}
abbrev CI (l:List Int):V:=.sc (.c (.sl (Bn l)))
abbrev tysV (l:List Ty):V:=.sc (.c (.sl (Ty.rows l)))
abbrev C6 (l:List AssD):V:=.sc (.c (.sl (Dl l)))
abbrev schV (c:Int)(t:Ty):V:=.ag (wc (AZ c t))
theorem Ng (h i:Int):(K A).call 118 [intV h,intV i] []=some (tyV (.mk 3 [] i h []),[]):=by
 refine fnO v118 ?_;unfold v118;simp(disch:=try exact zd) [Ty.row]
theorem Mn (i:Int):(K A).call 212 [intV i] []=some (tyV (.mk 1 [] i 0 []),[]):=by
 refine fnO v212 ?_;unfold v212;simp(disch:=try exact zd) [Ty.row]
theorem MR (i:Int):(K A).call 169 [intV i] []=some (tyV (.mk 2 [] i 0 []),[]):=by
 refine fnO v169 ?_;unfold v169;simp(disch:=try exact zd) [Ty.row]
def J9 (r:V×List Obj):Prop:=∃b,r=(Ad b,[])
theorem GB (t:Ty):(K A).call 65 [tyV t] []=some (schV 0 t,[]):=by
 refine fnO v65 ?_;unfold v65;simp(disch:=try exact zd) [AZ,Ty.row_eq]
theorem F0 (l:List EntD)(s:Str)(c:Int)(t:Ty)(h:l.length<=1073741):(K A).call 64 [Bh l,strV s,schV c t] []=some (Bh (l++[⟨s,c,t⟩]),[]):=by
 refine fnO v64 ?_;unfold v64;cases l with
 |nil=>simp(disch:=try exact zd) [Bx,AZ,B8]
 |cons a r=>
  have hn:B8 (a::r)=Bx a::B8 r:=rfl;have hok:=okRows_ent (a::r);rw[hn,wr_cons]at hok;simp only[qJ]at h;have he:(W.c (.str s)::wc (AZ c t))=wc (Bx ⟨s,c,t⟩):=rfl;simp(disch:=try exact zd) [hn,hok,he];rfl
variable {A:Ag}
def cmpI (a b:Int):Int:=if a<b then -1 else if b<a then 1 else 0
def orI:List Int->Int
 |[]=>0
 |a::r=>if a=0 then orI r else a
def RP (e:Exp):Int:=if e.kind=4 then 0 else if e.kind=8 then 2 else 1
end Go.Vs.Tryz
namespace Go.Vs
open Go
section
variable {call:FuncId->List V->List Obj->Option (V×List Obj)}{L:LO1}{oid:Nat}
@[simp] theorem call1_clo2 {f:FuncId} {w0 w1:W} {args:List (Bool×V)}:B1 call L oid (.sc (.clo f [true,true] [[w0],[w1]])) args=EE call L oid f (AY L (args++[(true,.sc w0),(true,.sc w1)])):=by
 rw[Lg];rfl
@[simp] theorem call1_clo3 {f:FuncId} {w0 w1 w2:W} {args:List (Bool×V)}:B1 call L oid (.sc (.clo f [true,true,true] [[w0],[w1],[w2]])) args=EE call L oid f (AY L (args++[(true,.sc w0),(true,.sc w1),(true,.sc w2)])):=by
 rw[Lg];rfl
end
end Go.Vs
namespace Go.Vs.Tryz
open Go Go.Vs
variable {A:Ag}
variable {A:Ag}
def Cm (l:List Exp):Nat->List Exp
 |0=>l
 |i+1=>match (Cm l i)[i]?,(Cm l i)[l.length-1-i]? with
  |some x,some y=>((Cm l i).set i y).set (l.length-1-i) x
  |_,_=>Cm l i
@[simp] theorem swapTo_len (l:List Exp):∀i,(Cm l i).length=l.length
 |0=>rfl
 |i+1=>by
  have:=swapTo_len l i;simp only[Cm];split
  .simp[this]
  .exact this
theorem setRow_set {α:Type}:∀(l:List α)(i:Nat)(a:α),setRow l i a=l.set i a
 |[],_,_=>rfl
 |_::_,0,_=>rfl
 |b::r,n+1,a=>by simp only[setRow,List.set_cons_succ,setRow_set r n a]
theorem DM (l:List Exp)(i:Nat)(x:Exp):setRow (wr (Exp.rows l)) i (wc x.row)=wr (Exp.rows (l.set i x)):=by
 rw[setRow_set];simp[Exp.rows_map,wr,qa8]
theorem ZfV (l:List Exp)(h:l.length<=687194767360):∃r,r=(.tu [],[.arr 11 (wr (Exp.rows (Cm l (l.length / 2)))) 0])/\(K A).call 80 [.sc (.arr 0 l.length)] [.arr 11 (wr (Exp.rows l)) 0]=some r:=by
 refine AC (fun r=>r=(.tu [],[.arr 11 (wr (Exp.rows (Cm l (l.length / 2)))) 0])) (vf:=v80) (by kernel_rfl) rfl sy ?_;unfold v80;simp(disch:=try exact zd);refine Am (fun i s=>s=⟨[(0,.sc (.arr 0 l.length)),(2,intV i),(3,intV (l.length-1-i))],[(0,some (.arr 11 (wr (Exp.rows (Cm l i))) 0))]⟩) (l.length / 2) (by simp[Cm]) ?_ ?_
 .rintro i s hi rfl
  have hn:((l.length:Int)-1-i)=((l.length-1-i:Nat):Int):=oz
  obtain⟨x,hx⟩:=Ab (l:=Cm l i) (i:=i) (by simp;omega);obtain⟨y,hy⟩:=Ab (l:=Cm l i) (i:=l.length-1-i) (by simp;omega);have hlt:(i:Int)<((l.length-1-i:Nat):Int):=oz
  have r1:=DM (Cm l i) i y;have r2:=DM ((Cm l i).set i y) (l.length-1-i) x;rw[hn];unfold Mp;simp(disch:=try exact zd) [hx,hy,hlt,Cm,r1,r2,-getElem?_pos];omega
 .rintro s rfl
  have hlt:¬(l.length:Int) / 2<(l.length:Int)-1-(l.length:Int) / 2:=oz
  unfold Mp;simp(disch:=try exact zd) [hlt,-getElem?_pos]
theorem Ln (l:List Exp):∀i,2*i<=l.length->∀j,j<l.length->(Cm l i)[j]?=if j<i\/l.length<=j+i then l[l.length-1-j]? else l[j]?
 |0,_,j,hj=>by
  have:¬(j<0\/l.length<=j+0):=oz
  simp only[Cm,if_neg this]
 |i+1,hi,j,hj=>by
  have h1:=Ln l i oz i oz;have h2:=Ln l i oz (l.length-1-i) oz;have h3:=Ln l i oz j hj;rw[if_neg oz]at h1;rw[if_neg oz]at h2;obtain⟨x,hx⟩:=Ab (l:=l) (i:=i) oz;obtain⟨y,hy⟩:=Ab (l:=l) (i:=l.length-1-i) oz;rw[hx]at h1;rw[hy]at h2;simp only[Cm,h1,h2];by_cases e2:j=l.length-1-i
  .subst e2
   rw[qbg (by simp;omega),if_pos oz,show l.length-1-(l.length-1-i)=i by omega,hx]
  .rw [qaO oz]
   by_cases e1:j=i
   .subst e1
    rw[qbg (by simp;omega),if_pos oz,hy]
   .rw [qaO oz,h3]
    by_cases hc:j<i\/l.length<=j+i
    .rw[if_pos hc,if_pos oz]
    .rw[if_neg hc,if_neg oz]
theorem ZcX (l:List Exp):Cm l (l.length / 2)=l.reverse:=by
 apply qH;intro j;by_cases hj:j<l.length
 .rw [Ln l _ oz j hj,List.getElem?_reverse hj]
  by_cases hc:j<l.length / 2\/l.length<=j+l.length / 2
  .rw[if_pos hc]
  .rw[if_neg hc,show l.length-1-j=j by omega]
 .rw[qap (by simp;omega),qap (by simp;omega)]
variable {A:Ag}
def HQ (c:UInt8):Bool:=(97<=c.toNat&&c.toNat<=122)||(65<=c.toNat&&c.toNat<=90)||(48<=c.toNat&&c.toNat<=57)||c.toNat==95
def keyWords:List Str:=[[100,97,116,97],[108,101,116],[114,101,99],[105,110],[99,97,115,101],[111,102],[101,110,100]]
def nameOk (lo hi:Nat)(s:Str):Prop:=s.length<=12/\(∃c,s[0]?=some c/\lo<=c.toNat/\c.toNat<=hi)/\(∀c∈s,HQ c=true)/\s∉keyWords
theorem Ka (lo hi:Nat)(s:Str)(h:nameOk lo hi s):(K A).call 141 [strV s,.sc (.c (.int .u8 lo)),.sc (.c (.int .u8 hi))] []=some (Ad true,[]):=by
 refine fnO v141 ?_;obtain⟨h1,⟨c,hc,h2,h3⟩,h4,h5⟩:=h;simp only[keyWords,qF,qae,or_false,not_or]at h5;obtain⟨k1,k2,k3,k4,k5,k6,k7⟩:=h5;have hl:0<s.length:=(qf.1 hc).1;have e1:¬(s.length:Int)<1:=oz
 have e2:¬(12:Int)<s.length:=oz
 have e3:¬(c.toNat:Int)<lo:=oz
 have e4:¬(hi:Int)<c.toNat:=oz
 unfold v141;simp(disch:=try exact zd) [e1,e2,e3,e4,hc,-getElem?_pos];refine Am (fun i t=>t=⟨[(0,strV s),(31,intV s.length),(32,intV i)],[]⟩) s.length sy ?_ ?_
 .rintro i t hi rfl
  obtain⟨d,hd⟩:=Ab hi;have hdo:=h4 d (qc hd);simp only[HQ,qax,qe,decide_eq_true_eq,beq_iff_eq]at hdo;unfold Pj;by_cases a1:97<=d.toNat
  .by_cases a2:d.toNat<=122
   .have b1:(97:Int)<=d.toNat:=oz
    have b2:(d.toNat:Int)<=122:=oz;simp(disch:=try exact zd) [hi,hd,b1,b2,-getElem?_pos]
   .omega
  .have b1:¬(97:Int)<=d.toNat:=oz
   by_cases a3:65<=d.toNat
   .have b3:(65:Int)<=d.toNat:=oz
    by_cases a4:d.toNat<=90
    .have b4:(d.toNat:Int)<=90:=oz
     simp(disch:=try exact zd) [hi,hd,b1,b3,b4,-getElem?_pos]
    .have b4:¬(d.toNat:Int)<=90:=oz
     have b5:(d.toNat:Int)=95:=oz;simp(disch:=try exact zd) [hi,hd,b5,-getElem?_pos]
   .have b3:¬(65:Int)<=d.toNat:=oz
    have b4:¬(d.toNat:Int)<48:=oz;have b5:¬(57:Int)<d.toNat:=oz;simp(disch:=try exact zd) [hi,hd,b1,b3,b4,b5,-getElem?_pos]
 .rintro t rfl
  unfold Pj;simp(disch:=try exact zd) [k1,k2,k3,k4,k5,k6,k7,-getElem?_pos]
theorem Ij (s:Str)(h:nameOk 97 122 s):(K A).call 92 [strV s] []=some (Ad true,[]):=by
 have h1:(K A).call 141 [strV s,.sc (.c (.int .u8 97)),.sc (.c (.int .u8 122))] []=some (Ad true,[]):=Ka (A:=A) 97 122 s h;have hs:¬s=[]:=by
  rintro rfl;obtain⟨_,⟨c,hc,_⟩,_⟩:=h;cases hc
 have hv:(K A).call 93 [tyV (.mk 5 s 0 0 [])] []=some (Ad true,[]):=by
  refine fnO v93 ?_;unfold v93;simp(disch:=try exact zd) [h1,hs,Ty.kind,Ty.name,Ty.id,Ty.home,Ty.args,-getElem?_pos]
 refine fnO v92 ?_;simp[tyV,Ty.row,Ty.rows]at hv;unfold v92;simp(disch:=try exact zd) [hv,-getElem?_pos]
theorem Re (s:Str)(h:nameOk 65 90 s):(K A).call 91 [strV s] []=some (Ad true,[]):=by
 have h1:(K A).call 141 [strV s,.sc (.c (.int .u8 65)),.sc (.c (.int .u8 90))] []=some (Ad true,[]):=Ka (A:=A) 65 90 s h;have hs:¬s=[]:=by
  rintro rfl;obtain⟨_,⟨c,hc,_⟩,_⟩:=h;cases hc
 have hne:¬s=[45,62]:=by
  rintro rfl;obtain⟨_,⟨c,hc,h2,h3⟩,_⟩:=h;cases hc;simp at h2
 have hv:(K A).call 93 [tyV (.mk 4 s 0 0 [])] []=some (Ad true,[]):=by
  have hcon:(K A).call 142 [strV s,intV 0] []=some (Ad true,[]):=by
   refine fnO v142 ?_;unfold v142;by_cases hi:s=[73,110,116]
   .simp(disch:=try exact zd) [hi,-getElem?_pos]
   .simp(disch:=try exact zd) [hne,hi,h1,-getElem?_pos]
  have hall:(K A).call 143 [.sc (.c (.sl [])),.sc (.c (.fn 144 [] []))] []=some (Ad false,[]):=Ed (n:=10) (by kernel_rfl);refine fnO v93 ?_;unfold v93;simp(disch:=try exact zd) [hcon,hall,hs,Ty.kind,Ty.name,Ty.id,Ty.home,Ty.args,-getElem?_pos]
 refine fnO v91 ?_;simp[tyV,Ty.row,Ty.rows]at hv;unfold v91;simp(disch:=try exact zd) [hv,-getElem?_pos]
end Go.Vs.Tryz
namespace Go.Vs
open Go
theorem Ty.ind {P:Ty->Prop}(h:∀t:Ty,(∀x∈t.args,P x)->P t)(t:Ty):P t:=by
 have:∀(n:Nat) (t:Ty),t.size<=n->P t:=by
  intro n
  induction n with
  |zero=>
   intro t ht;have:=t.size_pos;omega
  |succ n ih=>
   intro t ht;exact h t fun x hx=>ih x (by have:=Ty.arg_lt hx;omega)
 exact this t.size t (qg _)
mutual
def Ty.all (p:Ty->Prop):Ty->Prop
 |.mk k n i h a=>p (.mk k n i h a)/\Ty.alls p a
def Ty.alls (p:Ty->Prop):List Ty->Prop
 |[]=>True
 |t::r=>Ty.all p t/\Ty.alls p r
end
theorem Ty.alls_iff {p:Ty->Prop}:∀{l:List Ty},Ty.alls p l↔∀x∈l,Ty.all p x
 |[]=>by simp[Ty.alls]
 |t::r=>by simp[Ty.alls,Ty.alls_iff (l:=r)]
theorem Ty.all_iff {p:Ty->Prop}{t:Ty}:Ty.all p t↔p t/\∀x∈t.args,Ty.all p x:=by
 cases t;simp[Ty.all,Ty.args,Ty.alls_iff]
theorem Ty.all.one {p:Ty->Prop}{t:Ty}(h:Ty.all p t):p t:=(Ty.all_iff.1 h).1
theorem Ty.all.arg {p:Ty->Prop}{t x:Ty}(h:Ty.all p t)(hx:x∈t.args):Ty.all p x:=(Ty.all_iff.1 h).2 x hx
theorem Ty.all.mono {p q:Ty->Prop}(hpq:∀t,p t->q t)(t:Ty):Ty.all p t->Ty.all q t:=by
 induction t using Ty.ind<;>grind[Ty.all_iff]
mutual
def Ty.map (f:Ty->Option Ty):Ty->Ty
 |.mk k n i h a=>match f (.mk k n i h a)with
  |some u=>u
  |none=>.mk k n i h (Ty.maps f a)
def Ty.maps (f:Ty->Option Ty):List Ty->List Ty
 |[]=>[]
 |t::r=>Ty.map f t::Ty.maps f r
end
theorem Ty.maps_map {f:Ty->Option Ty}:∀(l:List Ty),Ty.maps f l=l.map (Ty.map f)
 |[]=>by rfl
 |t::r=>by simp[Ty.maps,Ty.maps_map r]
theorem Ty.map_some {f:Ty->Option Ty}{t u:Ty}(h:f t=some u):Ty.map f t=u:=by
 cases t;simp only[Ty.map,h]
theorem Ty.map_none {f:Ty->Option Ty}{t:Ty}(h:f t=none):Ty.map f t=.mk t.kind t.name t.id t.home (t.args.map (Ty.map f)):=by
 cases t;grind[Ty.map,Ty.maps_map,Ty.kind,Ty.name,Ty.id,Ty.home,Ty.args]
theorem Ty.map_all {f:Ty->Option Ty}{p q:Ty->Prop}(h1:∀t u,Ty.all p t->f t=some u->Ty.all q u)
 (h2:∀(t:Ty) (a:List Ty),p t->f t=none->a.length=t.args.length->q (.mk t.kind t.name t.id t.home a)) (t:Ty):Ty.all p t->Ty.all q (Ty.map f t):=by
 induction t using Ty.ind with
 |h t ih=>
  intro h;cases hf:f t<;>grind[Ty.map_some,Ty.map_none,Ty.all_iff,Ty.args]
theorem QE {m:Nat}:∀{l:List Ty}{g:Ty->Ty},(∀x∈l,(g x).size<=x.size*m)->((l.map g).map Ty.size).sum<=(l.map Ty.size).sum*m
 |[],_,_=>by simp
 |a::r,g,h=>by
  have h1:=h a sy;have h2:=QE (l:=r) (g:=g) fun x hx=>h x (by grind);simp only[qu,qT,qa3];omega
theorem Ty.map_size {f:Ty->Option Ty}{m:Nat}(hm:1<=m)(h1:∀t u,f t=some u->u.size<=t.size*m)(t:Ty):(Ty.map f t).size<=t.size*m:=by
 induction t using Ty.ind with
 |h t ih=>
  cases hf:f t with
  |some u=>grind[Ty.map_some]
  |none=>
   rw[Ty.map_none hf,Ty.size_eq,t.size_eq];have:=QE (l:=t.args) (g:=Ty.map f) ih;show 1+((t.args.map (Ty.map f)).map Ty.size).sum<=(1+(t.args.map Ty.size).sum)*m;grind
def CV (s:Str)(n:Nat):Prop:=(s=[45,62]/\n=2)\/(s=[73,110,116]/\n=0)\/(s≠[45,62]/\s≠[73,110,116]/\Tryz.nameOk 65 90 s/\n<=4)
def vldN (c:Nat)(t:Ty):Prop:=(t.kind=2->t.id<c/\t.args=[])/\(t.kind=4->t.id=0/\t.home=0/\CV t.name t.args.length)/\(t.kind=5->t.id=0/\t.home=0/\t.args=[]/\Tryz.nameOk 97 122 t.name)/\1<=t.kind/\t.kind<=5
def tyN (n c:Nat)(t:Ty):Prop:=(t.kind=1->0<=t.id/\t.id<n/\t.args=[])/\(t.kind=2->0<=t.id)/\(t.kind=3->t.args=[])/\vldN c t
def tyB (n c:Nat)(t:Ty):Prop:=Ty.all (tyN n c) t
def tyS (n:Nat)(t:Ty):Prop:=tyB n 0 t
theorem Uq {n c:Nat}{t:Ty}:tyB n c t↔tyN n c t/\∀x∈t.args,tyB n c x:=Ty.all_iff
theorem tyB.one {n c:Nat}{t:Ty}(h:tyB n c t):tyN n c t:=Ty.all.one h
theorem tyB.arg {n c:Nat}{t x:Ty}(h:tyB n c t)(hx:x∈t.args):tyB n c x:=Ty.all.arg h hx
theorem tyB.mono {n m c d:Nat}{t:Ty}(h:tyB n c t)(hnm:n<=m)(hcd:c<=d):tyB m d t:=
 Ty.all.mono (fun t ⟨h1,h2,h3,h4,h5⟩=>⟨fun hk=>⟨(h1 hk).1,oz,(h1 hk).2.2⟩,h2,h3,fun hk=>⟨oz,(h4 hk).2⟩,h5⟩) t h
theorem Hd {n:Nat}{t:Ty}:tyS n t↔tyN n 0 t/\∀x∈t.args,tyS n x:=Ty.all_iff
theorem tyS.one {n:Nat}{t:Ty}(h:tyS n t):tyN n 0 t:=Ty.all.one h
theorem tyS.arg {n:Nat}{t x:Ty}(h:tyS n t)(hx:x∈t.args):tyS n x:=Ty.all.arg h hx
theorem tyS.mono {n m:Nat}{t:Ty}(h:tyS n t)(hnm:n<=m):tyS m t:=tyB.mono h hnm (qg 0)
theorem tyS.up {n c:Nat}{t:Ty}(h:tyS n t):tyB n c t:=tyB.mono h (qg n) (qab c)
theorem tyN.len {n c:Nat}{t:Ty}{a:List Ty}(h:tyN n c t)(ha:a.length=t.args.length):tyN n c (.mk t.kind t.name t.id t.home a):=by
 have he:t.args=[]->a=[]:=fun h=>qR.1 (by grind);obtain⟨h1,h2,h3,h4,h5,h6,h7⟩:=h;refine⟨fun hk=>⟨(h1 hk).1,(h1 hk).2.1,he (h1 hk).2.2⟩,h2,fun hk=>he (h3 hk),fun hk=>⟨(h4 hk).1,he (h4 hk).2⟩,fun hk=>⟨(h5 hk).1,(h5 hk).2.1,?_⟩,fun hk=>⟨(h6 hk).1,(h6 hk).2.1,he (h6 hk).2.2.1,(h6 hk).2.2.2⟩,h7⟩;show CV t.name a.length;rw[ha];exact(h5 hk).2.2
theorem tyN.noBound {n c d:Nat}{t:Ty}(h:tyN n c t)(hk:t.kind≠2):tyN n d t:=by
 obtain⟨h1,h2,h3,h4,h5⟩:=h;exact⟨h1,h2,h3,fun h=>absurd h hk,h5⟩
theorem tyN.noVar {n m c:Nat}{t:Ty}(h:tyN n c t)(hk:t.kind≠1):tyN m c t:=by
 obtain⟨h1,h2⟩:=h;exact⟨fun h=>absurd h hk,h2⟩
theorem H8:CV [45,62] 2:=.inl ⟨rfl,rfl⟩
theorem Mw {n c:Nat}{s:Str}{l:List Ty}(hs:CV s l.length)(h:∀x∈l,tyB n c x):tyB n c (.mk 4 s 0 0 l):=
 Uq.2 ⟨⟨fun hk=>absurd (show(4:Int)=1 from hk) (by decide),fun hk=>absurd (show(4:Int)=2 from hk) (by decide),fun hk=>absurd (show(4:Int)=3 from hk) (by decide),
  fun hk=>absurd (show(4:Int)=2 from hk) (by decide),fun _=>⟨rfl,rfl,hs⟩,fun hk=>absurd (show(4:Int)=5 from hk) (by decide),by show(1:Int)<=4;decide,by show(4:Int)<=5;decide⟩,fun x hx=>h x hx⟩
theorem Jb {n:Nat}{s:Str}{l:List Ty}(hs:CV s l.length)(h:∀x∈l,tyS n x):tyS n (.mk 4 s 0 0 l):=Mw hs h
theorem Nb {n:Nat}:tyS n (.mk 4 [73,110,116] 0 0 []):=Jb (.inr (.inl ⟨rfl,rfl⟩)) fun x hx=>by cases hx
theorem HD {n i:Nat}(h:i<n):tyS n (.mk 1 [] i 0 []):=
 Hd.2 ⟨⟨fun _=>⟨by show(0:Int)<=i;omega,by show(i:Int)<n;omega,rfl⟩,fun hk=>absurd (show(1:Int)=2 from hk) (by decide),fun hk=>absurd (show(1:Int)=3 from hk) (by decide),
  fun hk=>absurd (show(1:Int)=2 from hk) (by decide),fun hk=>absurd (show(1:Int)=4 from hk) (by decide),fun hk=>absurd (show(1:Int)=5 from hk) (by decide),by show(1:Int)<=1;decide,by show(1:Int)<=5;decide⟩,fun x hx=>by cases hx⟩
theorem OV {n c i:Nat}(h:i<c):tyB n c (.mk 2 [] i 0 []):=
 Uq.2 ⟨⟨fun hk=>absurd (show(2:Int)=1 from hk) (by decide),fun _=>by show(0:Int)<=i;omega,fun hk=>absurd (show(2:Int)=3 from hk) (by decide),
  fun _=>⟨by show(i:Int)<c;omega,rfl⟩,fun hk=>absurd (show(2:Int)=4 from hk) (by decide),fun hk=>absurd (show(2:Int)=5 from hk) (by decide),by show(1:Int)<=2;decide,by show(2:Int)<=5;decide⟩,fun x hx=>by cases hx⟩
theorem PY {n:Nat}{i h:Int}:tyS n (.mk 3 [] i h []):=
 Hd.2 ⟨⟨fun hk=>absurd (show(3:Int)=1 from hk) (by decide),fun hk=>absurd (show(3:Int)=2 from hk) (by decide),fun _=>rfl,
  fun hk=>absurd (show(3:Int)=2 from hk) (by decide),fun hk=>absurd (show(3:Int)=4 from hk) (by decide),fun hk=>absurd (show(3:Int)=5 from hk) (by decide),by show(1:Int)<=3;decide,by show(3:Int)<=5;decide⟩,fun x hx=>by cases hx⟩
theorem Zgm {n:Nat}{s:Str}(hs:Tryz.nameOk 97 122 s):tyS n (.mk 5 s 0 0 []):=
 Hd.2 ⟨⟨fun hk=>absurd (show(5:Int)=1 from hk) (by decide),fun hk=>absurd (show(5:Int)=2 from hk) (by decide),fun hk=>absurd (show(5:Int)=3 from hk) (by decide),
  fun hk=>absurd (show(5:Int)=2 from hk) (by decide),fun hk=>absurd (show(5:Int)=4 from hk) (by decide),fun _=>⟨rfl,rfl,rfl,hs⟩,by show(1:Int)<=5;decide,by show(5:Int)<=5;decide⟩,fun x hx=>by cases hx⟩
def GS (args:List Ty)(t:Ty):Option Ty:=if t.kind=2/\0<=t.id/\t.id<args.length then args[t.id.toNat]? else none
def CE (args:List Ty):Ty->Ty:=Ty.map (GS args)
def FU (s:List AssD)(t:Ty):Ty:=match s.find? (fun a=>decide (a.id=t.id))with
 |some a=>a.ty
 |none=>t
def Dg (s:List AssD)(t:Ty):Option Ty:=if t.kind=1 then some (FU s t) else none
def Bt (s:List AssD):Ty->Ty:=Ty.map (Dg s)
def idxS (l:List Str)(s:Str):Int:=match l.findIdx? (fun x=>decide (x=s))with
 |some i=>i
 |none=>-1
def Hy (l:List Str)(t:Ty):Option Ty:=if t.kind=5 then some (if idxS l t.name>=0 then .mk 2 [] (idxS l t.name) 0 [] else t) else none
def BZ (l:List Str):Ty->Ty:=Ty.map (Hy l)
def DY (t:Ty):Option Ty:=if t.kind=3/\t.home=99 then some (.mk 1 [] (900+t.id) 0 []) else none
def Cu:Ty->Ty:=Ty.map DY
theorem M6 {n:Nat}{args:List Ty}(h:∀x∈args,tyS n x){t:Ty}(ht:tyB n args.length t):tyS n (CE args t):=by
 refine Ty.map_all (p:=tyN n args.length) (q:=tyN n 0) ?_ ?_ t ht
 .intro t u _ hf
  unfold GS at hf;split at hf
  .exact h u (qc hf)
  grind
 .intro t a hp hf ha
  refine(hp.noBound fun hk=>?_).len ha;have h0:=hp.2.1 hk;have h1:=(hp.2.2.2.1 hk).1;grind[GS]
theorem Oo {m:Nat}(hm:1<=m){args:List Ty}(h:∀x∈args,x.size<=m)(t:Ty):(CE args t).size<=t.size*m:=by
 refine Ty.map_size hm ?_ t;intro t u hf;unfold GS at hf;split at hf
 .have h1:=h u (qc hf)
  have h2:=t.size_pos;have:=qG m h2;omega
 grind
theorem ZaD (l:List Str)(s:Str):idxS l s<l.length:=by
 grind[idxS,qaP]
theorem Nh {n:Nat}{l:List Str}{t:Ty}(ht:tyS n t):tyB n l.length (BZ l t):=by
 refine Ty.map_all (p:=tyN n 0) (q:=tyN n l.length) ?_ ?_ t ht
 .intro t u hp hf
  unfold Hy at hf;split at hf
  .cases hf
   split
   .rename_i hi
    obtain⟨i,hi2⟩:∃i:Nat,idxS l t.name=i:=⟨(idxS l t.name).toNat,oz⟩;have:=ZaD l t.name;rw[hi2]at this |-;exact OV oz
   .exact tyB.mono hp (qg n) (qab _)
  grind
 .intro t a hp _ ha
  exact(hp.noBound fun hk=>by have h0:=hp.2.1 hk;have h1:=(hp.2.2.2.1 hk).1;omega).len ha
theorem M0 (l:List Str)(t:Ty):(BZ l t).size<=t.size:=by
 have h:=Ty.map_size (f:=Hy l) (m:=1) (qg _) ?_ t
 .unfold BZ
  omega
 .intro t u hf
  unfold Hy at hf;split at hf
  .cases hf
   split
   .have:=t.size_pos
    grind[Ty.size_leaf]
   simp
  grind
def EV (l:List Int)(t:Ty):Prop:=Ty.all (fun u=>u.kind=1->u.id∈l) t
theorem ZbS {n:Nat}{l:List Int}(t:Ty):tyS n t->EV l t->Ty.all (fun u=>tyN n 0 u/\(u.kind=1->u.id∈l)) t:=by
 induction t using Ty.ind with
 |h t ih=>
  intro h1 h2;exact Ty.all_iff.2 ⟨⟨h1.one,Ty.all.one h2⟩,fun x hx=>ih x hx (h1.arg hx) (Ty.all.arg h2 hx)⟩
theorem Py {n m c:Nat}{l:List Int}{s:List AssD}(hs:∀i∈l,∃a∈s,a.id=i)(hm:∀a∈s,tyB m c a.ty){t:Ty}(ht:tyS n t)(hv:EV l t):tyB m c (Bt s t):=by
 refine Ty.map_all (p:=fun u=>tyN n 0 u/\(u.kind=1->u.id∈l)) (q:=tyN m c) ?_ ?_ t (ZbS t ht hv)
 .intro t u hp hf
  unfold Dg at hf;split at hf
  .rename_i hk
   cases hf;obtain⟨a,ha,hai⟩:=hs _ (hp.one.2 hk);unfold FU;split
   .rename_i b hb
    exact hm b (qaG hb)
   grind
  grind
 .intro t a ⟨hp,_⟩ hf ha
  have hk:t.kind≠1:=by
   grind[Dg]
  exact((hp.noVar hk).noBound fun hk=>by have h0:=hp.2.1 hk;have h1:=(hp.2.2.2.1 hk).1;omega).len ha
theorem P6 {m:Nat}(hm:1<=m){s:List AssD}(h:∀a∈s,a.ty.size<=m)(t:Ty):(Bt s t).size<=t.size*m:=by
 refine Ty.map_size hm ?_ t;intro t u hf;have h2:=t.size_pos;unfold Dg at hf;split at hf
 .cases hf
  unfold FU;split
  .rename_i b hb
   have h1:=h b (qaG hb);have:=qG m h2;omega
  .have:=qaH t.size hm
   omega
 grind
theorem Tv {s:List AssD}{c:Nat}(t:Ty):tyB 0 c t->Bt s t=t:=by
 induction t using Ty.ind with
 |h t ih=>
  intro h;have hk:t.kind≠1:=fun hk=>by
   have:=(h.one.1 hk);omega
  have hf:Dg s t=none:=by grind[Dg]
  unfold Bt;have e:t.args.map (Ty.map (Dg s))=t.args:=(qL (g:=id) fun x hx=>ih x hx (h.arg hx)).trans (List.map_id _);rw[Ty.map_none hf,e];cases t;rfl
theorem Zw (t:Ty):(Cu t).size<=t.size:=by
 have h:=Ty.map_size (f:=DY) (m:=1) (qg _) ?_ t
 .unfold Cu
  omega
 .intro t u hf
  have:=t.size_pos;grind[DY,Ty.size_leaf]
def O3 (l:List Int)(t:Ty):Prop:=Ty.all (fun u=>u.kind=3/\u.home=99->0<=u.id/\900+u.id∈l) t
theorem ZbT {l:List Int}{n:Nat}(hl:∀i∈l,i<n)(t:Ty):tyS 0 t->O3 l t->tyS n (Cu t)/\EV l (Cu t):=by
 induction t using Ty.ind with
 |h t ih=>
  intro h1 h2;by_cases hk:t.kind=3/\t.home=99
  .have hf:DY t=some (.mk 1 [] (900+t.id) 0 []):=by grind [DY]
   obtain⟨h3,h4⟩:=Ty.all.one h2 hk;have h5:=hl _ h4;unfold Cu;rw[Ty.map_some hf];obtain⟨i,hi⟩:∃i:Nat,900+t.id=i:=⟨(900+t.id).toNat,oz⟩;rw[hi]at h4 h5 |-;exact⟨HD oz,Ty.all_iff.2 ⟨fun _=>h4,fun x hx=>by cases hx⟩⟩
  .have hf:DY t=none:=by grind [DY]
   have hk1:t.kind≠1:=fun hk=>by
    have:=(h1.one.1 hk);omega
   unfold Cu;rw[Ty.map_none hf];refine⟨Hd.2 ⟨(h1.one.noVar hk1).len sy,?_⟩,Ty.all_iff.2 ⟨fun h=>absurd h hk1,?_⟩⟩
   .intro x hx
    obtain⟨y,hy,rfl⟩:=qI.1 (show x∈t.args.map (Ty.map DY)from hx);exact(ih y hy (h1.arg hy) (Ty.all.arg h2 hy)).1
   .intro x hx
    obtain⟨y,hy,rfl⟩:=qI.1 (show x∈t.args.map (Ty.map DY)from hx);exact(ih y hy (h1.arg hy) (Ty.all.arg h2 hy)).2
def leafIn (k:Int)(l:List Ty)(t:Ty):Prop:=Ty.all (fun u=>u.kind=k->u.args=[]->u∈l) t
theorem leafIn.mono {k:Int}{l m:List Ty}(h:∀x∈l,x∈m){t:Ty}(ht:leafIn k l t):leafIn k m t:=Ty.all.mono (fun _ h1 h2 h3=>h _ (h1 h2 h3)) t ht
end Go.Vs
namespace Go.Vs.Tryz
open Go Go.Vs
variable {A:Ag}
theorem Z7 (l m:List Ty)(hl:l.length<=687194767360)(ih:∀x∈l,∀b,∃r,J9 r/\(K A).call 52 [tyV x,tyV b] []=some r):∃r,J9 r/\(K A).call 107 [tysV l,tysV m] []=some r:=by
 refine fnE v107 ?_;unfold v107;by_cases hn:l.length=m.length
 .simp (disch:=try exact zd) [hn]
  refine Am (fun i s=>s=⟨[(0,tysV l),(1,tysV m),(5,intV i)],[]⟩) l.length sy ?_ ?_
  .rintro i s hi rfl
   obtain⟨x,hx⟩:=Ab hi;obtain⟨y,hy⟩:=Ab (l:=m) (i:=i) oz;obtain⟨_,⟨b,rfl⟩,hc⟩:=ih x (qc hx) y;unfold H2;cases b with
   |true=>simp(disch:=try exact zd) [hi,hx,hy,hc,-getElem?_pos]
   |false=>
    simp(disch:=try exact zd) [hi,hx,hy,hc,-getElem?_pos];exact⟨false,rfl⟩
  .rintro s rfl
   unfold H2;simp(disch:=try exact zd);exact⟨true,rfl⟩
 .have hn':¬(l.length:Int)=m.length:=oz
  simp(disch:=try exact zd) [hn,hn'];exact⟨false,rfl⟩
theorem Td:∀(n:Nat)(a b:Ty),a.size<=n->n<=687194767360->∃r,J9 r/\(K A).call 52 [tyV a,tyV b] []=some r:=by
 intro n
 induction n with
 |zero=>
  intro a b ha;have:=a.size_pos;omega
 |succ n ih=>
  intro a b ha hn;have hal:=a.args_lt;obtain⟨_,⟨v,rfl⟩,hc⟩:=Z7 (A:=A) a.args b.args oz (fun x hx b=>ih x b (by have:=Ty.arg_lt hx;omega) oz);refine fnE v52 ?_;unfold v52;by_cases h1:a.kind=b.kind
  .by_cases h2:a.name=b.name
   .by_cases h3:a.id=b.id
    .by_cases h4:a.home=b.home
     .simp (disch:=try exact zd) [h1,h2,h3,h4,hc]
      exact⟨v,rfl⟩
     .simp (disch:=try exact zd) [h1,h2,h3,h4,hc]
      exact⟨false,rfl⟩
    .simp (disch:=try exact zd) [h1,h2,h3,hc]
     exact⟨false,rfl⟩
   .simp (disch:=try exact zd) [h1,h2,hc]
    exact⟨false,rfl⟩
  .simp (disch:=try exact zd) [h1,hc]
   exact⟨false,rfl⟩
def ZiI (n m:Nat)(r:V×List Obj):Prop:=∃out:List Ty,n<=out.length/\out.length<=m/\(∀x∈out,x.size<=687194767360)/\r=(.sc (.arr 0 out.length),[.arr 5 (wr (Ty.rows out)) 0])
def ZiB (m:Nat)(r:V×List Obj):Prop:=∃ids:List Int,ids.length<=m/\r=(CI ids,[])
variable {A:Ag}
def TyP (r:V×List Obj):Prop:=∃t:Ty,r=(tyV t,[])
def Zii (r:V×List Obj):Prop:=∃(c:Int)(t:Ty),r=(schV c t,[])
theorem Hw {m:Nat}:∀{l:List Ty},(∀x∈l,x.size<=m)->(l.map Ty.size).sum<=l.length*m
 |[],_=>by simp
 |a::r,h=>by
  have h1:=h a sy;have h2:=Hw (l:=r) fun x hx=>h x (by simp[hx]);simp only[qu,qT,qJ,Nat.succ_mul];omega
def Zis (L:List Int)(m:Nat)(r:V×List Obj):Prop:=∃t J,t.size<=m/\J<=L.length/\r=(tyV t,[Ap L J])
def Zib (L:List Int)(ds:List DataD)(ls:List Ty)(dd:DataD)(d i:Nat)(s:St):Prop:=∃tys J,tys.length=i/\(∀x∈tys,x.size<=5 ^ d)/\J<=L.length/\
 s=⟨[(0,.sc (.ptr 0 0)),(1,Ax ds),(2,tysV ls),(3,intV (d+1)),(8,.sc (.ptr 64 0)),(10,.sc (.ptr 3392 0)),(11,.sc (.arr 3521 i)),(12,intV i)],
  [(0,some (Ap L J)),(64,some (.box [zi,zs,zi,zi,.nil])),(3392,some (.box (wc (A3 dd)))),(3521,some (.arr 5 (wr (Ty.rows tys)) 0))]⟩
end Go.Vs.Tryz
