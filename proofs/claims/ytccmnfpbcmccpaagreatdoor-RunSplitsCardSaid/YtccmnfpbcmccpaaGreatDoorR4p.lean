/- Chapters 4 and 11, walked: children. -/
import Derived.Test.YtccmnfpbcmccpaaGreatDoorR0p
import Derived.Test.YtccmnfpbcmccpaaGreatDoorM6p
set_option linter.unusedSimpArgs false
set_option linter.unusedVariables false
set_option linter.deprecated false
set_option maxHeartbeats 2000000
set_option maxRecDepth 100000
namespace Go.Vs.Tryz
open Go Go.Vs
def skip (f:Nat):Bool:=f==11||f==25||f==81
def T2:FuncId->Option VFun:=fun f=>bif skip f then none else T f
theorem ZdY:∀f vf,T2 f=some vf->mFun Go.Proofs.Tryz.prog f vf=true:=by
 intro f vf h;unfold T2 at h;cases hs:skip f with
 |true=>rw[hs]at h;cases h
 |false=>rw[hs]at h;exact T_ok f vf h
def Kv (f:Nat):Nat:=bif f==223 then 14 else 1
theorem ZeS (f:Nat):0<Kv f:=by
 unfold Kv;cases f==223<;>decide
noncomputable def X1:Af:=fun f args objs=>match objs with
 |_::_=>lim Tc (fun _ _ _=>none) gl0 f args objs
 |[]=>match args with
  |[.sc (.c (.str l))]=>bif f==284&&Nat.ble l.length 281474976710656 then some (.sc (.c (.str l)),[]) else none
  |[.sc (.c (.sl []))]=>bif f==149 then some (.sc (.full []),[]) else bif FN f then some (.sc (.arr 0 0),[.arr (Kv f) [] 0]) else none
  |_=>lim Tc (fun _ _ _=>none) gl0 f args objs
noncomputable def X2 (A:Af):Af:=fun f args objs=>bif skip f then A f args objs else X1 f args objs
theorem Qj {f:FuncId}{args:List V}{objs:List Obj}{rv:V}{objs':List Obj}(h:lim Tc (fun _ _ _=>none) gl0 f args objs=some (rv,objs')):FnOk Go.Proofs.Tryz.prog gl0 f args objs rv objs':=by
 obtain⟨n,h⟩:=JL h;exact LR follows SE TV n h
theorem Zab {A:Af}(hA:∀f args objs rv objs',skip f=true->A f args objs=some (rv,objs')->FnOk Go.Proofs.Tryz.prog gl0 f args objs rv objs'):
 ∀(f:FuncId) (args:List V) (objs:List Obj) (rv:V) (objs':List Obj),X2 A f args objs=some (rv,objs')->FnOk Go.Proofs.Tryz.prog gl0 f args objs rv objs':=by
 intro f args objs rv objs' h;unfold X2 at h;cases hs:skip f with
 |true=>rw[hs]at h;exact hA _ _ _ _ _ hs h
 |false=>
  rw[hs]at h;simp only[cond_false]at h;unfold X1 at h;split at h
  .exact Qj h
  .split at h
   .rename_i l
    cases hc:(f==284&&Nat.ble l.length 281474976710656)with
    |false=>rw[hc]at h;cases h
    |true=>
     rw[hc]at h;simp only[cond_true,qd,qh]at h;simp only[qe,beq_iff_eq]at hc;obtain⟨rfl,rfl⟩:=h;obtain⟨rfl,hl⟩:=hc;exact Ux (qm hl)
   .cases h140:f == 149 with
    |true=>
     rw[h140]at h;simp only[cond_true,qd,qh]at h;obtain⟨rfl,rfl⟩:=h;have:f=149:=(by simpa using h140);subst this;exact Lb rfl
    |false=>
     rw[h140]at h;simp only[cond_false]at h;cases hc:FN f with
     |false=>rw[hc]at h;cases h
     |true=>
      rw[hc]at h;simp only[cond_true,qd,qh]at h;obtain⟨rfl,rfl⟩:=h;exact(Lb hc).owned (ZeS f)
   .exact Qj h
noncomputable def K (A:Af):Ctx:=⟨lim T2 (X2 A) gl0,gl0⟩
noncomputable def Kc:Ctx:=⟨lim Tc (fun _ _ _=>none) gl0,gl0⟩
@[simp] theorem K_gl {A:Af}:(K A).gl=gl0:=rfl
@[simp] theorem Kc_gl:Kc.gl=gl0:=rfl
theorem K_ok {A:Af}(hA:∀f args objs rv objs',skip f=true->A f args objs=some (rv,objs')->FnOk Go.Proofs.Tryz.prog gl0 f args objs rv objs')
 {f:FuncId}{args:List V}{objs:List Obj}{rv:V}{objs':List Obj}(h:(K A).call f args objs=some (rv,objs')):FnOk Go.Proofs.Tryz.prog gl0 f args objs rv objs':=by
 obtain⟨n,h⟩:=JL h;exact LR follows ZdY (Zab hA) n h
variable {A:Af}
theorem Ah {f:FuncId}{vf:VFun}{args:List V}{objs:List Obj}{r:V×List Obj}(hT:T2 f=some vf)(hn:args.length=vf.nparams)(ho:objs.length<=64)
 (h:wp (K A) vf.body (C8 vf.keep objs.length vf.results r) ⟨A1 0 args,A1 0 (objs.map some)⟩):(K A).call f args objs=some r:=JI hT hn ho h
theorem fnO {f:FuncId}{args:List V}{objs:List Obj}{r:V×List Obj}(vf:VFun)(h:wp (K A) vf.body (C8 vf.keep objs.length vf.results r) ⟨A1 0 args,A1 0 (objs.map some)⟩)(hT:T2 f=some vf:=by kernel_rfl)(hn:args.length=vf.nparams:=by rfl)(ho:objs.length<=64:=by simp):(K A).call f args objs=some r:=Ah hT hn ho h
theorem zd{p:Prop}(h:p:=by first|omega|(simp;done)|(simp;omega)):p:=h
theorem Oc {f:FuncId}{vf:VFun}{args:List V}{objs:List Obj}{r:V×List Obj}(hT:Tc f=some vf)(hn:args.length=vf.nparams)(ho:objs.length<=64)
 (h:wp Kc vf.body (C8 vf.keep objs.length vf.results r) ⟨A1 0 args,A1 0 (objs.map some)⟩):Kc.call f args objs=some r:=JI hT hn ho h
theorem Oi {f:FuncId}(hs:skip f=false)(hT:T2 f=none){c:List Cell}{rows:List (List Cell)}:(K A).call f [.sc (.c (.sl (c::rows)))] []=Kc.call f [.sc (.c (.sl (c::rows)))] []:=by
 have h:X2 A f [.sc (.c (.sl (c::rows)))] []=Kc.call f [.sc (.c (.sl (c::rows)))] []:=by
  unfold X2;rw[hs];rfl
 rw[<-h];cases hx:X2 A f [.sc (.c (.sl (c::rows)))] []with
 |some r=>exact HO hT hx
 |none=>
  cases hk:(K A).call f [.sc (.c (.sl (c::rows)))] []with
  |none=>rfl
  |some r=>
   obtain⟨n,hn⟩:=JL hk;cases n with
   |zero=>cases hn
   |succ n=>
    simp only[Bg,hT]at hn;rw[hx]at hn;cases hn
theorem Zbt:(K A).call 149 [.sc (.c (.sl []))] []=some (.sc (.full []),[]):=by
 refine HO (by kernel_rfl) ?_;simp only[X2,X1,show skip 149=false from rfl,cond_false,show(149==149)=true from rfl,cond_true]
theorem SK {f:FuncId}(hs:skip f=false)(hT:T2 f=none)(h140:(f==149)=false)(hf:FN f=true):(K A).call f [.sc (.c (.sl []))] []=some (.sc (.arr 0 0),[.arr (Kv f) [] 0]):=by
 refine HO hT ?_;simp only[X2,X1,hs,cond_false,h140,hf,cond_true]
theorem I8 (e:Exp)(h:e.kids.length+e.arms.length<=687194767360):(K A).call 46 [.ag (wc e.row)] []=some (.sc (.arr 0 e.children.length),[.arr 11 (wr (Exp.rows e.children)) 0]):=by
 refine Ah (vf:=v46) (by kernel_rfl) rfl (by decide) ?_;unfold v46;simp(disch:=try exact zd);refine Ap (fun i=>⟨[(1,.sc (.ptr 64 0)),(3,.sc (.arr 320 (e.kids.length+i))),(4,.sc (.c (.int .i64 i)))],
  [(64,some (.box (wc e.row))),(320,some (.arr 11 (wr (Exp.rows (e.kids++(e.arms.map (·.2)).take i))) 0))]⟩) e.arms.length ?_ ?_ ?_
 .simp
 .intro i hi
  obtain⟨x,hx⟩:=Ae hi;have hx':(e.arms.map (·.2))[i]?=some x.2:=by simp[hx]
  unfold MW;simp(disch:=try exact zd) [hi,hx,Bh hx',qbc,-getElem?_pos]
 .unfold MW
  have ht:(e.arms.map (·.2)).take e.arms.length=e.arms.map (·.2):=qj (by simp);simp(disch:=try exact zd) [Exp.children,ht]
variable {A:Af}
abbrev AM (l:List Str):V:=.sc (.c (.sl (Aq l)))
abbrev strV (s:Str):V:=.sc (.c (.str s))
abbrev intV (n:Int):V:=.sc (.c (.int .i64 n))
abbrev Ac (b:Bool):V:=.sc (.c (.bool b))
abbrev expV (e:Exp):V:=.ag (wc e.row)
@[simp] theorem wc_strRow (s:Str):wc (E5 s)=[.c (.str s)]:=rfl
@[simp] theorem wc_intRow (n:Int):wc (Fs n)=[.c (.int .i64 n)]:=rfl
def Ba (l:List Str)(s:Str):Nat:=l.findIdx (· == s)
theorem NM {l:List Str}{s:Str}{i:Nat}(h:i<Ba l s):∃x,l[i]?=some x/\¬x=s:=by
 have hlt:i<l.length:=qaf h List.findIdx_le_length;refine⟨l[i],qi hlt,?_⟩;have:=List.not_of_lt_findIdx h;simpa using this
theorem Gd {l:List Str}{s:Str}(h:Ba l s<l.length):l[Ba l s]?=some s:=by
 have h1:=List.findIdx_getElem (w:=h);rw[qi h];exact congrArg some (beq_iff_eq.1 h1)
theorem Fj {l:List Str}{s:Str}:Ba l s<l.length↔s∈l:=by
 unfold Ba;rw[List.findIdx_lt_length];simp
theorem QS (l:List Str)(s:Str):Ba l s<=l.length:=List.findIdx_le_length
theorem Xk (l:List Str)(s:Str)(h:l.length<=1649267441664):(K A).call 239 [AM l,strV s] []=some (intV (if s∈l then (Ba l s:Int) else -1),[]):=by
 refine Ah (vf:=v239) (by kernel_rfl) rfl (by decide) ?_;unfold v239;have hp:=QS l s;simp(disch:=try exact zd);refine Ap (fun i=>⟨[(0,AM l),(1,strV s),(7,intV l.length),(8,intV i)],[]⟩) (Ba l s) ?_ ?_ ?_
 .simp
 .intro i hi
  obtain⟨x,hx,hne⟩:=NM hi;have hlt:i<l.length:=by omega
  have hne':¬s=x:=fun h=>hne h.symm;unfold L4;simp(disch:=try exact zd) [hx,hne',hlt,-getElem?_pos]
 .unfold L4
  by_cases hm:Ba l s<l.length
  .have hx:=Gd hm
   simp(disch:=try exact zd) [hx,hm,Fj.1 hm,-getElem?_pos]
  .have hn:s∉l:=fun h=>hm (Fj.2 h)
   simp(disch:=try exact zd) [hm,hn,-getElem?_pos]
theorem EH (l:List Str)(s:Str)(h:l.length<=1649267441664):(K A).call 221 [AM l,strV s] []=some (Ac (decide (s∈l)),[]):=by
 refine Ah (vf:=v221) (by kernel_rfl) rfl (by decide) ?_;unfold v221;have:=Xk (A:=A) l s h;simp[this];by_cases hn:s∈l<;>simp[hn]
theorem few8 (l:List Int):(K A).call 12 [.sc (.c (.sl (l.map Fs)))] []=some (Ac (decide (l.length<=60)),[]):=by
 refine Ah (vf:=v12) (by kernel_rfl) rfl (by decide) ?_;unfold v12;simp;omega
def B5:List Str->List Str->Nat
 |a::l,b::m=>if a=b then B5 l m+1 else 0
 |_,_=>0
theorem QA:∀{l m:List Str}{i:Nat},i<B5 l m->∃x,l[i]?=some x/\m[i]?=some x
 |[],_,_,h=>by simp[B5]at h
 |_::_,[],_,h=>by simp[B5]at h
 |a::l,b::m,i,h=>by
  simp only[B5]at h;split at h
  .rename_i hab
   subst hab;cases i with
   |zero=>exact⟨a,rfl,rfl⟩
   |succ i=>simpa using QA (l:=l) (m:=m) (i:=i) (by omega)
  .omega
theorem Qf:∀(l m:List Str),B5 l m<=l.length
 |[],_=>by simp[B5]
 |_::_,[]=>by simp[B5]
 |a::l,b::m=>by
  simp only[B5];split
  .have:=Qf l m
   simp only[qG];omega
  .simp
theorem Ri:∀{l m:List Str},l.length=m.length->B5 l m<l.length->∃x y,l[B5 l m]?=some x/\m[B5 l m]?=some y/\x≠y
 |[],_,_,h=>by simp at h
 |_::_,[],h,_=>by simp at h
 |a::l,b::m,h,h2=>by
  simp only[B5]at h2 |-;split
  .rename_i hab
   rw[if_pos hab]at h2;simpa using Ri (l:=l) (m:=m) (by simpa using h) (by simpa using h2)
  .rename_i hab
   exact⟨a,b,rfl,rfl,hab⟩
theorem LN:∀{l m:List Str},l.length=m.length->(B5 l m=l.length↔l=m)
 |[],[],_=>by simp[B5]
 |[],_::_,h=>by simp at h
 |_::_,[],h=>by simp at h
 |a::l,b::m,h=>by
  simp only[B5];split
  .rename_i hab
   have:=LN (l:=l) (m:=m) (by simpa using h);simp[hab,this]
  .rename_i hab
   simp[hab]
variable {A:Af}
theorem Zd7 {l:List Exp}(h:l≠[]):∃c rows,Exp.rows l=c::rows:=by
 cases l with
 |nil=>exact absurd rfl h
 |cons e r=>exact⟨e.row,Exp.rows r,by rw[Exp.rows]⟩
theorem Ra (l:List Exp)(h:l≠[])(hl:l.length<=687194767360):(K A).call 149 [.sc (.c (.sl (Exp.rows l)))] []=some (.sc (.arr 0 l.length),[.arr 11 (wr (Exp.rows l)) 0]):=by
 obtain⟨c,rows,hr⟩:=Zd7 h;have hlen:rows.length+1=l.length:=by
  have:=Exp.rows_len l;rw[hr]at this;simpa using this
 have hok:AW 11 (wr (c::rows))=true:=hr▸okRows_exp l;rw[hr,Oi (by kernel_rfl) (by kernel_rfl)];refine Oc (vf:=v149) (by kernel_rfl) rfl (by decide) ?_;unfold v149;rw[wr_cons]at hok;simp(disch:=try exact zd) [hok];omega
theorem Dz (e:Exp)(h1:e.kids=[])(h2:e.arms=[]):(K A).call 99 [expV e] []=some (.sc (.full []),[]):=by
 refine Ah (vf:=v99) (by kernel_rfl) rfl (by decide) ?_;have hc:=Zbt (A:=A);have hn:Exp.rows []=[]:=by rw[Exp.rows]
 unfold v99;simp[h1,hn,hc];refine Ap (fun i=>⟨[(3,.sc (.full [])),(10,.sc (.c (.sl (Exp.armRows e.arms)))),(11,intV e.arms.length),(12,intV i)],[(64,some (.box (wc e.row)))]⟩) 0 ?_ ?_ ?_
 .simp
 .intro i hi;omega
 .unfold Je
  simp[h2]
theorem B7 (e:Exp)(h:e.kids≠[])(hl:e.weight<=687194767360):(K A).call 99 [expV e] []=some (.sc (.arr 0 e.children.length),[.arr 11 (wr (Exp.rows e.children)) 0]):=by
 refine Ah (vf:=v99) (by kernel_rfl) rfl (by decide) ?_;have hk:=e.children_le;rw[e.children_len]at hk;have hc:=Ra (A:=A) e.kids h (by omega);unfold v99;simp[hc];refine Ap (fun i=>⟨[(3,.sc (.arr 352 (e.kids.length+i))),(10,.sc (.c (.sl (Exp.armRows e.arms)))),(11,intV e.arms.length),(12,intV i)],
  [(64,some (.box (wc e.row))),(352,some (.arr 11 (wr (Exp.rows (e.kids++(e.arms.map (·.2)).take i))) 0))]⟩) e.arms.length ?_ ?_ ?_
 .simp
 .intro i hi
  obtain⟨x,hx⟩:=Ae hi;have hx':(e.arms.map (·.2))[i]?=some x.2:=by simp[hx]
  unfold Je;simp(disch:=try exact zd) [hi,hx,Bh hx',qbc,-getElem?_pos]
 .unfold Je
  have ht:(e.arms.map (·.2)).take e.arms.length=e.arms.map (·.2):=qj (by simp);simp(disch:=try exact zd) [Exp.children,ht]
abbrev Ej (i:Int):V:=.sc (.c (.sl [[.int .i64 i]]))
theorem at89 (e x:Exp)(i:Nat)(h:e.kids≠[])(hx:e.children[i]?=some x)(hl:e.weight<=687194767360):(K A).call 237 [expV e,Ej i] []=some (.tu [expV x,Ac true],[]):=by
 refine Ah (vf:=v237) (by kernel_rfl) rfl (by decide) ?_;have hk:=e.children_le;have hi:i<e.children.length:=(qf.1 hx).1;have hi':¬(e.kids.length:Int)+e.arms.length<=i:=by rw[e.children_len]at hi;omega
 have hi2:¬(i:Int)<0:=by omega
 have hc:=B7 (A:=A) e h hl;rw[e.children_len]at hk hi;unfold v237;simp;refine Ap (fun j=>match j with
  |0=>⟨[(2,.sc (.ptr 64 0)),(4,.sc (.ptr 128 0)),(9,Ej i),(10,intV 1),(11,intV 0)],[(64,some (.box (wc e.row))),(128,some (.box [zi,zi,zs,zi,.nil,.nil,zi,zs,zi,zi,.nil]))]⟩
  |_=>⟨[(2,.sc (.ptr 64 0)),(4,.sc (.ptr 128 0)),(9,Ej i),(10,intV 1),(11,intV 1)],[(64,some (.box (wc x.row))),(128,some (.box [zi,zi,zs,zi,.nil,.nil,zi,zs,zi,zi,.nil]))]⟩) 1 ?_ ?_ ?_
 .simp
 .intro j hj
  obtain rfl:j=0:=by omega
  unfold NW;simp(disch:=try exact zd) [hc,hi',hi2,hx,-getElem?_pos,qQ]
 .unfold NW
  simp(disch:=try exact zd)
theorem Wf (e:Exp)(i:Nat)(h:e.wf1)(hi:i<e.children.length)(hl:e.weight<=687194767360):(K A).call 255 [expV e,intV i] []=some (AM (e.bound i),[]):=by
 refine Ah (vf:=v255) (by kernel_rfl) rfl (by decide) ?_;have hk:=e.children_le;have hn:Aq []=[]:=rfl;have h1:∀s:Str,Aq [s]=[[.str s]]:=fun _=>rfl;rw[e.children_len]at hk hi;unfold v255;by_cases h4:e.kind=4
 .simp[h4,Exp.bound,h1]
 .by_cases h7:e.kind=7
  .simp[h7,Exp.bound,h1]
  .by_cases h6:e.kind=6
   .by_cases hi1:i=1
    .simp[h6,hi1,Exp.bound,h1]
    .have hi1':¬(i:Int)=1:=by omega
     simp[h6,hi1,hi1',Exp.bound,hn]
   .by_cases h8:e.kind=8
    .have hk1:=h.1 h8
     by_cases hi1:0<i
     .obtain ⟨x,hx⟩:=Ae (l:=e.arms) (i:=i-1) (by omega)
      have hi2:(1:Int)<=i:=(by omega);have hw:IntKind.i64.wrap ((i:Int)-1)=((i-1:Nat):Int):=(by rw[H1 _ (by omega)];omega);simp(disch:=try exact zd) [h8,hi1,hi2,hk1,hw,hx,Exp.bound,-getElem?_pos]
     .have hi2:¬(1:Int)<=i:=by omega
      simp[h8,hi1,hi2,hk1,Exp.bound,hn]
    .simp[h4,h7,h6,h8,Exp.bound,hn]
theorem Zat (s:Str):(K A).call 147 [.sc (.c (.sl [])),.sc (.clo 257 [true] [[.ptr 0 0]])] [.box [.c (.str s)]]=some (intV (-1),[.box [.c (.str s)]]):=by
 refine fnO v147 ?_;unfold v147;simp;refine Ap (fun i=>⟨[(0,.sc (.c (.sl []))),(1,.sc (.clo 257 [true] [[.ptr 0 0]])),(7,intV 0),(8,intV i)],[(0,some (.box [.c (.str s)]))]⟩) 0 ?_ ?_ ?_
 .simp
 .intro i hi;omega
 .unfold Iq
  simp
theorem Zfp (s:Str):(K A).call 256 [.sc (.arr 0 0),.sc (.clo 257 [true] [[.ptr 1 0]])] [.arr 1 [] 0,.box [.c (.str s)]]=some (.sc (.arr 0 0),[.arr 1 [] 0,.box [.c (.str s)]]):=by
 refine fnO v256 ?_;have h:=Zat (A:=A) s;unfold v256;simp[h]
variable {A:Af}
theorem ZcG {e:Exp}{i:Nat}(h:¬(e.kind=8/\0<i)):e.bound i=[]\/∃s,e.bound i=[s]:=by
 unfold Exp.bound;rw[if_neg h];split
 .exact .inr ⟨_,rfl⟩
 .exact .inl rfl
theorem Ta {e:Exp}{i:Nat}(h:e.wf1)(hi:i<e.children.length):e.kids≠[]:=by
 intro hk;rw[e.children_len,hk]at hi;by_cases h8:e.kind=8
 .have:=h.1 h8
  rw[hk]at this;simp at this
 .rw [h.2.1 h8] at hi
  simp at hi
theorem WA (e x:Exp)(i:Nat)(h:e.wf1)(hb:¬(e.kind=8/\0<i))(hx:e.children[i]?=some x)(hl:e.weight<=687194767360):(K A).call 238 [expV e,Ej i] []=some (AM (e.bound i),[]):=by
 refine Ah (vf:=v238) (by kernel_rfl) rfl (by decide) ?_;have hi:i<e.children.length:=(qf.1 hx).1;have hk:=Ta h hi;have h51:=B7 (A:=A) e hk hl;have h89:=at89 (A:=A) e x i hk hx hl;have h135:=Wf (A:=A) e i h hi hl;have hn:Aq []=[]:=rfl;rw[e.children_len]at hi;have hle:=e.children_le;rw[e.children_len]at hle;unfold v238;simp(disch:=try exact zd) [h89];refine Ap (fun j=>match j with
  |0=>⟨[(2,.sc (.ptr 64 0)),(7,.sc (.arr 961 0)),(20,Ej i),(21,intV 1),(22,intV 0)],[(64,some (.box (wc e.row))),(961,some (.arr 1 [] 0))]⟩
  |_=>⟨[(2,.sc (.ptr 64 0)),(7,.sc (.arr 961 (e.bound i).length)),(20,Ej i),(21,intV 1),(22,intV 1)],[(64,some (.box (wc x.row))),(961,some (.arr 1 (wr (Aq (e.bound i))) 0))]⟩) 1 ?_ ?_ ?_
 .simp
 .intro j hj
  obtain rfl:j=0:=by omega
  unfold LM;simp(disch:=try exact zd) [h135,-getElem?_pos,qQ];rcases ZcG hb with h0|⟨s,h0⟩
  .rw [h0]
   refine Ap (fun j=>⟨[(2,.sc (.ptr 64 0)),(7,.sc (.arr 961 0)),(20,Ej i),(21,intV 1),(22,intV 0),(9,intV i),(28,AM []),(29,intV 0),(30,intV j)],[(64,some (.box (wc e.row))),(961,some (.arr 1 [] 0))]⟩) 0 ?_ ?_ ?_
   .simp
   .intro j hj;omega
   .unfold HZ
    simp(disch:=try exact zd) [h51,hx,hn,-getElem?_pos]
  .rw [h0]
   have h1:Aq [s]=[[.str s]]:=rfl;have h136:=Zfp (A:=A) s;refine Ap (fun j=>match j with
    |0=>⟨[(2,.sc (.ptr 64 0)),(7,.sc (.arr 961 0)),(20,Ej i),(21,intV 1),(22,intV 0),(9,intV i),(28,AM [s]),(29,intV 1),(30,intV 0)],[(64,some (.box (wc e.row))),(961,some (.arr 1 [] 0))]⟩
    |_=>⟨[(2,.sc (.ptr 64 0)),(7,.sc (.arr 961 1)),(20,Ej i),(21,intV 1),(22,intV 0),(9,intV i),(28,AM [s]),(29,intV 1),(30,intV 1)],[(64,some (.box (wc e.row))),(961,some (.arr 1 (wr (Aq [s])) 0))]⟩) 1 ?_ ?_ ?_
   .simp
   .intro j hj
    obtain rfl:j=0:=(by omega);unfold HZ;simp(disch:=try exact zd) [h136,h1,-getElem?_pos,qQ]
   .unfold HZ
    simp(disch:=try exact zd) [h51,hx,-getElem?_pos]
 .unfold LM
  simp(disch:=try exact zd)
theorem Ht (e:Exp)(i:Nat)(h:e.wf1)(hi:i<e.children.length)(hl:e.weight<=687194767360):(K A).call 220 [expV e,intV i] []=some (AM (e.bound i),[]):=by
 refine Ah (vf:=v220) (by kernel_rfl) rfl (by decide) ?_;obtain⟨x,hx⟩:=Ae hi;have hk:=Ta h hi;have h89:=at89 (A:=A) e x i hk hx hl;rw[e.children_len]at hi;have hle:=e.children_le;rw[e.children_len]at hle;unfold v220;by_cases hb:e.kind=8/\0<i
 .have hk1:=h.1 hb.1
  obtain⟨y,hy⟩:=Ae (l:=e.arms) (i:=i-1) (by omega);have hi2:(1:Int)<=i:=by omega
  have hw:IntKind.i64.wrap ((i:Int)-1)=((i-1:Nat):Int):=by rw[H1 _ (by omega)];omega
  simp(disch:=try exact zd) [h89,hb,hi2,hk1,hw,hy,Exp.bound,-getElem?_pos]
 .have h90:=WA (A:=A) e x i h hb hx hl
  by_cases h8:e.kind=8
  .have hk1:=h.1 h8
   have hi2:¬(1:Int)<=i:=(by omega);simp(disch:=try exact zd) [h89,h8,hi2,hk1,h90,-getElem?_pos]
  .simp(disch:=try exact zd) [h89,h8,h90,-getElem?_pos]
variable {A:Af}
def CN (hidden out:List Str)(s:Str):List Str:=if s∈hidden\/s∈out then out else out++[s]
def Fw (e:Exp)(out:List Str)(p:List Str×Nat):List Str:=p.1.foldl (CN (e.bound p.2)) out
def Ag (e:Exp):List Str:=e.fold fun e l=>if e.kind=1 then [e.name] else l.zipIdx.foldl (Fw e) []
theorem EW (e:Exp):Ag e=if e.kind=1 then [e.name] else (e.children.map Ag).zipIdx.foldl (Fw e) []:=Exp.fold_eq _ e
theorem Xg (h out:List Str)(s:Str):(CN h out s).length<=out.length+1:=by
 unfold CN;split<;>simp
theorem ON (h:List Str):∀(l out:List Str),(l.foldl (CN h) out).length<=out.length+l.length
 |[],out=>by simp
 |s::l,out=>by
  have h1:=Xg h out s;have h2:=ON h l (CN h out s);simp only[qa8,qG];omega
theorem NB (e:Exp):∀(l:List (List Str×Nat))(out:List Str),(l.foldl (Fw e) out).length<=out.length+(l.map fun p=>p.1.length).sum
 |[],out=>by simp
 |p::l,out=>by
  have h1:(Fw e out p).length<=out.length+p.1.length:=ON _ _ _;have h2:=NB e l (Fw e out p);simp only[qa8,qu,qaa];omega
theorem DS {l:List Nat}{i:Nat}:(l.take i).sum<=l.sum:=by
 have:l.sum=(l.take i).sum+(l.drop i).sum:=by rw[<-qba,qaW]
 omega
theorem SC (l:List (List Str)):(l.zipIdx.map fun p=>p.1.length)=l.map List.length:=by
 rw[show(fun p:List Str×Nat=>p.1.length)=List.length∘Prod.fst from rfl,<-qao,List.zipIdx_map_fst]
theorem FJ {α:Type}{f g:α->Nat}:∀{l:List α},(∀x∈l,f x<=g x)->(l.map f).sum<=(l.map g).sum
 |[],_=>by simp
 |a::l,h=>by
  have h1:=h a (by simp);have h2:=FJ (l:=l) fun x hx=>h x (by simp[hx]);simp only[qu,qaa];omega
theorem G2 (e:Exp):(Ag e).length<=e.weight:=by
 induction e using Exp.ind with
 |h e ih=>
  rw[EW];split
  .exact e.weight_pos
  .have h1:=NB e (e.children.map Ag).zipIdx []
   rw[SC,qao]at h1;have h2:(e.children.map (List.length∘Ag)).sum<=(e.children.map Exp.weight).sum:=FJ ih;rw[e.weight_eq];simp only[qV]at h1;omega
def outP (e:Exp)(i:Nat):List Str:=((e.children.map Ag).zipIdx.take i).foldl (Fw e) []
theorem Yo (e:Exp)(i:Nat):(outP e i).length<=e.weight:=by
 have h1:=NB e ((e.children.map Ag).zipIdx.take i) [];have h2:(((e.children.map Ag).zipIdx.take i).map fun p=>p.1.length).sum<=(e.children.map Exp.weight).sum:=by
  rw[qaE,SC,qao];exact qt DS (FJ fun x _=>G2 x)
 unfold outP;rw[e.weight_eq];simp only[qV]at h1;omega
theorem My {e x:Exp}{i:Nat}(hx:e.children[i]?=some x):outP e (i+1)=(Ag x).foldl (CN (e.bound i)) (outP e i):=by
 have h:(e.children.map Ag).zipIdx[i]?=some (Ag x,i):=by simp[qaB,hx]
 unfold outP;rw[Bh h,qbe];rfl
theorem K1 (e:Exp):outP e e.children.length=(e.children.map Ag).zipIdx.foldl (Fw e) []:=by
 unfold outP;rw[qj (by simp)]
theorem Qe (e:Exp)(hw:e.wf)(hl:e.weight<=687194767360):(K A).call 201 [expV e] []=some (AM (Ag e),[]):=by
 induction e using Exp.ind with
 |h e ih=>
 refine Ah (vf:=v201) (by kernel_rfl) rfl (by decide) ?_;have hle:=e.children_le;rw[e.children_len]at hle;have h1:∀s:Str,Aq [s]=[[.str s]]:=fun _=>rfl;have hn:Aq []=[]:=rfl;by_cases hk:e.kind=1
 .unfold v201
  simp[hk,EW,h1]
 .by_cases hkids:e.kids=[]
  .have harms:e.arms=[]:=by
    by_cases h8:e.kind=8
    .have:=hw.one.1 h8
     rw[hkids]at this;simp at this
    .exact hw.one.2.1 h8
   have hc:=Dz (A:=A) e hkids harms;have hch:e.children=[]:=(by simp[Exp.children,hkids,harms]);unfold v201;simp(disch:=try exact zd) [hk,hc];refine Ap (fun i=>⟨[(1,.sc (.ptr 64 0)),(3,.sc (.arr 641 0)),(16,.sc (.full [])),(17,intV 0),(18,intV i)],[(64,some (.box (wc e.row))),(641,some (.arr 1 [] 0))]⟩) 0 ?_ ?_ ?_
   .simp
   .intro i hi;omega
   .unfold Kt
    simp[EW,hk,hch,hn]
  .have hc:=B7 (A:=A) e hkids hl
   unfold v201;simp(disch:=try exact zd) [hk,hc];refine Ap (fun i=>⟨[(1,.sc (.ptr 64 0)),(3,.sc (.arr 641 (outP e i).length)),(16,.sc (.arr 800 e.children.length)),(17,intV e.children.length),(18,intV i)],[(64,some (.box (wc e.row))),(641,some (.arr 1 (wr (Aq (outP e i))) 0)),(800,some (.arr 11 (wr (Exp.rows e.children)) 0))]⟩) e.children.length ?_ ?_ ?_
   .simp[outP,hn]
   .intro i hi
    obtain⟨x,hx⟩:=Ae hi;have hmem:x∈e.children:=qc hx;have h19:=ih x hmem (hw.child hmem) (by have:=Exp.child_lt hmem;omega);have h52:=Ht (A:=A) e i hw.one hi hl;have hfl:=G2 x;have hol:=Yo e i;have hbl:=e.bound_le i;have hxl:=Exp.child_lt hmem;rw[e.children_len]at hi;have hi':(i:Int)<(e.kids.length:Int)+e.arms.length:=(by omega);unfold Kt;simp(disch:=try exact zd) [hi',hx,h52,h19,-getElem?_pos]
    refine Ap (fun j=>⟨[(1,.sc (.ptr 64 0)),(3,.sc (.arr 641 (((Ag x).take j).foldl (CN (e.bound i)) (outP e i)).length)),(16,.sc (.arr 800 e.children.length)),(17,intV e.children.length),(18,intV i),(6,AM (e.bound i)),(27,AM (Ag x)),(28,intV (Ag x).length),(29,intV j)],
     [(64,some (.box (wc e.row))),(641,some (.arr 1 (wr (Aq (((Ag x).take j).foldl (CN (e.bound i)) (outP e i)))) 0)),(800,some (.arr 11 (wr (Exp.rows e.children)) 0)),(1216,some (.box (wc x.row)))]⟩) (Ag x).length ?_ ?_ ?_
    .simp
    .intro j hj
     obtain⟨s,hs⟩:=Ae hj;rw[Bh hs,qbe,qa8,List.foldl_nil];have hjl:=ON (e.bound i) ((Ag x).take j) (outP e i);have hjl2:((Ag x).take j).length<=(Ag x).length:=(by simp;omega);generalize ((Ag x).take j).foldl (CN (e.bound i)) (outP e i)=out at hjl |-;have hc1:=EH (A:=A) (e.bound i) s (by omega);have hc2:=EH (A:=A) out s (by omega);unfold JG;by_cases hb:s∈e.bound i
     .simp(disch:=try exact zd) [hj,hs,hc1,hb,CN,-getElem?_pos]
     .by_cases ho:s∈out
      .simp(disch:=try exact zd) [hj,hs,hc1,hc2,hb,ho,CN,-getElem?_pos]
      .simp(disch:=try exact zd) [hj,hs,hc1,hc2,hb,ho,CN,-getElem?_pos]
    .unfold JG
     simp(disch:=try exact zd) [My hx,-getElem?_pos]
   .unfold Kt
    have he:=K1 e;rw[e.children_len]at he;simp(disch:=try exact zd) [EW,hk,he]
variable {A:Af}
def Pp (e:Exp)(bound out:List Str):List Str:=if e.kind=1/\e.name∉bound/\e.name∉out then out++[e.name] else out
def O8 (e:Exp)(bound:List Str)(out:List Str)(p:(List Str->List Str->List Str)×Nat):List Str:=p.1 (bound++e.bound p.2) out
def Wl (e:Exp):List Str->List Str->List Str:=e.fold fun e l bound out=>l.zipIdx.foldl (O8 e bound) (Pp e bound out)
def outR (e:Exp)(bound out:List Str)(i:Nat):List Str:=((e.children.map Wl).zipIdx.take i).foldl (O8 e bound) (Pp e bound out)
theorem Zr {b out:List Str}{s t:Str}:t∈CN b out s↔t∈out\/(t=s/\s∉b):=by
 grind[CN]
theorem Mk {b:List Str}:∀{l out:List Str}{t:Str},t∈l.foldl (CN b) out↔t∈out\/(t∈l/\t∉b)
 |[],out,t=>by simp
 |s::l,out,t=>by
  rw[qa8,Mk,Zr,qD];grind
variable {A:Af}
theorem Aw {f:FuncId}{vf:VFun}{args:List V}{objs:List Obj}(P:V×List Obj->Prop)(hT:T2 f=some vf)(hn:args.length=vf.nparams)(ho:objs.length<=64)
 (h:wp (K A) vf.body (BP vf.keep objs.length vf.results P) ⟨A1 0 args,A1 0 (objs.map some)⟩):∃r,P r/\(K A).call f args objs=some r:=Zfa P hT hn ho h
theorem fnE {f:FuncId}{args:List V}{objs:List Obj}{P:V×List Obj->Prop}(vf:VFun)(h:wp (K A) vf.body (BP vf.keep objs.length vf.results P) ⟨A1 0 args,A1 0 (objs.map some)⟩)(hT:T2 f=some vf:=by kernel_rfl)(hn:args.length=vf.nparams:=by rfl)(ho:objs.length<=64:=by simp):∃r,P r/\(K A).call f args objs=some r:=Aw P hT hn ho h
def Bn (l:List Int):List (List Cell):=l.map Fs
@[simp] theorem intRows_len (l:List Int):(Bn l).length=l.length:=by simp[Bn]
@[simp] theorem intRows_get (l:List Int) (i:Nat):(Bn l)[i]?=(l[i]?).map Fs:=by simp[Bn]
@[simp] theorem cut_i (n:Int):cut (Fs n) 0 1=some [.int .i64 n]:=rfl
abbrev Am (L:List Int)(I:Nat):Obj:=.box [.c (.sl (Bn L)),.c (.int .i64 I)]
abbrev Ar (ds:List DataD):V:=.sc (.c (.sl (AC ds)))
abbrev tyV (t:Ty):V:=.ag (wc t.row)
theorem LI (a m:Int)(hm:0<m)(hb:m<=687194767360):∃k:Nat,(k:Int)<m/\(K A).call 30 [intV a,intV m] []=some (intV k,[]):=by
 have h1:¬m<1:=by omega
 have h0:m≠0:=by omega
 have hlt:a.tmod m<m:=Int.tmod_lt_of_pos a (by omega);have hgt:-m<a.tmod m:=Int.lt_tmod_of_pos a (by omega);by_cases hneg:a.tmod m<0
 .refine ⟨(a.tmod m+m).toNat,by omega,?_⟩
  have hw:((a.tmod m+m).toNat:Int)=a.tmod m+m:=by omega
  rw[hw];refine Ah (vf:=v30) (by rfl) rfl (by simp) ?_;unfold v30;simp(disch:=try exact zd) [h1,h0,hneg]
 .refine ⟨(a.tmod m).toNat,by omega,?_⟩
  have hw:((a.tmod m).toNat:Int)=a.tmod m:=by omega
  rw[hw];refine Ah (vf:=v30) (by rfl) rfl (by simp) ?_;unfold v30;simp(disch:=try exact zd) [h1,h0,hneg]
theorem Bv (L:List Int)(I:Nat)(n:Int)(hI:I<=L.length)(hL:L.length<=687194767360)(hn:0<n)(hb:n<=687194767360):
 ∃k J:Nat,(k:Int)<n/\J<=L.length/\(K A).call 62 [.sc (.ptr 0 0),intV n] [Am L I]=some (intV k,[Am L J]):=by
 by_cases h:I<L.length
 .obtain ⟨a,ha⟩:=Ae h
  obtain⟨k,hk,hc⟩:=LI (A:=A) a n hn hb;refine⟨k,I+1,hk,h,?_⟩;refine Ah (vf:=v62) (by rfl) rfl (by simp) ?_;have h1:¬L.length<=I:=by omega
  unfold v62;simp(disch:=try exact zd) [h1,ha,hc,-getElem?_pos]
 .refine ⟨0,I,hn,hI,?_⟩
  refine Ah (vf:=v62) (by rfl) rfl (by simp) ?_;have h1:L.length<=I:=by omega
  unfold v62;simp_all
def B8:List Str:=[[120],[121],[122],[102],[103],[118,49],[118,50],[105,100]]
theorem R1 (L:List Int)(I:Nat)(hI:I<=L.length)(hL:L.length<=687194767360):
 ∃s J,s∈B8/\J<=L.length/\(K A).call 82 [.sc (.ptr 0 0)] [Am L I]=some (strV s,[Am L J]):=by
 obtain⟨k,J,hk,hJ,hc⟩:=Bv (A:=A) L I 8 hI hL (by omega) (by omega);obtain⟨s,hs⟩:=Ae (l:=B8) (i:=k) (by grind[B8,qG]);refine⟨s,J,qc hs,hJ,?_⟩;refine Ah (vf:=v82) (by rfl) rfl (by simp) ?_;have hr:(wr (Aq B8))[k]?=some [.c (.str s)]:=by simp[hs]
 have hw:wr (Aq B8)=[[.c (.str [120])],[.c (.str [121])],[.c (.str [122])],[.c (.str [102])],[.c (.str [103])],[.c (.str [118,49])],[.c (.str [118,50])],[.c (.str [105,100])]]:=rfl;rw[hw]at hr;unfold v82;simp(disch:=try exact zd) [hc,hr,-getElem?_pos]
theorem GU (s:Str)(l:List Ty)(hl:l.length<=687194767360):(K A).call 90 [strV s,.sc (.c (.sl (Ty.rows l)))] []=some (tyV (.mk 4 s 0 0 l),[]):=by
 refine Ah (vf:=v90) (by rfl) rfl (by simp) ?_;unfold v90;cases l with
 |nil=>
  have hn:Ty.rows []=[]:=by rfl
  simp(disch:=try exact zd) [hn,Ty.row]
 |cons t l=>
  have hn:Ty.rows (t::l)=t.row::Ty.rows l:=by rfl
  have hok:=okRows_ty (t::l);rw[hn,wr_cons]at hok;simp only[qG]at hl;simp(disch:=try exact zd) [hn,hok,Ty.row]
theorem EM:(K A).call 69 [] []=some (tyV (.mk 4 [73,110,116] 0 0 []),[]):=by
 refine Ah (vf:=v69) (by rfl) rfl (by simp) ?_;have hn:Ty.rows []=[]:=by rfl
 have h:=GU (A:=A) [73,110,116] [] (by simp);simp[hn]at h;unfold v69;simp_all
theorem H5 (a b:Ty):(K A).call 85 [tyV a,tyV b] []=some (tyV (.mk 4 [45,62] 0 0 [a,b]),[]):=by
 refine Ah (vf:=v85) (by rfl) rfl (by simp) ?_;have hn:Ty.rows [a,b]=[a.row,b.row]:=by rfl
 have h:=GU (A:=A) [45,62] [a,b] (by simp);rw[hn]at h;unfold v85;simp_all
def GI (d:DataD):Prop:=d.params.length<=4/\1<=d.cons.length/\d.cons.length<=6/\∀c∈d.cons,c.fields.length<=4
def FX (ds:List DataD):Prop:=ds.length<=100/\∀d∈ds,GI d
def ZfU (L:List Int)(r:V×List Obj):Prop:=∃t J,J<=L.length/\r=(tyV t,[Am L J])
def Zgb (L:List Int)(ds:List DataD)(dd:DataD)(d i:Nat)(s:St):Prop:=∃tys J,tys.length=i/\J<=L.length/\
 s=⟨[(0,.sc (.ptr 0 0)),(1,Ar ds),(2,.sc (.c (.sl []))),(3,intV (d+1)),(8,.sc (.ptr 64 0)),(10,.sc (.ptr 3392 0)),(11,.sc (.arr 3521 i)),(12,intV i)],
  [(0,some (Am L J)),(64,some (.box [zi,zs,zi,zi,.nil])),(3392,some (.box (wc (A8 dd)))),(3521,some (.arr 5 (wr (Ty.rows tys)) 0))]⟩
variable {A:Af}
def tz:Ty:=.mk 0 [] 0 0 []
@[simp] theorem strRows0:Aq []=[]:=rfl
@[simp] theorem rows0:Exp.rows []=[]:=by rfl
@[simp] theorem rows1 (x:Exp):Exp.rows [x]=[x.row]:=by rfl
@[simp] theorem rows2 (x y:Exp):Exp.rows [x,y]=[x.row,y.row]:=by rfl
@[simp] theorem armRows0:Exp.armRows []=[]:=by rfl
@[simp] theorem tyRows0:Ty.rows []=[]:=by rfl
def RawP (L:List Int)(B:Nat)(r:V×List Obj):Prop:=∃e J,e.wf/\e.weight<=B/\J<=L.length/\r=(expV e,[Am L J])
theorem FK (k p n m ks l t):(Exp.mk k p n m ks l t).weight=1+(l.map fun a=>a.1.vars.length).sum+((ks.map Exp.weight).sum+(l.map fun a=>a.2.weight).sum):=by
 grind[Exp.weight_eq,Exp.children,Exp.arms,Exp.kids,Function.comp_def]
def ArmI (L:List Int)(ds:List DataD)(dd:DataD)(x:Exp)(B d i:Nat)(s:St):Prop:=∃arms J,arms.length=i/\J<=L.length/\(∀a∈arms,a.2.wf/\a.2.weight<=B/\a.1.vars.length<=4)/\
 s=⟨[(0,.sc (.ptr 0 0)),(1,Ar ds),(2,intV (d+1)),(6,.sc (.ptr 64 0)),(13,.sc (.ptr 10176 0)),(14,.sc (.ptr 10752 0)),(15,intV i)],
  [(0,some (Am L J)),(64,some (.box [zi,zi,zs,zi,.nil,.nil,zi,zs,zi,zi,.nil])),(10176,some (.box (wc (A8 dd)))),(10624,some (.arr 11 [wc x.row] 0)),
    (10752,some (.box [.c (.int .i64 8),zi,zs,zi,.arr 10624 1,.arr 10822 i,zi,zs,zi,zi,.nil])),(10822,some (.arr 14 (wr (Exp.armRows arms)) 0))]⟩
def VarI (L:List Int)(ds:List DataD)(dd:DataD)(x:Exp)(arms:List (ArmH×Exp))(con:Str)(d i j:Nat)(s:St):Prop:=∃vars J,vars.length=j/\J<=L.length/\
 s=⟨[(0,.sc (.ptr 0 0)),(1,Ar ds),(2,intV (d+1)),(6,.sc (.ptr 64 0)),(13,.sc (.ptr 10176 0)),(14,.sc (.ptr 10752 0)),(15,intV i),(16,.sc (.ptr 11712 0)),(17,intV j)],
  [(0,some (Am L J)),(64,some (.box [zi,zi,zs,zi,.nil,.nil,zi,zs,zi,zi,.nil])),(10176,some (.box (wc (A8 dd)))),(10624,some (.arr 11 [wc x.row] 0)),
    (10752,some (.box [.c (.int .i64 8),zi,zs,zi,.arr 10624 1,.arr 10822 i,zi,zs,zi,zi,.nil])),(10822,some (.arr 14 (wr (Exp.armRows arms)) 0)),
    (11712,some (.box [zi,.c (.str con),.arr 11779 j,zi,zi,zs,zi,.nil,.nil,zi,zs,zi,zi,.nil])),(11779,some (.arr 1 (wr (Aq vars)) 0))]⟩
variable {A:Af}
def Q5 (ds7:List DataD)(r:V×List Obj):Prop:=∃ds,(∀d∈ds,d∈ds7)/\FX ds/\r=(Ar ds,[])
def Sh (bits:Int)(ds7:List DataD)(i:Nat)(s:St):Prop:=∃ds:List DataD,ds.length<=i+1/\(∀d∈ds,d∈ds7/\GI d)/\
 s=⟨[(0,intV bits),(3,Ar ds7),(4,.sc (.arr 257 ds.length)),(5,intV i)],[(257,some (.arr 4 (wr (AC ds)) 0))]⟩
@[simp] theorem dataRows0:AC []=[]:=rfl
@[simp] theorem dataRows1 (d:DataD):wr (AC [d])=[wc (A8 d)]:=rfl
theorem ZbU (bits:Int)(ds7:List DataD)(h7:ds7.length=7)(hg:∀d∈ds7,GI d)(h55:(K A).call 81 [] []=some (Ar ds7,[])):
 ∃r,Q5 ds7 r/\(K A).call 42 [intV bits] []=some r:=by
 refine fnE v42 ?_;obtain⟨d1,hd1⟩:=Ae (l:=ds7) (i:=1) (by omega);have hgd1:=hg d1 (qc hd1);have fin:∀s,Sh bits ds7 0 s->wp (K A) (.loop II) (Bx 0 (BN (K A) (.seq (.region [] [o 44 (.mv (tv 4)),o 2 (.mv (tv 44))] [] [2]) .ret) (BP false 0 [.tmp 2] (Q5 ds7)))) s:=by
  intro s hs;refine Ak (Sh bits ds7) 7 hs ?_ ?_
  .rintro i s hi ⟨ds,hds1,hds2,rfl⟩
   obtain⟨d,hd⟩:=Ae (l:=ds7) (i:=i) (by omega);have hgd:=hg d (qc hd);have hi2:(i:Int)<7:=(by omega);unfold II;by_cases hi1:i=1
   .subst hi1
    simp(disch:=try exact zd) [h7,hd,-getElem?_pos];exact⟨ds,by omega,hds2,by simp⟩
   .have hi1':¬(i:Int)=1:=by omega
    by_cases hb:andI .i64 (shrI .i64 bits i) 1=1
    .simp (disch:=try exact zd) [h7,hd,hi2,hi1',hb,-getElem?_pos]
     refine⟨ds++[d],by simp;omega,?_,by simp⟩;intro x hx;rcases qp.1 hx with hx|hx
     .exact hds2 x hx
     .simp only [qk] at hx
      exact hx▸⟨qc hd,hgd⟩
    .simp (disch:=try exact zd) [h7,hd,hi2,hi1',hb,-getElem?_pos]
     exact⟨ds,by omega,hds2,by simp⟩
  .rintro s ⟨ds,hds1,hds2,rfl⟩
   unfold II;simp(disch:=try exact zd) [h7,-getElem?_pos];exact⟨ds,fun d hd=>(hds2 d hd).1,⟨by omega,fun d hd=>(hds2 d hd).2⟩,rfl⟩
 unfold v42;by_cases h1:andI .i64 bits 2=0
 .by_cases h2:andI .i64 bits 64=0
  .simp (disch:=try exact zd) [h55,h1,h2,-getElem?_pos]
   exact fin _ ⟨[],by simp,by simp,by simp⟩
  .simp (disch:=try exact zd) [h55,h1,h2,h7,hd1,-getElem?_pos]
   exact fin _ ⟨[d1],by simp,by simp[hgd1,qc hd1],by simp⟩
 .simp (disch:=try exact zd) [h55,h1,h7,hd1,-getElem?_pos]
  exact fin _ ⟨[d1],by simp,by simp[hgd1,qc hd1],by simp⟩
def ZfS (L:List Int)(r:V×List Obj):Prop:=∃a b J,a.wf/\a.weight<=32 ^ 4/\b.wf/\b.weight<=32 ^ 3/\J<=L.length/\r=(.tu [expV a,expV b,.sc (.ptr 0 0)],[Am L J])
def Zgj (r:V×List Obj):Prop:=∃b,r=(Ac b,[])
end Go.Vs.Tryz
namespace Go.Vs
open Go
mutual
def Cell.eqb:Cell->Cell->Bool
 |.int k n,.int k' n'=>decide (k=k')&&decide (n=n')
 |.bool b,.bool b'=>b==b'
 |.str s,.str s'=>s==s'
 |.sl rows,.sl rows'=>Cell.eqRows rows rows'
 |.nilfn,.nilfn=>true
 |.nilptr,.nilptr=>true
 |.nilif,.nilif=>true
 |_,_=>false
def Cell.eqRows:List (List Cell)->List (List Cell)->Bool
 |[],[]=>true
 |r::rs,r'::rs'=>Cell.eqList r r'&&Cell.eqRows rs rs'
 |_,_=>false
def Cell.eqList:List Cell->List Cell->Bool
 |[],[]=>true
 |c::cs,c'::cs'=>Cell.eqb c c'&&Cell.eqList cs cs'
 |_,_=>false
end
mutual
theorem Cell.eqb_eq:∀(a b:Cell),Cell.eqb a b=true->a=b
 |.int k n,b,h=>by cases b<;>simp_all[Cell.eqb]
 |.bool _,b,h=>by cases b<;>simp_all[Cell.eqb]
 |.str _,b,h=>by cases b<;>simp_all[Cell.eqb]
 |.sl rows,b,h=>by
  cases b with
  |sl rows'=>rw[Cell.eqRows_eq rows rows' (by simpa[Cell.eqb]using h)]
  |_=>simp[Cell.eqb]at h
 |.fn ..,b,h=>by cases b<;>simp[Cell.eqb]at h
 |.nilfn,b,h=>by cases b<;>simp_all[Cell.eqb]
 |.nilptr,b,h=>by cases b<;>simp_all[Cell.eqb]
 |.nilif,b,h=>by cases b<;>simp_all[Cell.eqb]
 |.ifc ..,b,h=>by cases b<;>simp[Cell.eqb]at h
 |.ro ..,b,h=>by cases b<;>simp[Cell.eqb]at h
theorem Cell.eqRows_eq:∀(a b:List (List Cell)),Cell.eqRows a b=true->a=b
 |[],b,h=>by cases b<;>simp_all[Cell.eqRows]
 |r::rs,b,h=>by
  cases b with
  |nil=>simp[Cell.eqRows]at h
  |cons r' rs'=>
   simp only[Cell.eqRows,qe]at h;rw[Cell.eqList_eq r r' h.1,Cell.eqRows_eq rs rs' h.2]
theorem Cell.eqList_eq:∀(a b:List Cell),Cell.eqList a b=true->a=b
 |[],b,h=>by cases b<;>simp_all[Cell.eqList]
 |c::cs,b,h=>by
  cases b with
  |nil=>simp[Cell.eqList]at h
  |cons c' cs'=>
   simp only[Cell.eqList,qe]at h;rw[Cell.eqb_eq c c' h.1,Cell.eqList_eq cs cs' h.2]
end
def W.eqb:W->W->Bool
 |.c a,.c b=>a.eqb b
 |.nil,.nil=>true
 |_,_=>false
theorem W.eqb_eq {a b:W}(h:a.eqb b=true):a=b:=by
 cases a<;>cases b<;>first | rfl | (simp[W.eqb]at h;done) | exact congrArg W.c (Cell.eqb_eq _ _ (by simpa[W.eqb]using h))
def eqWs:List W->List W->Bool
 |[],[]=>true
 |c::cs,c'::cs'=>c.eqb c'&&eqWs cs cs'
 |_,_=>false
theorem UI:∀{a b:List W},eqWs a b=true->a=b
 |[],b,h=>by cases b<;>simp_all[eqWs]
 |c::cs,b,h=>by
  cases b with
  |nil=>simp[eqWs]at h
  |cons c' cs'=>
   simp only[eqWs,qe]at h;rw[W.eqb_eq h.1,UI h.2]
def V.eqb:V->V->Bool
 |.sc a,.sc b=>a.eqb b
 |.ag a,.ag b=>eqWs a b
 |_,_=>false
theorem V.eqb_eq {a b:V}(h:a.eqb b=true):a=b:=by
 cases a<;>cases b<;>first | (simp[V.eqb]at h;done) | exact congrArg V.sc (W.eqb_eq (by simpa[V.eqb]using h)) | exact congrArg V.ag (UI (by simpa[V.eqb]using h))
def eqVs:List V->List V->Bool
 |[],[]=>true
 |c::cs,c'::cs'=>c.eqb c'&&eqVs cs cs'
 |_,_=>false
theorem Tq:∀{a b:List V},eqVs a b=true->a=b
 |[],b,h=>by cases b<;>simp_all[eqVs]
 |c::cs,b,h=>by
  cases b with
  |nil=>simp[eqVs]at h
  |cons c' cs'=>
   simp only[eqVs,qe]at h;rw[V.eqb_eq h.1,Tq h.2]
abbrev J8:=List (Nat×List V×V)
def I6:J8->Nat->List V->Option (V×List Obj)
 |[],_,_=>none
 |(g,k,v)::r,f,l=>bif f==g&&eqVs l k then some (v,[]) else I6 r f l
theorem P8:∀{m:J8}{f:Nat}{l:List V}{q:V×List Obj},I6 m f l=some q->q.2=[]/\(f,l,q.1)∈m
 |[],_,_,_,h=>by cases h
 |(g,k,v)::r,f,l,q,h=>by
  simp only[I6]at h;cases hk:(f==g&&eqVs l k)with
  |true=>
   rw[hk]at h;simp only[cond_true,qd]at h;simp only[qe,beq_iff_eq]at hk;obtain⟨rfl,hk⟩:=hk;have:=Tq hk;subst this;subst h;exact⟨rfl,by simp⟩
  |false=>
   rw[hk]at h;obtain⟨h1,h2⟩:=P8 h;exact⟨h1,List.mem_cons_of_mem _ h2⟩
theorem Xh {P:Program}{gl:Nat->List Cell}{T:FuncId->Option VFun}(hP:P.follows .mixedOrders=true)(hT:∀f vf,T f=some vf->mFun P f vf=true){m:J8}(hm:∀p∈m,FnOk P gl p.1 p.2.1 [] p.2.2 []){f:FuncId}{n:Nat}{args:List V}{objs:List Obj}{rv:V}{objs':List Obj}
 (h:C7 (fun g=>bif g==f then T g else none) (fun g args objs=>match objs with | []=>I6 m g args | _=>none) gl n f args objs=some (rv,objs')):FnOk P gl f args objs rv objs':=by
 refine NJ hP (fun g vf hg=>?_) (fun g args objs rv objs' hx=>?_) n h
 .cases hgf:(g == f) with
  |true=>rw[hgf]at hg;exact hT g vf hg
  |false=>rw[hgf]at hg;cases hg
 .cases objs with
  |cons _ _=>cases hx
  |nil=>
   obtain⟨h1,h2⟩:=P8 hx;simp only at h1 h2;subst h1;exact hm _ h2
end Go.Vs
namespace Go.Vs.Tryz
open Go Go.Vs
theorem Ja {n:Nat}{f:FuncId}{args:List V}{res:V}(h:(ev n f args []).map (BU false)=some (res,[])):FnOk Go.Proofs.Tryz.prog gl0 f args [] res []:=by
 obtain⟨y,h1,h2⟩:=qr.1 h;have:=(Sg (rv:=y.1) (objs':=y.2) h1).norm false;rw[show BU false (y.1,y.2)=(res,[])from h2]at this;exact this
def rlP:V:=(.ag [(.c (.sl [])),(.c (.sl [[(.int .i64 0),(.bool true),(.str [102]),(.bool false),(.int .i64 0),(.str []),(.int .i64 0),(.int .i64 0),(.sl []),(.int .i64 4),(.int .i64 12),(.str [120]),(.int .i64 0),(.sl [[(.int .i64 5),(.int .i64 16),(.str []),(.int .i64 0),(.sl [[(.int .i64 1),(.int .i64 16),(.str [102]),(.int .i64 0),(.sl []),(.sl []),(.int .i64 0),(.str []),(.int .i64 0),(.int .i64 0),(.sl [])],[(.int .i64 1),(.int .i64 18),(.str [120]),(.int .i64 0),(.sl []),(.sl []),(.int .i64 0),(.str []),(.int .i64 0),(.int .i64 0),(.sl [])]]),(.sl []),(.int .i64 0),(.str []),(.int .i64 0),(.int .i64 0),(.sl [])]]),(.sl []),(.int .i64 0),(.str []),(.int .i64 0),(.int .i64 0),(.sl [])],[(.int .i64 21),(.bool false),(.str [110]),(.bool false),(.int .i64 0),(.str []),(.int .i64 0),(.int .i64 0),(.sl []),(.int .i64 5),(.int .i64 29),(.str []),(.int .i64 0),(.sl [[(.int .i64 1),(.int .i64 29),(.str [102]),(.int .i64 0),(.sl []),(.sl []),(.int .i64 0),(.str []),(.int .i64 0),(.int .i64 0),(.sl [])],[(.int .i64 3),(.int .i64 31),(.str []),(.int .i64 1),(.sl []),(.sl []),(.int .i64 0),(.str []),(.int .i64 0),(.int .i64 0),(.sl [])]]),(.sl []),(.int .i64 0),(.str []),(.int .i64 0),(.int .i64 0),(.sl [])]]))])
def rlE0:V:=(.ag [(.c (.int .i64 7)),(.c (.int .i64 0)),(.c (.str [102])),(.c (.int .i64 0)),(.c (.sl [[(.int .i64 4),(.int .i64 0),(.str [120]),(.int .i64 0),(.sl [[(.int .i64 5),(.int .i64 0),(.str []),(.int .i64 0),(.sl [[(.int .i64 1),(.int .i64 0),(.str [102]),(.int .i64 0),(.sl []),(.sl []),(.int .i64 0),(.str []),(.int .i64 0),(.int .i64 0),(.sl [])],[(.int .i64 1),(.int .i64 0),(.str [120]),(.int .i64 0),(.sl []),(.sl []),(.int .i64 0),(.str []),(.int .i64 0),(.int .i64 0),(.sl [])]]),(.sl []),(.int .i64 0),(.str []),(.int .i64 0),(.int .i64 0),(.sl [])]]),(.sl []),(.int .i64 0),(.str []),(.int .i64 0),(.int .i64 0),(.sl [])],[(.int .i64 6),(.int .i64 0),(.str [110]),(.int .i64 0),(.sl [[(.int .i64 5),(.int .i64 0),(.str []),(.int .i64 0),(.sl [[(.int .i64 1),(.int .i64 0),(.str [102]),(.int .i64 0),(.sl []),(.sl []),(.int .i64 0),(.str []),(.int .i64 0),(.int .i64 0),(.sl [])],[(.int .i64 3),(.int .i64 0),(.str []),(.int .i64 1),(.sl []),(.sl []),(.int .i64 0),(.str []),(.int .i64 0),(.int .i64 0),(.sl [])]]),(.sl []),(.int .i64 0),(.str []),(.int .i64 0),(.int .i64 0),(.sl [])],[(.int .i64 1),(.int .i64 0),(.str [110]),(.int .i64 0),(.sl []),(.sl []),(.int .i64 0),(.str []),(.int .i64 0),(.int .i64 0),(.sl [])]]),(.sl []),(.int .i64 0),(.str []),(.int .i64 0),(.int .i64 0),(.sl [])]])),(.c (.sl [])),(.c (.int .i64 0)),(.c (.str [])),(.c (.int .i64 0)),(.c (.int .i64 0)),(.c (.sl []))])
def rlE1:V:=(.ag [(.c (.int .i64 6)),(.c (.int .i64 0)),(.c (.str [110])),(.c (.int .i64 0)),(.c (.sl [[(.int .i64 5),(.int .i64 0),(.str []),(.int .i64 0),(.sl [[(.int .i64 7),(.int .i64 0),(.str [102]),(.int .i64 0),(.sl [[(.int .i64 4),(.int .i64 0),(.str [120]),(.int .i64 0),(.sl [[(.int .i64 5),(.int .i64 0),(.str []),(.int .i64 0),(.sl [[(.int .i64 1),(.int .i64 0),(.str [102]),(.int .i64 0),(.sl []),(.sl []),(.int .i64 0),(.str []),(.int .i64 0),(.int .i64 0),(.sl [])],[(.int .i64 1),(.int .i64 0),(.str [120]),(.int .i64 0),(.sl []),(.sl []),(.int .i64 0),(.str []),(.int .i64 0),(.int .i64 0),(.sl [])]]),(.sl []),(.int .i64 0),(.str []),(.int .i64 0),(.int .i64 0),(.sl [])]]),(.sl []),(.int .i64 0),(.str []),(.int .i64 0),(.int .i64 0),(.sl [])],[(.int .i64 4),(.int .i64 0),(.str [120]),(.int .i64 0),(.sl [[(.int .i64 5),(.int .i64 0),(.str []),(.int .i64 0),(.sl [[(.int .i64 1),(.int .i64 0),(.str [102]),(.int .i64 0),(.sl []),(.sl []),(.int .i64 0),(.str []),(.int .i64 0),(.int .i64 0),(.sl [])],[(.int .i64 1),(.int .i64 0),(.str [120]),(.int .i64 0),(.sl []),(.sl []),(.int .i64 0),(.str []),(.int .i64 0),(.int .i64 0),(.sl [])]]),(.sl []),(.int .i64 0),(.str []),(.int .i64 0),(.int .i64 0),(.sl [])]]),(.sl []),(.int .i64 0),(.str []),(.int .i64 0),(.int .i64 0),(.sl [])]]),(.sl []),(.int .i64 0),(.str []),(.int .i64 0),(.int .i64 0),(.sl [])],[(.int .i64 3),(.int .i64 0),(.str []),(.int .i64 1),(.sl []),(.sl []),(.int .i64 0),(.str []),(.int .i64 0),(.int .i64 0),(.sl [])]]),(.sl []),(.int .i64 0),(.str []),(.int .i64 0),(.int .i64 0),(.sl [])],[(.int .i64 1),(.int .i64 0),(.str [110]),(.int .i64 0),(.sl []),(.sl []),(.int .i64 0),(.str []),(.int .i64 0),(.int .i64 0),(.sl [])]])),(.c (.sl [])),(.c (.int .i64 0)),(.c (.str [])),(.c (.int .i64 0)),(.c (.int .i64 0)),(.c (.sl []))])
def rlE2:V:=(.ag [(.c (.int .i64 5)),(.c (.int .i64 0)),(.c (.str [])),(.c (.int .i64 0)),(.c (.sl [[(.int .i64 7),(.int .i64 0),(.str [102]),(.int .i64 0),(.sl [[(.int .i64 4),(.int .i64 0),(.str [120]),(.int .i64 0),(.sl [[(.int .i64 5),(.int .i64 0),(.str []),(.int .i64 0),(.sl [[(.int .i64 1),(.int .i64 0),(.str [102]),(.int .i64 0),(.sl []),(.sl []),(.int .i64 0),(.str []),(.int .i64 0),(.int .i64 0),(.sl [])],[(.int .i64 1),(.int .i64 0),(.str [120]),(.int .i64 0),(.sl []),(.sl []),(.int .i64 0),(.str []),(.int .i64 0),(.int .i64 0),(.sl [])]]),(.sl []),(.int .i64 0),(.str []),(.int .i64 0),(.int .i64 0),(.sl [])]]),(.sl []),(.int .i64 0),(.str []),(.int .i64 0),(.int .i64 0),(.sl [])],[(.int .i64 4),(.int .i64 0),(.str [120]),(.int .i64 0),(.sl [[(.int .i64 5),(.int .i64 0),(.str []),(.int .i64 0),(.sl [[(.int .i64 1),(.int .i64 0),(.str [102]),(.int .i64 0),(.sl []),(.sl []),(.int .i64 0),(.str []),(.int .i64 0),(.int .i64 0),(.sl [])],[(.int .i64 1),(.int .i64 0),(.str [120]),(.int .i64 0),(.sl []),(.sl []),(.int .i64 0),(.str []),(.int .i64 0),(.int .i64 0),(.sl [])]]),(.sl []),(.int .i64 0),(.str []),(.int .i64 0),(.int .i64 0),(.sl [])]]),(.sl []),(.int .i64 0),(.str []),(.int .i64 0),(.int .i64 0),(.sl [])]]),(.sl []),(.int .i64 0),(.str []),(.int .i64 0),(.int .i64 0),(.sl [])],[(.int .i64 3),(.int .i64 0),(.str []),(.int .i64 1),(.sl []),(.sl []),(.int .i64 0),(.str []),(.int .i64 0),(.int .i64 0),(.sl [])]])),(.c (.sl [])),(.c (.int .i64 0)),(.c (.str [])),(.c (.int .i64 0)),(.c (.int .i64 0)),(.c (.sl []))])
def rlE3:V:=(.ag [(.c (.int .i64 5)),(.c (.int .i64 0)),(.c (.str [])),(.c (.int .i64 0)),(.c (.sl [[(.int .i64 4),(.int .i64 0),(.str [120]),(.int .i64 0),(.sl [[(.int .i64 5),(.int .i64 0),(.str []),(.int .i64 0),(.sl [[(.int .i64 7),(.int .i64 0),(.str [102]),(.int .i64 0),(.sl [[(.int .i64 4),(.int .i64 0),(.str [120]),(.int .i64 0),(.sl [[(.int .i64 5),(.int .i64 0),(.str []),(.int .i64 0),(.sl [[(.int .i64 1),(.int .i64 0),(.str [102]),(.int .i64 0),(.sl []),(.sl []),(.int .i64 0),(.str []),(.int .i64 0),(.int .i64 0),(.sl [])],[(.int .i64 1),(.int .i64 0),(.str [120]),(.int .i64 0),(.sl []),(.sl []),(.int .i64 0),(.str []),(.int .i64 0),(.int .i64 0),(.sl [])]]),(.sl []),(.int .i64 0),(.str []),(.int .i64 0),(.int .i64 0),(.sl [])]]),(.sl []),(.int .i64 0),(.str []),(.int .i64 0),(.int .i64 0),(.sl [])],[(.int .i64 4),(.int .i64 0),(.str [120]),(.int .i64 0),(.sl [[(.int .i64 5),(.int .i64 0),(.str []),(.int .i64 0),(.sl [[(.int .i64 1),(.int .i64 0),(.str [102]),(.int .i64 0),(.sl []),(.sl []),(.int .i64 0),(.str []),(.int .i64 0),(.int .i64 0),(.sl [])],[(.int .i64 1),(.int .i64 0),(.str [120]),(.int .i64 0),(.sl []),(.sl []),(.int .i64 0),(.str []),(.int .i64 0),(.int .i64 0),(.sl [])]]),(.sl []),(.int .i64 0),(.str []),(.int .i64 0),(.int .i64 0),(.sl [])]]),(.sl []),(.int .i64 0),(.str []),(.int .i64 0),(.int .i64 0),(.sl [])]]),(.sl []),(.int .i64 0),(.str []),(.int .i64 0),(.int .i64 0),(.sl [])],[(.int .i64 1),(.int .i64 0),(.str [120]),(.int .i64 0),(.sl []),(.sl []),(.int .i64 0),(.str []),(.int .i64 0),(.int .i64 0),(.sl [])]]),(.sl []),(.int .i64 0),(.str []),(.int .i64 0),(.int .i64 0),(.sl [])]]),(.sl []),(.int .i64 0),(.str []),(.int .i64 0),(.int .i64 0),(.sl [])],[(.int .i64 3),(.int .i64 0),(.str []),(.int .i64 1),(.sl []),(.sl []),(.int .i64 0),(.str []),(.int .i64 0),(.int .i64 0),(.sl [])]])),(.c (.sl [])),(.c (.int .i64 0)),(.c (.str [])),(.c (.int .i64 0)),(.c (.int .i64 0)),(.c (.sl []))])
def Pi:List V:=[(.sc (.c (.str [108,101,116,32,105,100,32,61,32,92,120,46,32,120,59,32,108,101,116,32,110,32,61,32,105,100,32,49,59])))]
def O7:V:=(.ag [(.c (.sl [])),(.c (.sl [[(.int .i64 0),(.bool false),(.str [105,100]),(.bool false),(.int .i64 0),(.str []),(.int .i64 0),(.int .i64 0),(.sl []),(.int .i64 4),(.int .i64 9),(.str [120]),(.int .i64 0),(.sl [[(.int .i64 1),(.int .i64 13),(.str [120]),(.int .i64 0),(.sl []),(.sl []),(.int .i64 0),(.str []),(.int .i64 0),(.int .i64 0),(.sl [])]]),(.sl []),(.int .i64 0),(.str []),(.int .i64 0),(.int .i64 0),(.sl [])],[(.int .i64 16),(.bool false),(.str [110]),(.bool false),(.int .i64 0),(.str []),(.int .i64 0),(.int .i64 0),(.sl []),(.int .i64 5),(.int .i64 24),(.str []),(.int .i64 0),(.sl [[(.int .i64 1),(.int .i64 24),(.str [105,100]),(.int .i64 0),(.sl []),(.sl []),(.int .i64 0),(.str []),(.int .i64 0),(.int .i64 0),(.sl [])],[(.int .i64 3),(.int .i64 27),(.str []),(.int .i64 1),(.sl []),(.sl []),(.int .i64 0),(.str []),(.int .i64 0),(.int .i64 0),(.sl [])]]),(.sl []),(.int .i64 0),(.str []),(.int .i64 0),(.int .i64 0),(.sl [])]]))])
theorem Yf:(ev 60 34 Pi []).map (BU false)=some (O7,[]):=by kernel_rfl
def Tf:List V:=[(.ag [(.c (.sl [])),(.c (.sl [[(.int .i64 0),(.bool false),(.str [105,100]),(.bool false),(.int .i64 0),(.str []),(.int .i64 0),(.int .i64 0),(.sl []),(.int .i64 4),(.int .i64 9),(.str [120]),(.int .i64 0),(.sl [[(.int .i64 1),(.int .i64 13),(.str [120]),(.int .i64 0),(.sl []),(.sl []),(.int .i64 0),(.str []),(.int .i64 0),(.int .i64 0),(.sl [])]]),(.sl []),(.int .i64 0),(.str []),(.int .i64 0),(.int .i64 0),(.sl [])],[(.int .i64 16),(.bool false),(.str [110]),(.bool false),(.int .i64 0),(.str []),(.int .i64 0),(.int .i64 0),(.sl []),(.int .i64 5),(.int .i64 24),(.str []),(.int .i64 0),(.sl [[(.int .i64 1),(.int .i64 24),(.str [105,100]),(.int .i64 0),(.sl []),(.sl []),(.int .i64 0),(.str []),(.int .i64 0),(.int .i64 0),(.sl [])],[(.int .i64 3),(.int .i64 27),(.str []),(.int .i64 1),(.sl []),(.sl []),(.int .i64 0),(.str []),(.int .i64 0),(.int .i64 0),(.sl [])]]),(.sl []),(.int .i64 0),(.str []),(.int .i64 0),(.int .i64 0),(.sl [])]]))]),(.sc (.c (.int .i64 20)))]
def Q0:V:=(.tu [(.ag [(.c (.int .i64 3)),(.c (.int .i64 0)),(.c (.str [])),(.c (.int .i64 1)),(.c (.sl [])),(.c (.sl [])),(.c (.int .i64 0)),(.c (.str [])),(.c (.int .i64 0)),(.c (.int .i64 0)),(.c (.sl []))]),(.sc (.c (.int .i64 3))),(.sc (.c (.bool true)))])
theorem Ya:(ev 60 31 Tf []).map (BU false)=some (Q0,[]):=by kernel_rfl
def Sk:List V:=[(.ag [(.c (.int .i64 3)),(.c (.int .i64 0)),(.c (.str [])),(.c (.int .i64 1)),(.c (.sl [])),(.c (.sl [])),(.c (.int .i64 0)),(.c (.str [])),(.c (.int .i64 0)),(.c (.int .i64 0)),(.c (.sl []))]),(.ag [(.c (.int .i64 3)),(.c (.int .i64 0)),(.c (.str [])),(.c (.int .i64 1)),(.c (.sl [])),(.c (.sl [])),(.c (.int .i64 0)),(.c (.str [])),(.c (.int .i64 0)),(.c (.int .i64 0)),(.c (.sl []))])]
def TK:V:=(.sc (.c (.bool true)))
theorem Zdg:(ev 60 18 Sk []).map (BU false)=some (TK,[]):=by kernel_rfl
def Uh:List V:=[(.ag [(.c (.sl [])),(.c (.sl []))])]
def Tj:V:=(.ag [(.c (.int .i64 3)),(.c (.int .i64 0)),(.c (.str [])),(.c (.int .i64 0)),(.c (.sl [])),(.c (.sl [])),(.c (.int .i64 0)),(.c (.str [])),(.c (.int .i64 0)),(.c (.int .i64 0)),(.c (.sl []))])
theorem XI:(ev 60 27 Uh []).map (BU false)=some (Tj,[]):=by kernel_rfl
def TA:J8:=[(34,Pi,O7),(31,Tf,Q0),(18,Sk,TK),(27,Uh,Tj)]
theorem Zdm:∀p∈TA,FnOk Go.Proofs.Tryz.prog gl0 p.1 p.2.1 [] p.2.2 []:=by
 intro p hp;simp only[TA,qD,qY,or_false]at hp;rcases hp with rfl|rfl|rfl|rfl
 .exact Ja Yf
 .exact Ja Ya
 .exact Ja Zdg
 .exact Ja XI
theorem ZQ:FnOk Go.Proofs.Tryz.prog gl0 25 [] [] (.sc (.c (.bool true))) []:=
 Xh (n:=2) follows T_ok Zdm (by kernel_rfl)
end Go.Vs.Tryz
namespace Go.Vs
open Go
structure EntD where
 name:Str
 count:Int
 ty:Ty
def Br (e:EntD):List Cell:=.str e.name::.int .i64 e.count::e.ty.row
def BV (l:List EntD):List (List Cell):=l.map Br
@[simp] theorem entRow_len (e:EntD):(Br e).length=7:=by simp[Br]
@[simp] theorem entRows_len (l:List EntD):(BV l).length=l.length:=by simp[BV]
@[simp] theorem entRows_get (l:List EntD) (i:Nat):(BV l)[i]?=(l[i]?).map Br:=by simp[BV]
@[simp] theorem okRows_ent (l:List EntD):AW 7 (wr (BV l))=true:=CV l entRow_len
@[simp] theorem entRows_snoc (l:List EntD) (x:EntD):wr (BV l)++[wc (Br x)]=wr (BV (l++[x])):=by simp[BV,wr]
@[simp] theorem entRows0:BV []=[]:=rfl
def AU (c:Int)(t:Ty):List Cell:=.int .i64 c::t.row
@[simp] theorem schRow_len (c:Int) (t:Ty):(AU c t).length=6:=by simp[AU]
section
variable (e:EntD)(c:Int)(t:Ty)
@[simp] theorem cut_n0:cut (Br e) 0 1=some [.str e.name]:=by simp[Br]
@[simp] theorem cut_n1:cut (Br e) 1 6=some (AU e.count e.ty):=by rw[Br,AU,Ty.row_eq];rfl
@[simp] theorem cut_n:cut (Br e) 0 7=some (Br e):=by rw[Br,Ty.row_eq];rfl
@[simp] theorem cutw_n0:cut (wc (Br e)) 0 1=some [.c (.str e.name)]:=by rw[Br,Ty.row_eq];rfl
@[simp] theorem cutw_n1:cut (wc (Br e)) 1 6=some (wc (AU e.count e.ty)):=by rw[Br,AU,Ty.row_eq];rfl
@[simp] theorem cutw_n:cut (wc (Br e)) 0 7=some (wc (Br e)):=by rw[Br,Ty.row_eq];rfl
@[simp] theorem cutw_sch:cut (wc (AU c t)) 0 6=some (wc (AU c t)):=by rw[AU,Ty.row_eq];rfl
@[simp] theorem flat_sch:(wc (AU c t)).all Bo=false:=by rw[AU,Ty.row_eq];simp[wc,Bo]
@[simp] theorem flat_ent:(wc (Br e)).all Bo=false:=by rw[Br,Ty.row_eq];simp[wc,Bo]
end
section
variable {C:Ctx}{E:Nat->Option V}{L:Nat->Option Obj}{oid:Nat}
@[simp] theorem x_sl {s:Nat} {x:Opd} {lo hi mx:Option Opd}:Ad C E L oid (.sl s x lo hi mx)=Bk L s (x.val C E) (lo.map (·.val C E)) (hi.map (·.val C E)) (mx.map (·.val C E)):=rfl
theorem Gw {α:Type}{f:α->List Cell}{k:Nat}(h:∀a,(f a).length=k)(l:List α):BI k (l.map f)=true:=by
 cases l with
 |nil=>rfl
 |cons a r=>simp[BI,h a]
@[simp] theorem fit_ent (l:List EntD):BI 7 (BV l)=true:=Gw entRow_len l
@[simp] theorem fit_data (l:List DataD):BI 4 (AC l)=true:=Gw dataRow_len l
@[simp] theorem slice_from {s n:Nat} {k:IntKind} {rows:List (List Cell)} (h:n<=rows.length):Bk L s (.sc (.c (.sl rows))) (some (.sc (.c (.int k (n:Int))))) none none=bif BI s rows then some (.sc (.c (.sl (rows.drop n))),[]) else none:=by
 simp[Bk,AQ,G5,BC,qbf h]
@[simp] theorem slice_from1 {s n:Nat} {k:IntKind} {rows:List (List Cell)} (h:n+1<=rows.length):Bk L s (.sc (.c (.sl rows))) (some (.sc (.c (.int k ((n:Int)+1))))) none none=bif BI s rows then some (.sc (.c (.sl (rows.drop (n+1)))),[]) else none:=slice_from (n:=n+1) h
@[simp] theorem slice_to {s n:Nat} {k:IntKind} {rows:List (List Cell)} (h:n<=rows.length):Bk L s (.sc (.c (.sl rows))) none (some (.sc (.c (.int k (n:Int))))) none=bif BI s rows then some (.sc (.c (.sl (rows.take n))),[]) else none:=by
 simp[Bk,AQ,G5,BC,qbf h]
@[simp] theorem entRows_drop (l:List EntD) (n:Nat):(BV l).drop n=BV (l.drop n):=by simp[BV]
@[simp] theorem dataRows_take (l:List DataD) (n:Nat):(AC l).take n=AC (l.take n):=by simp[AC]
@[simp] theorem call1_clo {call:Af} {f:FuncId} {w:W} {args:List (Bool×V)}:BL call L oid (.sc (.clo f [true] [[w]])) args=Ep call L oid f (AS L (args++[(true,.sc w)])):=by
 rw[Ka];rfl
end
end Go.Vs
namespace Go.Vs.Tryz
open Go Go.Vs
variable {A:Af}
abbrev Bc (l:List EntD):V:=.sc (.c (.sl (BV l)))
def Bj (l:List EntD):List Str:=l.map (·.name)
@[simp] theorem names_len (l:List EntD):(Bj l).length=l.length:=by simp[Bj]
@[simp] theorem names_get (l:List EntD) (i:Nat):(Bj l)[i]?=(l[i]?).map (·.name):=by simp[Bj]
def B1 (l:List EntD):Nat->List EntD
 |0=>[]
 |i+1=>match l[i]? with
  |none=>B1 l i
  |some e=>if e.name∈Bj (l.drop (i+1)) then B1 l i else B1 l i++[e]
theorem Hw (l:List EntD):∀i,(B1 l i).length<=i
 |0=>by simp[B1]
 |i+1=>by
  have:=Hw l i;simp only[B1];split
  .omega
  .split
   .omega
   .simp;omega
variable {A:Af}
def rlast (l:List Str)(s:Str):Int:=if s∈l then (l.length:Int)-1-Ba l.reverse s else -1
theorem Iz {l:List Str}{i:Nat}(h:i<l.length):l.reverse[i]?=l[l.length-1-i]?:=List.getElem?_reverse h
def Zap (b:Bool)(r:V×List Obj):Prop:=∃c t,r=(.tu [.ag (wc (AU c t)),Ac b],[])
theorem Y7 (l:List EntD)(s:Str)(h:l.length<=687194767360):∃r,Zap (decide (s∈Bj l)) r/\(K A).call 184 [Bc l,strV s] []=some r:=by
 refine fnE v184 ?_;unfold v184;have hp:=QS (Bj l).reverse s;rw[List.length_reverse,names_len]at hp;simp(disch:=try exact zd);refine Ap (fun i=>⟨[(0,Bc l),(1,strV s),(4,.sc (.ptr 64 0)),(6,intV ((l.length:Int)-1-i))],[(64,some (.box [zi,zi,zs,zi,zi,.nil]))]⟩) (Ba (Bj l).reverse s) ?_ ?_ ?_
 .simp
 .intro i hi
  obtain⟨x,hx,hne⟩:=NM hi;have hlt:i<l.length:=by omega
  rw[Iz (by simpa using hlt),names_get,names_len]at hx;obtain⟨e,he,rfl⟩:=qr.1 hx;have hc:(l.length:Int)-1-i=((l.length-1-i:Nat):Int):=by omega
  have hc2:(l.length:Int)-1-(i+1)=((l.length-1-i:Nat):Int)-1:=by omega
  unfold Lt;simp(disch:=try exact zd) [hc,hc2,he,hne,-getElem?_pos]
 .unfold Lt
  by_cases hm:Ba (Bj l).reverse s<l.length
  .have hx:=Gd (l:=(Bj l).reverse) (s:=s) (by simpa using hm)
   have hmem:s∈Bj l:=by
    have:=Fj.1 (show Ba (Bj l).reverse s<(Bj l).reverse.length by simpa using hm);simpa using this
   rw[Iz (by simpa using hm),names_get,names_len]at hx;obtain⟨e,he,hes⟩:=qr.1 hx;have hc:(l.length:Int)-1-(Ba (Bj l).reverse s:Nat)=((l.length-1-Ba (Bj l).reverse s:Nat):Int):=(by omega);simp(disch:=try exact zd) [hc,he,hes,hmem,-getElem?_pos];exact⟨_,_,rfl⟩
  .have hn:s∉Bj l:=fun h=>hm (by have:=Fj.2 (List.mem_reverse.2 h);simpa using this)
   have hc:(l.length:Int)-1-(Ba (Bj l).reverse s:Nat)=-1:=(by omega);simp(disch:=try exact zd) [hc,hn,-getElem?_pos];refine⟨0,tz,?_⟩;simp[AU,tz,Ty.row]
theorem NX (l:List EntD)(h:l.length<=687194767360):(K A).call 135 [Bc l] []=some (Bc (B1 l l.length),[]):=by
 refine fnO v135 ?_;unfold v135;simp(disch:=try exact zd);refine Ap (fun i=>⟨[(0,Bc l),(3,.sc (.arr 129 (B1 l i).length)),(4,intV i)],[(129,some (.arr 7 (wr (BV (B1 l i))) 0))]⟩) l.length ?_ ?_ ?_
 .simp[B1]
 .intro i hi
  obtain⟨e,he⟩:=Ae hi;obtain⟨_,⟨c,t,rfl⟩,hc⟩:=Y7 (A:=A) (l.drop (i+1)) e.name (by simp;omega);have hsl:=Hw l i;have hi':i+1<=l.length:=hi;unfold Nt;by_cases hn:e.name∈Bj (l.drop (i+1))
  .simp(disch:=try exact zd) [he,hi,hc,hn,B1,-getElem?_pos]
  .simp(disch:=try exact zd) [he,hi,hc,hn,B1,-getElem?_pos]
 .unfold Nt
  simp(disch:=try exact zd)
def BB (d:DataD):List Str:=d.cons.map (·.name)
@[simp] theorem cnames_len (d:DataD):(BB d).length=d.cons.length:=by simp[BB]
@[simp] theorem cnames_get (d:DataD) (i:Nat):(BB d)[i]?=(d.cons[i]?).map (·.name):=by simp[BB]
def EI (ds:List DataD)(c:Str):Nat:=ds.findIdx fun d=>decide (c∈BB d)
theorem ZdV {ds:List DataD}{c:Str}(h:EI ds c<ds.length):∃d,ds[EI ds c]?=some d/\c∈BB d:=by
 refine⟨ds[EI ds c],qi h,?_⟩;have h1:=List.findIdx_getElem (w:=h);exact of_decide_eq_true h1
def Lu (ds:List DataD)(c:Str):Int×Int×Bool:=match ds[EI ds c]? with
 |some d=>(EI ds c,Ba (BB d) c,true)
 |none=>(0,0,false)
abbrev ZfX (r:Int×Int×Bool):V:=.tu [intV r.1,intV r.2.1,Ac r.2.2]
end Go.Vs.Tryz
namespace Go.Vs
open Go
section
variable {C:Ctx}
attribute [simp] AX
end
end Go.Vs
namespace Go.Vs.Tryz
open Go Go.Vs
variable {A:Af}
def DU (ds:List DataD)(i:Nat):Nat:=((ds.take i).map fun d=>d.cons.length).sum
theorem Pw {ds:List DataD}{i:Nat}{d:DataD}(h:ds[i]?=some d):DU ds (i+1)=DU ds i+d.cons.length:=by
 unfold DU;rw[Bh h,qay,qba];simp
def Fc (ds:List DataD)(seen bound:List Str)(e:Exp):Int:=
 if e.kind=1 then (if e.name∈bound then seen.length+rlast bound e.name else rlast seen e.name)
 else if e.kind=2 then match Lu ds e.name with
  |(i,k,true)=>seen.length+bound.length+k+DU ds i.toNat
  |_=>-1
 else -1
variable {A:Af}
theorem P2 {l:List Str}{s:Str}{i:Nat}(h:l[i]?=some s)(hj:∀j x,i<j->l[j]?=some x->¬x=s):rlast l s=i:=by
 have hi:=(qf.1 h).1;have hmem:s∈l:=qc h;unfold rlast;rw[if_pos hmem];have hp:=Fj.2 (List.mem_reverse.2 hmem);have hx:=Gd hp;rw[List.length_reverse]at hp;rw[Iz hp]at hx;have h1:¬i<l.length-1-Ba l.reverse s:=fun hlt=>hj _ s hlt hx rfl;have h2:¬l.length-1-i<Ba l.reverse s:=by
  intro hlt;obtain⟨x,hx2,hne⟩:=NM hlt;rw[Iz (by omega),show l.length-1-(l.length-1-i)=i by omega,h]at hx2;cases hx2;exact hne rfl
 omega
def Zb4 (ctx:List EntD):List Str:=Bj (B1 ctx ctx.length)
variable {A:Af}
end Go.Vs.Tryz
namespace Go.Vs
open Go
mutual
def Ty.size:Ty->Nat
 |.mk _ _ _ _ a=>1+Ty.sizes a
def Ty.sizes:List Ty->Nat
 |[]=>0
 |t::r=>t.size+Ty.sizes r
end
theorem Ty.sizes_map:∀l:List Ty,Ty.sizes l=(l.map Ty.size).sum
 |[]=>by simp[Ty.sizes]
 |t::r=>by simp[Ty.sizes,Ty.sizes_map r]
theorem Ty.size_eq (t:Ty):t.size=1+(t.args.map Ty.size).sum:=by
 cases t;simp[Ty.size,Ty.args,Ty.sizes_map]
theorem Ty.size_pos (t:Ty):1<=t.size:=by
 rw[Ty.size_eq];omega
theorem GF {l:List Nat}{n:Nat}(h:n∈l):n<=l.sum:=by
 induction l with
 |nil=>cases h
 |cons a r ih=>
  simp only[qaa];rcases qD.1 h with rfl|h
  .omega
  .have:=ih h
   omega
theorem Ty.arg_lt {t x:Ty}(h:x∈t.args):x.size<t.size:=by
 have:=GF (qat (f:=Ty.size) h);rw[t.size_eq];omega
theorem Ty.len_le (l:List Ty):l.length<=(l.map Ty.size).sum:=by
 induction l with
 |nil=>simp
 |cons a r ih=>
  have:=a.size_pos;simp only[qG,qu,qaa];omega
theorem Ty.args_lt (t:Ty):t.args.length<t.size:=by
 have:=Ty.len_le t.args;rw[t.size_eq];omega
theorem Ty.size_leaf {k:Int}{n:Str}{i h:Int}:(Ty.mk k n i h []).size=1:=by simp[Ty.size,Ty.sizes]
structure AssD where
 id:Int
 ty:Ty
def Bw (a:AssD):List Cell:=.int .i64 a.id::a.ty.row
def CY (l:List AssD):List (List Cell):=l.map Bw
@[simp] theorem assRow_len (a:AssD):(Bw a).length=6:=by simp[Bw]
@[simp] theorem assRows_len (l:List AssD):(CY l).length=l.length:=by simp[CY]
@[simp] theorem assRows_get (l:List AssD) (i:Nat):(CY l)[i]?=(l[i]?).map Bw:=by simp[CY]
@[simp] theorem okRows_ass (l:List AssD):AW 6 (wr (CY l))=true:=CV l assRow_len
@[simp] theorem assRows_snoc (l:List AssD) (x:AssD):wr (CY l)++[wc (Bw x)]=wr (CY (l++[x])):=by simp[CY,wr]
@[simp] theorem assRows0:CY []=[]:=rfl
section
variable (a:AssD)
@[simp] theorem cut_as0:cut (Bw a) 0 1=some [.int .i64 a.id]:=by rw[Bw,Ty.row_eq];rfl
@[simp] theorem cut_as1:cut (Bw a) 1 5=some a.ty.row:=by rw[Bw,Ty.row_eq];rfl
@[simp] theorem cut_as:cut (Bw a) 0 6=some (Bw a):=by rw[Bw,Ty.row_eq];rfl
@[simp] theorem cutw_as0:cut (wc (Bw a)) 0 1=some [.c (.int .i64 a.id)]:=by rw[Bw,Ty.row_eq];rfl
@[simp] theorem cutw_as1:cut (wc (Bw a)) 1 5=some (wc a.ty.row):=by rw[Bw,Ty.row_eq];rfl
@[simp] theorem cutw_as:cut (wc (Bw a)) 0 6=some (wc (Bw a)):=by rw[Bw,Ty.row_eq];rfl
@[simp] theorem flat_ass:(wc (Bw a)).all Bo=false:=by rw[Bw,Ty.row_eq];simp[wc,Bo]
end
end Go.Vs
namespace Go.Vs.Tryz
open Go Go.Vs
variable {A:Af}
abbrev Cl (l:List Int):V:=.sc (.c (.sl (Bn l)))
abbrev tysV (l:List Ty):V:=.sc (.c (.sl (Ty.rows l)))
abbrev CM (l:List AssD):V:=.sc (.c (.sl (CY l)))
abbrev schV (c:Int)(t:Ty):V:=.ag (wc (AU c t))
theorem LE (h i:Int):(K A).call 118 [intV h,intV i] []=some (tyV (.mk 3 [] i h []),[]):=by
 refine fnO v118 ?_;unfold v118;simp(disch:=try exact zd) [Ty.row]
theorem LY (i:Int):(K A).call 212 [intV i] []=some (tyV (.mk 1 [] i 0 []),[]):=by
 refine fnO v212 ?_;unfold v212;simp(disch:=try exact zd) [Ty.row]
theorem Lq (i:Int):(K A).call 169 [intV i] []=some (tyV (.mk 2 [] i 0 []),[]):=by
 refine fnO v169 ?_;unfold v169;simp(disch:=try exact zd) [Ty.row]
def JZ (r:V×List Obj):Prop:=∃b,r=(Ac b,[])
theorem GQ (t:Ty):(K A).call 65 [tyV t] []=some (schV 0 t,[]):=by
 refine fnO v65 ?_;unfold v65;simp(disch:=try exact zd) [AU,Ty.row_eq]
theorem FC (l:List EntD)(s:Str)(c:Int)(t:Ty)(h:l.length<=1073741):(K A).call 64 [Bc l,strV s,schV c t] []=some (Bc (l++[⟨s,c,t⟩]),[]):=by
 refine fnO v64 ?_;unfold v64;cases l with
 |nil=>simp(disch:=try exact zd) [Br,AU,BV]
 |cons a r=>
  have hn:BV (a::r)=Br a::BV r:=rfl;have hok:=okRows_ent (a::r);rw[hn,wr_cons]at hok;simp only[qG]at h;have he:(W.c (.str s)::wc (AU c t))=wc (Br ⟨s,c,t⟩):=rfl;simp(disch:=try exact zd) [hn,hok,he];rfl
variable {A:Af}
def cmpI (a b:Int):Int:=if a<b then -1 else if b<a then 1 else 0
def orI:List Int->Int
 |[]=>0
 |a::r=>if a=0 then orI r else a
def P3 (e:Exp):Int:=if e.kind=4 then 0 else if e.kind=8 then 2 else 1
end Go.Vs.Tryz
namespace Go.Vs
open Go
section
variable {call:FuncId->List V->List Obj->Option (V×List Obj)}{L:Nat->Option Obj}{oid:Nat}
@[simp] theorem call1_clo2 {f:FuncId} {w0 w1:W} {args:List (Bool×V)}:BL call L oid (.sc (.clo f [true,true] [[w0],[w1]])) args=Ep call L oid f (AS L (args++[(true,.sc w0),(true,.sc w1)])):=by
 rw[Ka];rfl
@[simp] theorem call1_clo3 {f:FuncId} {w0 w1 w2:W} {args:List (Bool×V)}:BL call L oid (.sc (.clo f [true,true,true] [[w0],[w1],[w2]])) args=Ep call L oid f (AS L (args++[(true,.sc w0),(true,.sc w1),(true,.sc w2)])):=by
 rw[Ka];rfl
end
end Go.Vs
namespace Go.Vs.Tryz
open Go Go.Vs
variable {A:Af}
variable {A:Af}
def BZ (l:List Exp):Nat->List Exp
 |0=>l
 |i+1=>match (BZ l i)[i]?,(BZ l i)[l.length-1-i]? with
  |some x,some y=>((BZ l i).set i y).set (l.length-1-i) x
  |_,_=>BZ l i
@[simp] theorem swapTo_len (l:List Exp):∀i,(BZ l i).length=l.length
 |0=>rfl
 |i+1=>by
  have:=swapTo_len l i;simp only[BZ];split
  .simp[this]
  .exact this
theorem setRow_set {α:Type}:∀(l:List α)(i:Nat)(a:α),setRow l i a=l.set i a
 |[],_,_=>rfl
 |_::_,0,_=>rfl
 |b::r,n+1,a=>by simp only[setRow,List.set_cons_succ,setRow_set r n a]
theorem Eh (l:List Exp)(i:Nat)(x:Exp):setRow (wr (Exp.rows l)) i (wc x.row)=wr (Exp.rows (l.set i x)):=by
 rw[setRow_set];simp[Exp.rows_map,wr,qaZ]
theorem UR (l:List Exp)(h:l.length<=687194767360):∃r,r=(.tu [],[.arr 11 (wr (Exp.rows (BZ l (l.length / 2)))) 0])/\(K A).call 80 [.sc (.arr 0 l.length)] [.arr 11 (wr (Exp.rows l)) 0]=some r:=by
 refine Aw (fun r=>r=(.tu [],[.arr 11 (wr (Exp.rows (BZ l (l.length / 2)))) 0])) (vf:=v80) (by kernel_rfl) rfl (by simp) ?_;unfold v80;simp(disch:=try exact zd);refine Ak (fun i s=>s=⟨[(0,.sc (.arr 0 l.length)),(2,intV i),(3,intV (l.length-1-i))],[(0,some (.arr 11 (wr (Exp.rows (BZ l i))) 0))]⟩) (l.length / 2) (by simp[BZ]) ?_ ?_
 .rintro i s hi rfl
  have hn:((l.length:Int)-1-i)=((l.length-1-i:Nat):Int):=by omega
  obtain⟨x,hx⟩:=Ae (l:=BZ l i) (i:=i) (by simp;omega);obtain⟨y,hy⟩:=Ae (l:=BZ l i) (i:=l.length-1-i) (by simp;omega);have hlt:(i:Int)<((l.length-1-i:Nat):Int):=by omega
  have r1:=Eh (BZ l i) i y;have r2:=Eh ((BZ l i).set i y) (l.length-1-i) x;rw[hn];unfold Mp;simp(disch:=try exact zd) [hx,hy,hlt,BZ,r1,r2,-getElem?_pos];omega
 .rintro s rfl
  have hlt:¬(l.length:Int) / 2<(l.length:Int)-1-(l.length:Int) / 2:=by omega
  unfold Mp;simp(disch:=try exact zd) [hlt,-getElem?_pos]
theorem Ix (l:List Exp):∀i,2*i<=l.length->∀j,j<l.length->(BZ l i)[j]?=if j<i\/l.length<=j+i then l[l.length-1-j]? else l[j]?
 |0,_,j,hj=>by
  have:¬(j<0\/l.length<=j+0):=by omega
  simp only[BZ,if_neg this]
 |i+1,hi,j,hj=>by
  have h1:=Ix l i (by omega) i (by omega);have h2:=Ix l i (by omega) (l.length-1-i) (by omega);have h3:=Ix l i (by omega) j hj;rw[if_neg (by omega)]at h1;rw[if_neg (by omega)]at h2;obtain⟨x,hx⟩:=Ae (l:=l) (i:=i) (by omega);obtain⟨y,hy⟩:=Ae (l:=l) (i:=l.length-1-i) (by omega);rw[hx]at h1;rw[hy]at h2;simp only[BZ,h1,h2];by_cases e2:j=l.length-1-i
  .subst e2
   rw[qa6 (by simp;omega),if_pos (by omega),show l.length-1-(l.length-1-i)=i by omega,hx]
  .rw [qaC (by omega)]
   by_cases e1:j=i
   .subst e1
    rw[qa6 (by simp;omega),if_pos (by omega),hy]
   .rw [qaC (by omega),h3]
    by_cases hc:j<i\/l.length<=j+i
    .rw[if_pos hc,if_pos (by omega)]
    .rw[if_neg hc,if_neg (by omega)]
theorem Ze0 (l:List Exp):BZ l (l.length / 2)=l.reverse:=by
 apply qJ;intro j;by_cases hj:j<l.length
 .rw [Ix l _ (by omega) j hj,List.getElem?_reverse hj]
  by_cases hc:j<l.length / 2\/l.length<=j+l.length / 2
  .rw[if_pos hc]
  .rw[if_neg hc,show l.length-1-j=j by omega]
 .rw[qam (by simp;omega),qam (by simp;omega)]
variable {A:Af}
def H3 (c:UInt8):Bool:=(97<=c.toNat&&c.toNat<=122)||(65<=c.toNat&&c.toNat<=90)||(48<=c.toNat&&c.toNat<=57)||c.toNat==95
def keyWords:List Str:=[[100,97,116,97],[108,101,116],[114,101,99],[105,110],[99,97,115,101],[111,102],[101,110,100]]
def nameOk (lo hi:Nat)(s:Str):Prop:=s.length<=12/\(∃c,s[0]?=some c/\lo<=c.toNat/\c.toNat<=hi)/\(∀c∈s,H3 c=true)/\s∉keyWords
theorem IK (lo hi:Nat)(s:Str)(h:nameOk lo hi s):(K A).call 141 [strV s,.sc (.c (.int .u8 lo)),.sc (.c (.int .u8 hi))] []=some (Ac true,[]):=by
 refine fnO v141 ?_;obtain⟨h1,⟨c,hc,h2,h3⟩,h4,h5⟩:=h;simp only[keyWords,qD,qY,or_false,not_or]at h5;obtain⟨k1,k2,k3,k4,k5,k6,k7⟩:=h5;have hl:0<s.length:=(qf.1 hc).1;have e1:¬(s.length:Int)<1:=by omega
 have e2:¬(12:Int)<s.length:=by omega
 have e3:¬(c.toNat:Int)<lo:=by omega
 have e4:¬(hi:Int)<c.toNat:=by omega
 unfold v141;simp(disch:=try exact zd) [e1,e2,e3,e4,hc,-getElem?_pos];refine Ak (fun i t=>t=⟨[(0,strV s),(31,intV s.length),(32,intV i)],[]⟩) s.length (by simp) ?_ ?_
 .rintro i t hi rfl
  obtain⟨d,hd⟩:=Ae hi;have hdo:=h4 d (qc hd);simp only[H3,qaq,qe,decide_eq_true_eq,beq_iff_eq]at hdo;unfold No;by_cases a1:97<=d.toNat
  .by_cases a2:d.toNat<=122
   .have b1:(97:Int)<=d.toNat:=by omega
    have b2:(d.toNat:Int)<=122:=(by omega);simp(disch:=try exact zd) [hi,hd,b1,b2,-getElem?_pos]
   .omega
  .have b1:¬(97:Int)<=d.toNat:=by omega
   by_cases a3:65<=d.toNat
   .have b3:(65:Int)<=d.toNat:=by omega
    by_cases a4:d.toNat<=90
    .have b4:(d.toNat:Int)<=90:=by omega
     simp(disch:=try exact zd) [hi,hd,b1,b3,b4,-getElem?_pos]
    .have b4:¬(d.toNat:Int)<=90:=by omega
     have b5:(d.toNat:Int)=95:=(by omega);simp(disch:=try exact zd) [hi,hd,b5,-getElem?_pos]
   .have b3:¬(65:Int)<=d.toNat:=by omega
    have b4:¬(d.toNat:Int)<48:=(by omega);have b5:¬(57:Int)<d.toNat:=(by omega);simp(disch:=try exact zd) [hi,hd,b1,b3,b4,b5,-getElem?_pos]
 .rintro t rfl
  unfold No;simp(disch:=try exact zd) [k1,k2,k3,k4,k5,k6,k7,-getElem?_pos]
theorem HE (s:Str)(h:nameOk 97 122 s):(K A).call 92 [strV s] []=some (Ac true,[]):=by
 have h1:(K A).call 141 [strV s,.sc (.c (.int .u8 97)),.sc (.c (.int .u8 122))] []=some (Ac true,[]):=IK (A:=A) 97 122 s h;have hs:¬s=[]:=by
  rintro rfl;obtain⟨_,⟨c,hc,_⟩,_⟩:=h;cases hc
 have hv:(K A).call 93 [tyV (.mk 5 s 0 0 [])] []=some (Ac true,[]):=by
  refine fnO v93 ?_;unfold v93;simp(disch:=try exact zd) [h1,hs,Ty.kind,Ty.name,Ty.id,Ty.home,Ty.args,-getElem?_pos]
 refine fnO v92 ?_;simp[tyV,Ty.row,Ty.rows]at hv;unfold v92;simp(disch:=try exact zd) [hv,-getElem?_pos]
theorem Tz (s:Str)(h:nameOk 65 90 s):(K A).call 91 [strV s] []=some (Ac true,[]):=by
 have h1:(K A).call 141 [strV s,.sc (.c (.int .u8 65)),.sc (.c (.int .u8 90))] []=some (Ac true,[]):=IK (A:=A) 65 90 s h;have hs:¬s=[]:=by
  rintro rfl;obtain⟨_,⟨c,hc,_⟩,_⟩:=h;cases hc
 have hne:¬s=[45,62]:=by
  rintro rfl;obtain⟨_,⟨c,hc,h2,h3⟩,_⟩:=h;cases hc;simp at h2
 have hv:(K A).call 93 [tyV (.mk 4 s 0 0 [])] []=some (Ac true,[]):=by
  have hcon:(K A).call 142 [strV s,intV 0] []=some (Ac true,[]):=by
   refine fnO v142 ?_;unfold v142;by_cases hi:s=[73,110,116]
   .simp(disch:=try exact zd) [hi,-getElem?_pos]
   .simp(disch:=try exact zd) [hne,hi,h1,-getElem?_pos]
  have hall:(K A).call 143 [.sc (.c (.sl [])),.sc (.c (.fn 144 [] []))] []=some (Ac false,[]):=D7 (n:=10) (by kernel_rfl);refine fnO v93 ?_;unfold v93;simp(disch:=try exact zd) [hcon,hall,hs,Ty.kind,Ty.name,Ty.id,Ty.home,Ty.args,-getElem?_pos]
 refine fnO v91 ?_;simp[tyV,Ty.row,Ty.rows]at hv;unfold v91;simp(disch:=try exact zd) [hv,-getElem?_pos]
end Go.Vs.Tryz
namespace Go.Vs
open Go
theorem Ty.ind {P:Ty->Prop}(h:∀t:Ty,(∀x∈t.args,P x)->P t)(t:Ty):P t:=by
 have:∀(n:Nat) (t:Ty),t.size<=n->P t:=by
  intro n
  induction n with
  |zero=>
   intro t ht;have:=t.size_pos;omega
  |succ n ih=>
   intro t ht;exact h t fun x hx=>ih x (by have:=Ty.arg_lt hx;omega)
 exact this t.size t (qg _)
mutual
def Ty.all (p:Ty->Prop):Ty->Prop
 |.mk k n i h a=>p (.mk k n i h a)/\Ty.alls p a
def Ty.alls (p:Ty->Prop):List Ty->Prop
 |[]=>True
 |t::r=>Ty.all p t/\Ty.alls p r
end
theorem Ty.alls_iff {p:Ty->Prop}:∀{l:List Ty},Ty.alls p l↔∀x∈l,Ty.all p x
 |[]=>by simp[Ty.alls]
 |t::r=>by simp[Ty.alls,Ty.alls_iff (l:=r)]
theorem Ty.all_iff {p:Ty->Prop}{t:Ty}:Ty.all p t↔p t/\∀x∈t.args,Ty.all p x:=by
 cases t;simp[Ty.all,Ty.args,Ty.alls_iff]
theorem Ty.all.one {p:Ty->Prop}{t:Ty}(h:Ty.all p t):p t:=(Ty.all_iff.1 h).1
theorem Ty.all.arg {p:Ty->Prop}{t x:Ty}(h:Ty.all p t)(hx:x∈t.args):Ty.all p x:=(Ty.all_iff.1 h).2 x hx
theorem Ty.all.mono {p q:Ty->Prop}(hpq:∀t,p t->q t)(t:Ty):Ty.all p t->Ty.all q t:=by
 induction t using Ty.ind<;>grind[Ty.all_iff]
mutual
def Ty.map (f:Ty->Option Ty):Ty->Ty
 |.mk k n i h a=>match f (.mk k n i h a)with
  |some u=>u
  |none=>.mk k n i h (Ty.maps f a)
def Ty.maps (f:Ty->Option Ty):List Ty->List Ty
 |[]=>[]
 |t::r=>Ty.map f t::Ty.maps f r
end
theorem Ty.maps_map {f:Ty->Option Ty}:∀(l:List Ty),Ty.maps f l=l.map (Ty.map f)
 |[]=>by rfl
 |t::r=>by simp[Ty.maps,Ty.maps_map r]
theorem Ty.map_some {f:Ty->Option Ty}{t u:Ty}(h:f t=some u):Ty.map f t=u:=by
 cases t;simp only[Ty.map,h]
theorem Ty.map_none {f:Ty->Option Ty}{t:Ty}(h:f t=none):Ty.map f t=.mk t.kind t.name t.id t.home (t.args.map (Ty.map f)):=by
 cases t;grind[Ty.map,Ty.maps_map,Ty.kind,Ty.name,Ty.id,Ty.home,Ty.args]
theorem Ty.map_all {f:Ty->Option Ty}{p q:Ty->Prop}(h1:∀t u,Ty.all p t->f t=some u->Ty.all q u)
 (h2:∀(t:Ty) (a:List Ty),p t->f t=none->a.length=t.args.length->q (.mk t.kind t.name t.id t.home a)) (t:Ty):Ty.all p t->Ty.all q (Ty.map f t):=by
 induction t using Ty.ind with
 |h t ih=>
  intro h;cases hf:f t<;>grind[Ty.map_some,Ty.map_none,Ty.all_iff,Ty.args]
theorem Pl {m:Nat}:∀{l:List Ty}{g:Ty->Ty},(∀x∈l,(g x).size<=x.size*m)->((l.map g).map Ty.size).sum<=(l.map Ty.size).sum*m
 |[],_,_=>by simp
 |a::r,g,h=>by
  have h1:=h a (by simp);have h2:=Pl (l:=r) (g:=g) fun x hx=>h x (by grind);simp only[qu,qaa,qaR];omega
theorem Ty.map_size {f:Ty->Option Ty}{m:Nat}(hm:1<=m)(h1:∀t u,f t=some u->u.size<=t.size*m)(t:Ty):(Ty.map f t).size<=t.size*m:=by
 induction t using Ty.ind with
 |h t ih=>
  cases hf:f t with
  |some u=>grind[Ty.map_some]
  |none=>
   rw[Ty.map_none hf,Ty.size_eq,t.size_eq];have:=Pl (l:=t.args) (g:=Ty.map f) ih;show 1+((t.args.map (Ty.map f)).map Ty.size).sum<=(1+(t.args.map Ty.size).sum)*m;grind
def CK (s:Str)(n:Nat):Prop:=(s=[45,62]/\n=2)\/(s=[73,110,116]/\n=0)\/(s≠[45,62]/\s≠[73,110,116]/\Tryz.nameOk 65 90 s/\n<=4)
def vldN (c:Nat)(t:Ty):Prop:=(t.kind=2->t.id<c/\t.args=[])/\(t.kind=4->t.id=0/\t.home=0/\CK t.name t.args.length)/\(t.kind=5->t.id=0/\t.home=0/\t.args=[]/\Tryz.nameOk 97 122 t.name)/\1<=t.kind/\t.kind<=5
def tyN (n c:Nat)(t:Ty):Prop:=(t.kind=1->0<=t.id/\t.id<n/\t.args=[])/\(t.kind=2->0<=t.id)/\(t.kind=3->t.args=[])/\vldN c t
def tyB (n c:Nat)(t:Ty):Prop:=Ty.all (tyN n c) t
def tyS (n:Nat)(t:Ty):Prop:=tyB n 0 t
theorem T0 {n c:Nat}{t:Ty}:tyB n c t↔tyN n c t/\∀x∈t.args,tyB n c x:=Ty.all_iff
theorem tyB.one {n c:Nat}{t:Ty}(h:tyB n c t):tyN n c t:=Ty.all.one h
theorem tyB.arg {n c:Nat}{t x:Ty}(h:tyB n c t)(hx:x∈t.args):tyB n c x:=Ty.all.arg h hx
theorem tyB.mono {n m c d:Nat}{t:Ty}(h:tyB n c t)(hnm:n<=m)(hcd:c<=d):tyB m d t:=
 Ty.all.mono (fun t ⟨h1,h2,h3,h4,h5⟩=>⟨fun hk=>⟨(h1 hk).1,by omega,(h1 hk).2.2⟩,h2,h3,fun hk=>⟨by omega,(h4 hk).2⟩,h5⟩) t h
theorem Gi {n:Nat}{t:Ty}:tyS n t↔tyN n 0 t/\∀x∈t.args,tyS n x:=Ty.all_iff
theorem tyS.one {n:Nat}{t:Ty}(h:tyS n t):tyN n 0 t:=Ty.all.one h
theorem tyS.arg {n:Nat}{t x:Ty}(h:tyS n t)(hx:x∈t.args):tyS n x:=Ty.all.arg h hx
theorem tyS.mono {n m:Nat}{t:Ty}(h:tyS n t)(hnm:n<=m):tyS m t:=tyB.mono h hnm (qg 0)
theorem tyS.up {n c:Nat}{t:Ty}(h:tyS n t):tyB n c t:=tyB.mono h (qg n) (qac c)
theorem tyN.len {n c:Nat}{t:Ty}{a:List Ty}(h:tyN n c t)(ha:a.length=t.args.length):tyN n c (.mk t.kind t.name t.id t.home a):=by
 have he:t.args=[]->a=[]:=fun h=>qN.1 (by grind);obtain⟨h1,h2,h3,h4,h5,h6,h7⟩:=h;refine⟨fun hk=>⟨(h1 hk).1,(h1 hk).2.1,he (h1 hk).2.2⟩,h2,fun hk=>he (h3 hk),fun hk=>⟨(h4 hk).1,he (h4 hk).2⟩,fun hk=>⟨(h5 hk).1,(h5 hk).2.1,?_⟩,fun hk=>⟨(h6 hk).1,(h6 hk).2.1,he (h6 hk).2.2.1,(h6 hk).2.2.2⟩,h7⟩;show CK t.name a.length;rw[ha];exact(h5 hk).2.2
theorem tyN.noBound {n c d:Nat}{t:Ty}(h:tyN n c t)(hk:t.kind≠2):tyN n d t:=by
 obtain⟨h1,h2,h3,h4,h5⟩:=h;exact⟨h1,h2,h3,fun h=>absurd h hk,h5⟩
theorem tyN.noVar {n m c:Nat}{t:Ty}(h:tyN n c t)(hk:t.kind≠1):tyN m c t:=by
 obtain⟨h1,h2⟩:=h;exact⟨fun h=>absurd h hk,h2⟩
theorem Hk:CK [45,62] 2:=.inl ⟨rfl,rfl⟩
theorem NK {n c:Nat}{s:Str}{l:List Ty}(hs:CK s l.length)(h:∀x∈l,tyB n c x):tyB n c (.mk 4 s 0 0 l):=
 T0.2 ⟨⟨fun hk=>absurd (show(4:Int)=1 from hk) (by decide),fun hk=>absurd (show(4:Int)=2 from hk) (by decide),fun hk=>absurd (show(4:Int)=3 from hk) (by decide),
  fun hk=>absurd (show(4:Int)=2 from hk) (by decide),fun _=>⟨rfl,rfl,hs⟩,fun hk=>absurd (show(4:Int)=5 from hk) (by decide),by show(1:Int)<=4;decide,by show(4:Int)<=5;decide⟩,fun x hx=>h x hx⟩
theorem JM {n:Nat}{s:Str}{l:List Ty}(hs:CK s l.length)(h:∀x∈l,tyS n x):tyS n (.mk 4 s 0 0 l):=NK hs h
theorem Nu {n:Nat}:tyS n (.mk 4 [73,110,116] 0 0 []):=JM (.inr (.inl ⟨rfl,rfl⟩)) fun x hx=>by cases hx
theorem H9 {n i:Nat}(h:i<n):tyS n (.mk 1 [] i 0 []):=
 Gi.2 ⟨⟨fun _=>⟨by show(0:Int)<=i;omega,by show(i:Int)<n;omega,rfl⟩,fun hk=>absurd (show(1:Int)=2 from hk) (by decide),fun hk=>absurd (show(1:Int)=3 from hk) (by decide),
  fun hk=>absurd (show(1:Int)=2 from hk) (by decide),fun hk=>absurd (show(1:Int)=4 from hk) (by decide),fun hk=>absurd (show(1:Int)=5 from hk) (by decide),by show(1:Int)<=1;decide,by show(1:Int)<=5;decide⟩,fun x hx=>by cases hx⟩
theorem NR {n c i:Nat}(h:i<c):tyB n c (.mk 2 [] i 0 []):=
 T0.2 ⟨⟨fun hk=>absurd (show(2:Int)=1 from hk) (by decide),fun _=>by show(0:Int)<=i;omega,fun hk=>absurd (show(2:Int)=3 from hk) (by decide),
  fun _=>⟨by show(i:Int)<c;omega,rfl⟩,fun hk=>absurd (show(2:Int)=4 from hk) (by decide),fun hk=>absurd (show(2:Int)=5 from hk) (by decide),by show(1:Int)<=2;decide,by show(2:Int)<=5;decide⟩,fun x hx=>by cases hx⟩
theorem K8 {n:Nat}{i h:Int}:tyS n (.mk 3 [] i h []):=
 Gi.2 ⟨⟨fun hk=>absurd (show(3:Int)=1 from hk) (by decide),fun hk=>absurd (show(3:Int)=2 from hk) (by decide),fun _=>rfl,
  fun hk=>absurd (show(3:Int)=2 from hk) (by decide),fun hk=>absurd (show(3:Int)=4 from hk) (by decide),fun hk=>absurd (show(3:Int)=5 from hk) (by decide),by show(1:Int)<=3;decide,by show(3:Int)<=5;decide⟩,fun x hx=>by cases hx⟩
theorem ZZ {n:Nat}{s:Str}(hs:Tryz.nameOk 97 122 s):tyS n (.mk 5 s 0 0 []):=
 Gi.2 ⟨⟨fun hk=>absurd (show(5:Int)=1 from hk) (by decide),fun hk=>absurd (show(5:Int)=2 from hk) (by decide),fun hk=>absurd (show(5:Int)=3 from hk) (by decide),
  fun hk=>absurd (show(5:Int)=2 from hk) (by decide),fun hk=>absurd (show(5:Int)=4 from hk) (by decide),fun _=>⟨rfl,rfl,rfl,hs⟩,by show(1:Int)<=5;decide,by show(5:Int)<=5;decide⟩,fun x hx=>by cases hx⟩
def Gf (args:List Ty)(t:Ty):Option Ty:=if t.kind=2/\0<=t.id/\t.id<args.length then args[t.id.toNat]? else none
def Cp (args:List Ty):Ty->Ty:=Ty.map (Gf args)
def E6 (s:List AssD)(t:Ty):Ty:=match s.find? (fun a=>decide (a.id=t.id))with
 |some a=>a.ty
 |none=>t
def CT (s:List AssD)(t:Ty):Option Ty:=if t.kind=1 then some (E6 s t) else none
def Bp (s:List AssD):Ty->Ty:=Ty.map (CT s)
def idxS (l:List Str)(s:Str):Int:=match l.findIdx? (fun x=>decide (x=s))with
 |some i=>i
 |none=>-1
def G0 (l:List Str)(t:Ty):Option Ty:=if t.kind=5 then some (if idxS l t.name>=0 then .mk 2 [] (idxS l t.name) 0 [] else t) else none
def BJ (l:List Str):Ty->Ty:=Ty.map (G0 l)
def DF (t:Ty):Option Ty:=if t.kind=3/\t.home=99 then some (.mk 1 [] (900+t.id) 0 []) else none
def Cf:Ty->Ty:=Ty.map DF
theorem Oz {n:Nat}{args:List Ty}(h:∀x∈args,tyS n x){t:Ty}(ht:tyB n args.length t):tyS n (Cp args t):=by
 refine Ty.map_all (p:=tyN n args.length) (q:=tyN n 0) ?_ ?_ t ht
 .intro t u _ hf
  unfold Gf at hf;split at hf
  .exact h u (qc hf)
  grind
 .intro t a hp hf ha
  refine(hp.noBound fun hk=>?_).len ha;have h0:=hp.2.1 hk;have h1:=(hp.2.2.2.1 hk).1;grind[Gf]
theorem NU {m:Nat}(hm:1<=m){args:List Ty}(h:∀x∈args,x.size<=m)(t:Ty):(Cp args t).size<=t.size*m:=by
 refine Ty.map_size hm ?_ t;intro t u hf;unfold Gf at hf;split at hf
 .have h1:=h u (qc hf)
  have h2:=t.size_pos;have:=qE m h2;omega
 grind
theorem XZ (l:List Str)(s:Str):idxS l s<l.length:=by
 grind[idxS,qaD]
theorem NC {n:Nat}{l:List Str}{t:Ty}(ht:tyS n t):tyB n l.length (BJ l t):=by
 refine Ty.map_all (p:=tyN n 0) (q:=tyN n l.length) ?_ ?_ t ht
 .intro t u hp hf
  unfold G0 at hf;split at hf
  .cases hf
   split
   .rename_i hi
    obtain⟨i,hi2⟩:∃i:Nat,idxS l t.name=i:=⟨(idxS l t.name).toNat,by omega⟩;have:=XZ l t.name;rw[hi2]at this |-;exact NR (by omega)
   .exact tyB.mono hp (qg n) (qac _)
  grind
 .intro t a hp _ ha
  exact(hp.noBound fun hk=>by have h0:=hp.2.1 hk;have h1:=(hp.2.2.2.1 hk).1;omega).len ha
theorem OL (l:List Str)(t:Ty):(BJ l t).size<=t.size:=by
 have h:=Ty.map_size (f:=G0 l) (m:=1) (qg _) ?_ t
 .unfold BJ
  omega
 .intro t u hf
  unfold G0 at hf;split at hf
  .cases hf
   split
   .have:=t.size_pos
    grind[Ty.size_leaf]
   simp
  grind
def Ee (l:List Int)(t:Ty):Prop:=Ty.all (fun u=>u.kind=1->u.id∈l) t
theorem Zy {n:Nat}{l:List Int}(t:Ty):tyS n t->Ee l t->Ty.all (fun u=>tyN n 0 u/\(u.kind=1->u.id∈l)) t:=by
 induction t using Ty.ind with
 |h t ih=>
  intro h1 h2;exact Ty.all_iff.2 ⟨⟨h1.one,Ty.all.one h2⟩,fun x hx=>ih x hx (h1.arg hx) (Ty.all.arg h2 hx)⟩
theorem K6 {n m c:Nat}{l:List Int}{s:List AssD}(hs:∀i∈l,∃a∈s,a.id=i)(hm:∀a∈s,tyB m c a.ty){t:Ty}(ht:tyS n t)(hv:Ee l t):tyB m c (Bp s t):=by
 refine Ty.map_all (p:=fun u=>tyN n 0 u/\(u.kind=1->u.id∈l)) (q:=tyN m c) ?_ ?_ t (Zy t ht hv)
 .intro t u hp hf
  unfold CT at hf;split at hf
  .rename_i hk
   cases hf;obtain⟨a,ha,hai⟩:=hs _ (hp.one.2 hk);unfold E6;split
   .rename_i b hb
    exact hm b (qaK hb)
   grind
  grind
 .intro t a ⟨hp,_⟩ hf ha
  have hk:t.kind≠1:=by
   grind[CT]
  exact((hp.noVar hk).noBound fun hk=>by have h0:=hp.2.1 hk;have h1:=(hp.2.2.2.1 hk).1;omega).len ha
theorem LX {m:Nat}(hm:1<=m){s:List AssD}(h:∀a∈s,a.ty.size<=m)(t:Ty):(Bp s t).size<=t.size*m:=by
 refine Ty.map_size hm ?_ t;intro t u hf;have h2:=t.size_pos;unfold CT at hf;split at hf
 .cases hf
  unfold E6;split
  .rename_i b hb
   have h1:=h b (qaK hb);have:=qE m h2;omega
  .have:=qax t.size hm
   omega
 grind
theorem Uc {s:List AssD}{c:Nat}(t:Ty):tyB 0 c t->Bp s t=t:=by
 induction t using Ty.ind with
 |h t ih=>
  intro h;have hk:t.kind≠1:=fun hk=>by
   have:=(h.one.1 hk);omega
  have hf:CT s t=none:=by grind[CT]
  unfold Bp;have e:t.args.map (Ty.map (CT s))=t.args:=(qK (g:=id) fun x hx=>ih x hx (h.arg hx)).trans (List.map_id _);rw[Ty.map_none hf,e];cases t;rfl
theorem ZdG (t:Ty):(Cf t).size<=t.size:=by
 have h:=Ty.map_size (f:=DF) (m:=1) (qg _) ?_ t
 .unfold Cf
  omega
 .intro t u hf
  have:=t.size_pos;grind[DF,Ty.size_leaf]
def Mn (l:List Int)(t:Ty):Prop:=Ty.all (fun u=>u.kind=3/\u.home=99->0<=u.id/\900+u.id∈l) t
theorem Z9 {l:List Int}{n:Nat}(hl:∀i∈l,i<n)(t:Ty):tyS 0 t->Mn l t->tyS n (Cf t)/\Ee l (Cf t):=by
 induction t using Ty.ind with
 |h t ih=>
  intro h1 h2;by_cases hk:t.kind=3/\t.home=99
  .have hf:DF t=some (.mk 1 [] (900+t.id) 0 []):=by grind [DF]
   obtain⟨h3,h4⟩:=Ty.all.one h2 hk;have h5:=hl _ h4;unfold Cf;rw[Ty.map_some hf];obtain⟨i,hi⟩:∃i:Nat,900+t.id=i:=⟨(900+t.id).toNat,by omega⟩;rw[hi]at h4 h5 |-;exact⟨H9 (by omega),Ty.all_iff.2 ⟨fun _=>h4,fun x hx=>by cases hx⟩⟩
  .have hf:DF t=none:=by grind [DF]
   have hk1:t.kind≠1:=fun hk=>by
    have:=(h1.one.1 hk);omega
   unfold Cf;rw[Ty.map_none hf];refine⟨Gi.2 ⟨(h1.one.noVar hk1).len (by simp),?_⟩,Ty.all_iff.2 ⟨fun h=>absurd h hk1,?_⟩⟩
   .intro x hx
    obtain⟨y,hy,rfl⟩:=qH.1 (show x∈t.args.map (Ty.map DF)from hx);exact(ih y hy (h1.arg hy) (Ty.all.arg h2 hy)).1
   .intro x hx
    obtain⟨y,hy,rfl⟩:=qH.1 (show x∈t.args.map (Ty.map DF)from hx);exact(ih y hy (h1.arg hy) (Ty.all.arg h2 hy)).2
def leafIn (k:Int)(l:List Ty)(t:Ty):Prop:=Ty.all (fun u=>u.kind=k->u.args=[]->u∈l) t
theorem leafIn.mono {k:Int}{l m:List Ty}(h:∀x∈l,x∈m){t:Ty}(ht:leafIn k l t):leafIn k m t:=Ty.all.mono (fun _ h1 h2 h3=>h _ (h1 h2 h3)) t ht
end Go.Vs
namespace Go.Vs.Tryz
open Go Go.Vs
variable {A:Af}
theorem Y1 (l m:List Ty)(hl:l.length<=687194767360)(ih:∀x∈l,∀b,∃r,JZ r/\(K A).call 52 [tyV x,tyV b] []=some r):∃r,JZ r/\(K A).call 107 [tysV l,tysV m] []=some r:=by
 refine fnE v107 ?_;unfold v107;by_cases hn:l.length=m.length
 .simp (disch:=try exact zd) [hn]
  refine Ak (fun i s=>s=⟨[(0,tysV l),(1,tysV m),(5,intV i)],[]⟩) l.length (by simp) ?_ ?_
  .rintro i s hi rfl
   obtain⟨x,hx⟩:=Ae hi;obtain⟨y,hy⟩:=Ae (l:=m) (i:=i) (by omega);obtain⟨_,⟨b,rfl⟩,hc⟩:=ih x (qc hx) y;unfold HV;cases b with
   |true=>simp(disch:=try exact zd) [hi,hx,hy,hc,-getElem?_pos]
   |false=>
    simp(disch:=try exact zd) [hi,hx,hy,hc,-getElem?_pos];exact⟨false,rfl⟩
  .rintro s rfl
   unfold HV;simp(disch:=try exact zd);exact⟨true,rfl⟩
 .have hn':¬(l.length:Int)=m.length:=by omega
  simp(disch:=try exact zd) [hn,hn'];exact⟨false,rfl⟩
theorem Po:∀(n:Nat)(a b:Ty),a.size<=n->n<=687194767360->∃r,JZ r/\(K A).call 52 [tyV a,tyV b] []=some r:=by
 intro n
 induction n with
 |zero=>
  intro a b ha;have:=a.size_pos;omega
 |succ n ih=>
  intro a b ha hn;have hal:=a.args_lt;obtain⟨_,⟨v,rfl⟩,hc⟩:=Y1 (A:=A) a.args b.args (by omega) (fun x hx b=>ih x b (by have:=Ty.arg_lt hx;omega) (by omega));refine fnE v52 ?_;unfold v52;by_cases h1:a.kind=b.kind
  .by_cases h2:a.name=b.name
   .by_cases h3:a.id=b.id
    .by_cases h4:a.home=b.home
     .simp (disch:=try exact zd) [h1,h2,h3,h4,hc]
      exact⟨v,rfl⟩
     .simp (disch:=try exact zd) [h1,h2,h3,h4,hc]
      exact⟨false,rfl⟩
    .simp (disch:=try exact zd) [h1,h2,h3,hc]
     exact⟨false,rfl⟩
   .simp (disch:=try exact zd) [h1,h2,hc]
    exact⟨false,rfl⟩
  .simp (disch:=try exact zd) [h1,hc]
   exact⟨false,rfl⟩
def Zf3 (n m:Nat)(r:V×List Obj):Prop:=∃out:List Ty,n<=out.length/\out.length<=m/\(∀x∈out,x.size<=687194767360)/\r=(.sc (.arr 0 out.length),[.arr 5 (wr (Ty.rows out)) 0])
def Zgi (m:Nat)(r:V×List Obj):Prop:=∃ids:List Int,ids.length<=m/\r=(Cl ids,[])
variable {A:Af}
def TyP (r:V×List Obj):Prop:=∃t:Ty,r=(tyV t,[])
def ZfV (r:V×List Obj):Prop:=∃(c:Int)(t:Ty),r=(schV c t,[])
theorem G3 {m:Nat}:∀{l:List Ty},(∀x∈l,x.size<=m)->(l.map Ty.size).sum<=l.length*m
 |[],_=>by simp
 |a::r,h=>by
  have h1:=h a (by simp);have h2:=G3 (l:=r) fun x hx=>h x (by simp[hx]);simp only[qu,qaa,qG,Nat.succ_mul];omega
def Zgt (L:List Int)(m:Nat)(r:V×List Obj):Prop:=∃t J,t.size<=m/\J<=L.length/\r=(tyV t,[Am L J])
def Zf8 (L:List Int)(ds:List DataD)(ls:List Ty)(dd:DataD)(d i:Nat)(s:St):Prop:=∃tys J,tys.length=i/\(∀x∈tys,x.size<=5 ^ d)/\J<=L.length/\
 s=⟨[(0,.sc (.ptr 0 0)),(1,Ar ds),(2,tysV ls),(3,intV (d+1)),(8,.sc (.ptr 64 0)),(10,.sc (.ptr 3392 0)),(11,.sc (.arr 3521 i)),(12,intV i)],
  [(0,some (Am L J)),(64,some (.box [zi,zs,zi,zi,.nil])),(3392,some (.box (wc (A8 dd)))),(3521,some (.arr 5 (wr (Ty.rows tys)) 0))]⟩
variable {A:Af}
theorem Gk (t:Ty):(∃a b,t.args=[a,b]/\(K A).call 84 [tyV t] []=some (.tu [tyV a,tyV b,Ac true],[]))\/(K A).call 84 [tyV t] []=some (.tu [tyV (.mk 0 [] 0 0 []),tyV (.mk 0 [] 0 0 []),Ac false],[]):=by
 by_cases h:t.kind=4/\t.name=[45,62]/\t.args.length=2
 .obtain ⟨h1,h2,h3⟩:=h
  left;obtain⟨a,b,hab⟩:∃a b,t.args=[a,b]:=by
   match hl:t.args,h3 with
   |[a,b],_=>exact⟨a,b,rfl⟩
  refine⟨a,b,hab,?_⟩;have hr:Ty.rows [a,b]=[a.row,b.row]:=by simp[Ty.rows]
  refine fnO v84 ?_;unfold v84;simp(disch:=try exact zd) [h1,h2,hab,hr]
 .right
  refine fnO v84 ?_;unfold v84;by_cases h1:t.kind=4
  .by_cases h2:t.name=[45,62]
   .have h3:¬t.args.length=2:=fun h3=>h ⟨h1,h2,h3⟩
    have h3':¬(t.args.length:Int)=2:=(by omega);simp(disch:=try exact zd) [h1,h2,h3,h3',Ty.row]
   .simp(disch:=try exact zd) [h1,h2,Ty.row]
  .simp(disch:=try exact zd) [h1,Ty.row]
def HasK (k:Int)(t:Ty)(r:V×List Obj):Prop:=∃b:Bool,(b=false->Ty.all (fun u=>u.kind≠k) t)/\r=(Ac b,[])
theorem Qb (k:Int)(t:Ty):t.size<=687194767360->∃r,HasK k t r/\(K A).call 88 [tyV t,intV k] []=some r:=by
 induction t using Ty.ind with
 |h t ih=>
 intro ht;have hal:=t.args_lt;refine fnE v88 ?_;unfold v88;by_cases h1:t.kind=k
 .simp (disch:=try exact zd) [h1]
  exact⟨true,fun h=>(by cases h),rfl⟩
 .simp (disch:=try exact zd) [h1]
  refine Ak (fun i s=>(∀(j:Nat) y,j<i->t.args[j]?=some y->Ty.all (fun u=>u.kind≠k) y)/\s=⟨[(1,intV k),(2,.sc (.ptr 64 0)),(5,intV i)],[(64,some (.box (wc t.row)))]⟩) t.args.length ⟨by omega,by simp⟩ ?_ ?_
  .rintro i s hi ⟨hno,rfl⟩
   obtain⟨x,hx⟩:=Ae hi;have hxs:=Ty.arg_lt (qc hx);obtain⟨_,⟨b,hb,rfl⟩,hc⟩:=ih x (qc hx) (by omega);unfold MB;cases b with
   |true=>
    simp(disch:=try exact zd) [hi,hx,hc,-getElem?_pos];exact⟨true,fun h=>(by cases h),rfl⟩
   |false=>
    simp(disch:=try exact zd) [hi,hx,hc,-getElem?_pos];intro j y hj hy;by_cases hji:j<i
    .exact hno j y hji hy
    .obtain rfl:j=i:=by omega
     rw[hx]at hy;cases hy;exact hb rfl
  .rintro s ⟨hno,rfl⟩
   unfold MB;simp(disch:=try exact zd) [-getElem?_pos];refine⟨false,fun _=>Ty.all_iff.2 ⟨h1,fun y hy=>?_⟩,rfl⟩;obtain⟨j,hj,he⟩:=qO hy;exact hno j y hj (by rw[qi hj,he])
theorem V7 {l:List Str}{s:Str}{i:Nat}(h:l[i]?=some s)(hn:∀j,j<i->l[j]?≠some s):idxS l s=i:=by
 unfold idxS;have:l.findIdx? (fun x=>decide (x=s))=some i:=by
  rw[qaD];obtain⟨hi,he⟩:=qf.1 h;refine⟨hi,by simpa using he,fun j hj=>?_⟩;have:=hn j hj;rw[qi (by omega)]at this;simpa using this
 rw[this]
theorem ZcA {l:List Str}{s:Str}(hn:∀j:Nat,j<l.length->l[j]?≠some s):idxS l s=-1:=by
 unfold idxS;have:l.findIdx? (fun x=>decide (x=s))=none:=by
  rw[List.findIdx?_eq_none_iff];intro x hx;obtain⟨j,hj,rfl⟩:=qO hx;have:=hn j hj;rw[qi hj]at this;simpa using this
 rw[this]
theorem OZ (l:List Str)(s:Str)(h:l.length<=687194767360):(K A).call 168 [AM l,strV s] []=some (intV (idxS l s),[]):=by
 refine fnO v168 ?_;unfold v168;simp(disch:=try exact zd);refine Ak (fun i t=>(∀j,j<i->l[j]?≠some s)/\t=⟨[(0,AM l),(1,strV s),(5,intV i)],[]⟩) l.length ⟨by simp,by simp⟩ ?_ ?_
 .rintro i t hi ⟨hn,rfl⟩
  obtain⟨x,hx⟩:=Ae hi;unfold MA;by_cases hxs:x=s
  .subst hxs
   have:=V7 hx hn;simp(disch:=try exact zd) [hi,hx,this,-getElem?_pos]
  .simp (disch:=try exact zd) [hi,hx,hxs,-getElem?_pos]
   intro j hj;by_cases hji:j<i
   .exact hn j hji
   .obtain rfl:j=i:=by omega
    rw[hx];simpa using hxs
 .rintro t ⟨hn,rfl⟩
  have:=ZcA hn;unfold MA;simp(disch:=try exact zd) [this,-getElem?_pos]
theorem Ic (t:Ty)(l:List Ty):(Ty.mk t.kind t.name t.id t.home l).row=[.int .i64 t.kind,.str t.name,.int .i64 t.id,.int .i64 t.home,.sl (Ty.rows l)]:=by rw[Ty.row]
theorem LP (l:List Str)(hl:l.length<=687194767360)(t:Ty):t.size<=687194767360->(K A).call 117 [tyV t,AM l] []=some (tyV (BJ l t),[]):=by
 induction t using Ty.ind with
 |h t ih=>
 intro ht;have hal:=t.args_lt;refine fnO v117 ?_;unfold v117;by_cases h1:t.kind=5
 .have hx:=OZ (A:=A) l t.name hl
  have hb:=Lq (A:=A) (idxS l t.name);have hm:BJ l t=if idxS l t.name>=0 then .mk 2 [] (idxS l t.name) 0 [] else t:=Ty.map_some (by unfold G0;rw[if_pos h1])
  by_cases h2:idxS l t.name>=0
  .rw [if_pos h2] at hm
   simp(disch:=try exact zd) [h1,hx,h2,hb,hm]
  .rw [if_neg h2] at hm
   simp(disch:=try exact zd) [h1,hx,h2,hm]
 .have hm:BJ l t=.mk t.kind t.name t.id t.home (t.args.map (BJ l)):=Ty.map_none (by unfold G0;rw [if_neg h1])
  simp(disch:=try exact zd) [h1];simp(disch:=try exact zd) [Ty.row_eq t];refine Ak (fun i st=>st=⟨[(1,AM l),(2,.sc (.ptr 64 0)),(4,.sc (.ptr 128 0)),(6,.sc (.ptr 1216 0)),(7,intV i)],
   [(64,some (.box [.c (.int .i64 t.kind),.c (.str t.name),.c (.int .i64 t.id),.c (.int .i64 t.home),.c (.sl (Ty.rows t.args))])),(128,some (.box [zi,zs,zi,zi,.nil])),
     (1216,some (.box [.c (.int .i64 t.kind),.c (.str t.name),.c (.int .i64 t.id),.c (.int .i64 t.home),.arr 1409 i])),(1409,some (.arr 5 (wr (Ty.rows ((t.args.map (BJ l)).take i))) 0))]⟩) t.args.length (by simp) ?_ ?_
  .rintro i st hi rfl
   obtain⟨x,hx⟩:=Ae hi;have hxs:=Ty.arg_lt (qc hx);have hc:=ih x (qc hx) (by omega);have hmx:(t.args.map (BJ l))[i]?=some (BJ l x):=(by rw[qq,hx];rfl);have hlen:((t.args.map (BJ l)).take i).length=i:=(by simp;omega);unfold Mu;simp(disch:=try exact zd) [hi,hx,hc,hlen,Bh hmx,-getElem?_pos]
  .rintro st rfl
   have htk:(t.args.map (BJ l)).take t.args.length=t.args.map (BJ l):=qj (by simp);unfold Mu;simp(disch:=try exact zd) [htk,hm,Ic,-getElem?_pos]
variable {A:Af}
theorem KY (args:List Ty)(hl:args.length<=687194767360)(t:Ty):t.size<=687194767360->(K A).call 119 [tyV t,tysV args] []=some (tyV (Cp args t),[]):=by
 induction t using Ty.ind with
 |h t ih=>
 intro ht;have hal:=t.args_lt;refine fnO v119 ?_;unfold v119;by_cases h1:t.kind=2/\0<=t.id/\t.id<args.length
 .obtain ⟨ha,hb,hc⟩:=h1
  obtain⟨k,hk⟩:∃k:Nat,t.id=k:=⟨t.id.toNat,by omega⟩;obtain⟨x,hx⟩:=Ae (l:=args) (i:=k) (by omega);have hm:Cp args t=x:=Ty.map_some (by unfold Gf;rw[if_pos ⟨ha,hb,hc⟩,hk];simpa using hx);have hk2:(k:Int)<args.length:=by omega
  simp(disch:=try exact zd) [ha,hk,hk2,hx,hm,-getElem?_pos]
 .have hm:Cp args t=.mk t.kind t.name t.id t.home (t.args.map (Cp args)):=Ty.map_none (by unfold Gf;rw [if_neg h1])
  have fin:wp (K A) (.loop Jl) (Bx 0 (BN (K A) (.seq (.region [] [o 48 (.ldD true 5 (tv 5)),on (.store 5 (tv 4) (tv 48) [])] [] [4]) .ret) (C8 false 0 [.cell 4 true 5] (tyV (Cp args t),[]))))
   ⟨[(1,tysV args),(2,.sc (.ptr 64 0)),(4,.sc (.ptr 128 0)),(5,.sc (.ptr 1600 0)),(6,intV 0)],
     [(64,some (.box [.c (.int .i64 t.kind),.c (.str t.name),.c (.int .i64 t.id),.c (.int .i64 t.home),.c (.sl (Ty.rows t.args))])),(128,some (.box [zi,zs,zi,zi,.nil])),
       (1600,some (.box [.c (.int .i64 t.kind),.c (.str t.name),.c (.int .i64 t.id),.c (.int .i64 t.home),.arr 1793 0])),(1793,some (.arr 5 [] 0))]⟩:=by
   refine Ak (fun i st=>st=⟨[(1,tysV args),(2,.sc (.ptr 64 0)),(4,.sc (.ptr 128 0)),(5,.sc (.ptr 1600 0)),(6,intV i)],
    [(64,some (.box [.c (.int .i64 t.kind),.c (.str t.name),.c (.int .i64 t.id),.c (.int .i64 t.home),.c (.sl (Ty.rows t.args))])),(128,some (.box [zi,zs,zi,zi,.nil])),
      (1600,some (.box [.c (.int .i64 t.kind),.c (.str t.name),.c (.int .i64 t.id),.c (.int .i64 t.home),.arr 1793 i])),(1793,some (.arr 5 (wr (Ty.rows ((t.args.map (Cp args)).take i))) 0))]⟩) t.args.length (by simp) ?_ ?_
   .rintro i st hi rfl
    obtain⟨x,hx⟩:=Ae hi;have hxs:=Ty.arg_lt (qc hx);have hc:=ih x (qc hx) (by omega);have hmx:(t.args.map (Cp args))[i]?=some (Cp args x):=(by rw[qq,hx];rfl);have hlen:((t.args.map (Cp args)).take i).length=i:=(by simp;omega);unfold Jl;simp(disch:=try exact zd) [hi,hx,hc,hlen,Bh hmx,-getElem?_pos]
   .rintro st rfl
    have htk:(t.args.map (Cp args)).take t.args.length=t.args.map (Cp args):=qj (by simp);unfold Jl;simp(disch:=try exact zd) [htk,hm,Ic,-getElem?_pos]
  by_cases ha:t.kind=2
  .by_cases hb:0<=t.id
   .have hc:¬t.id<args.length:=fun hc=>h1 ⟨ha,hb,hc⟩
    simp(disch:=try exact zd) [ha,hb,hc];simp(disch:=try exact zd) [Ty.row_eq t];exact fin
   .simp (disch:=try exact zd) [ha,hb]
    simp(disch:=try exact zd) [Ty.row_eq t];exact fin
  .simp (disch:=try exact zd) [ha]
   simp(disch:=try exact zd) [Ty.row_eq t];exact fin
def rigB (t:Ty):Prop:=Ty.all (fun u=>u.kind=3/\u.home=99->0<=u.id/\u.id<=1000) t
theorem Yi (t:Ty):t.size<=687194767360->rigB t->(K A).call 188 [tyV t] []=some (tyV (Cf t),[]):=by
 induction t using Ty.ind with
 |h t ih=>
 intro ht hr;have hal:=t.args_lt;refine fnO v188 ?_;unfold v188;by_cases h1:t.kind=3/\t.home=99
 .obtain ⟨ha,hb⟩:=h1
  have hv:=LY (A:=A) (900+t.id);have hm:Cf t=.mk 1 [] (900+t.id) 0 []:=Ty.map_some (by unfold DF;rw[if_pos ⟨ha,hb⟩]);obtain⟨hr1,hr2⟩:=Ty.all.one hr ⟨ha,hb⟩;simp(disch:=try exact zd) [ha,hb,hv,hm]
 .have hm:Cf t=.mk t.kind t.name t.id t.home (t.args.map Cf):=Ty.map_none (by unfold DF;rw [if_neg h1])
  have fin:wp (K A) (.loop IT) (Bx 0 (BN (K A) (.seq (.region [] [o 37 (.ldD true 5 (tv 3)),on (.store 5 (tv 2) (tv 37) [])] [] [2]) .ret) (C8 false 0 [.cell 2 true 5] (tyV (Cf t),[]))))
   ⟨[(1,.sc (.ptr 64 0)),(2,.sc (.ptr 128 0)),(3,.sc (.ptr 1088 0)),(4,intV 0)],
     [(64,some (.box [.c (.int .i64 t.kind),.c (.str t.name),.c (.int .i64 t.id),.c (.int .i64 t.home),.c (.sl (Ty.rows t.args))])),(128,some (.box [zi,zs,zi,zi,.nil])),
       (1088,some (.box [.c (.int .i64 t.kind),.c (.str t.name),.c (.int .i64 t.id),.c (.int .i64 t.home),.arr 1281 0])),(1281,some (.arr 5 [] 0))]⟩:=by
   refine Ak (fun i st=>st=⟨[(1,.sc (.ptr 64 0)),(2,.sc (.ptr 128 0)),(3,.sc (.ptr 1088 0)),(4,intV i)],
    [(64,some (.box [.c (.int .i64 t.kind),.c (.str t.name),.c (.int .i64 t.id),.c (.int .i64 t.home),.c (.sl (Ty.rows t.args))])),(128,some (.box [zi,zs,zi,zi,.nil])),
      (1088,some (.box [.c (.int .i64 t.kind),.c (.str t.name),.c (.int .i64 t.id),.c (.int .i64 t.home),.arr 1281 i])),(1281,some (.arr 5 (wr (Ty.rows ((t.args.map Cf).take i))) 0))]⟩) t.args.length (by simp) ?_ ?_
   .rintro i st hi rfl
    obtain⟨x,hx⟩:=Ae hi;have hxs:=Ty.arg_lt (qc hx);have hc:=ih x (qc hx) (by omega) (Ty.all.arg hr (qc hx));have hmx:(t.args.map Cf)[i]?=some (Cf x):=(by rw[qq,hx];rfl);have hlen:((t.args.map Cf).take i).length=i:=(by simp;omega);unfold IT;simp(disch:=try exact zd) [hi,hx,hc,hlen,Bh hmx,-getElem?_pos]
   .rintro st rfl
    have htk:(t.args.map Cf).take t.args.length=t.args.map Cf:=qj (by simp);unfold IT;simp(disch:=try exact zd) [htk,hm,Ic,-getElem?_pos]
  by_cases ha:t.kind=3
  .have hb:¬t.home=99:=fun hb=>h1 ⟨ha,hb⟩
   simp(disch:=try exact zd) [ha,hb];simp(disch:=try exact zd) [Ty.row_eq t];exact fin
  .simp (disch:=try exact zd) [ha]
   simp(disch:=try exact zd) [Ty.row_eq t];exact fin
variable {A:Af}
def IffB (P:Prop)(r:V×List Obj):Prop:=∃b:Bool,(b=true↔P)/\r=(Ac b,[])
theorem IffB.yes {P:Prop}(h:P):IffB P (Ac true,[]):=⟨true,by simp[h],rfl⟩
theorem IffB.no {P:Prop}(h:¬P):IffB P (Ac false,[]):=⟨false,by simp[h],rfl⟩
theorem Ty.ext {a b:Ty}(h1:a.kind=b.kind)(h2:a.name=b.name)(h3:a.id=b.id)(h4:a.home=b.home)(h5:a.args=b.args):a=b:=by
 cases a;cases b;grind[Ty.kind,Ty.name,Ty.id,Ty.home,Ty.args]
theorem ZdW {α:Type}{l m:List α}(hn:l.length=m.length)(h:∀(i:Nat)(x y:α),l[i]?=some x->m[i]?=some y->x=y):l=m:=by
 refine qJ fun i=>?_;grind
theorem WF (l m:List Ty)(hl:l.length<=687194767360)(ih:∀x∈l,∀b,∃r,IffB (x=b) r/\(K A).call 52 [tyV x,tyV b] []=some r):∃r,IffB (l=m) r/\(K A).call 107 [tysV l,tysV m] []=some r:=by
 refine Aw _ (vf:=v107) (by rfl) rfl (by simp) ?_;unfold v107;by_cases hn:l.length=m.length
 .simp (disch:=try exact zd) [hn]
  refine Ak (fun i s=>(∀(j:Nat) x y,j<i->l[j]?=some x->m[j]?=some y->x=y)/\s=⟨[(0,tysV l),(1,tysV m),(5,intV i)],[]⟩) l.length ⟨by omega,by simp⟩ ?_ ?_
  .rintro i s hi ⟨hs,rfl⟩
   obtain⟨x,hx⟩:=Ae hi;obtain⟨y,hy⟩:=Ae (l:=m) (i:=i) (by omega);obtain⟨_,⟨b,hb,rfl⟩,hc⟩:=ih x (qc hx) y;unfold HV;cases b with
   |true=>
    have hxy:x=y:=hb.1 rfl;simp(disch:=try exact zd) [hi,hx,hy,hc,-getElem?_pos];grind
   |false=>
    have hne:l≠m:=by
     grind
    simp(disch:=try exact zd) [hi,hx,hy,hc,-getElem?_pos];exact IffB.no hne
  .rintro s ⟨hs,rfl⟩
   have he:l=m:=ZdW hn fun i x y hx hy=>hs i x y (qf.1 hx).1 hx hy;unfold HV;simp(disch:=try exact zd);exact IffB.yes he
 .have hn':¬(l.length:Int)=m.length:=by omega
  have hne:l≠m:=fun h=>hn (by rw[h]);simp(disch:=try exact zd) [hn,hn'];exact IffB.no hne
theorem SM:∀(n:Nat)(a b:Ty),a.size<=n->n<=687194767360->∃r,IffB (a=b) r/\(K A).call 52 [tyV a,tyV b] []=some r:=by
 intro n
 induction n with
 |zero=>
  intro a b ha;have:=a.size_pos;omega
 |succ n ih=>
  intro a b ha hn;have hal:=a.args_lt;obtain⟨_,⟨v,hv,rfl⟩,hc⟩:=WF (A:=A) a.args b.args (by omega) (fun x hx b=>ih x b (by have:=Ty.arg_lt hx;omega) (by omega));refine Aw _ (vf:=v52) (by rfl) rfl (by simp) ?_;unfold v52;by_cases h1:a.kind=b.kind
  .by_cases h2:a.name=b.name
   .by_cases h3:a.id=b.id
    .by_cases h4:a.home=b.home
     .simp (disch:=try exact zd) [h1,h2,h3,h4,hc]
      exact⟨v,hv.trans ⟨fun h5=>Ty.ext h1 h2 h3 h4 h5,fun h=>by rw[h]⟩,rfl⟩
     .simp (disch:=try exact zd) [h1,h2,h3,h4,hc]
      grind[IffB.no]
    .simp (disch:=try exact zd) [h1,h2,h3,hc]
     grind[IffB.no]
   .simp (disch:=try exact zd) [h1,h2,hc]
    grind[IffB.no]
  .simp (disch:=try exact zd) [h1,hc]
   grind[IffB.no]
end Go.Vs.Tryz
