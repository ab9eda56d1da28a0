/- All names, and renaming, by the program, walked. -/
import Derived.Test.YtccmnfpbcmccpaaGreatDoorRFs
set_option linter.unusedSimpArgs false
set_option linter.unusedVariables false
set_option linter.deprecated false
set_option maxRecDepth 9999
set_option maxHeartbeats 16000000
set_option maxRecDepth 10000
namespace Go.Vs.Tryz
open Go Go.Vs
variable {A:Zab}
def ZeE (e:Exp):Nat->List Str
 |0=>[e.name]
 |i+1=>ZeE e i++(match e.children[i]? with | some x=>e.bound i++allP x | none=>[])
theorem ZgL {e x:Exp}{i:Nat}(h:e.children[i]?=some x):ZeE e (i+1)=ZeE e i++e.bound i++allP x:=by
 simp only[ZeE,h,qab]
theorem Zig (e:Exp):ZeE e e.children.length=allP e:=by
 have key:∀i,i<=e.children.length->ZeE e i=e.name::(((e.children.map allP).zipIdx.take i).map fun p=>e.bound p.2++p.1).flatten:=by
  intro i
  induction i with
  |zero=>intro _;rfl
  |succ i ih=>
   intro hi;obtain⟨x,hx⟩:=Zaa (l:=e.children) (i:=i) (by omega);have hz:((e.children.map allP).zipIdx)[i]?=some (allP x,i):=(by simp[hx]);rw[ZgL hx,ih (by omega),Zam hz];simp
 rw[key _ (qe _),qf (by simp),Zsh]
def Zkx (e:Exp):Nat->Nat
 |0=>0
 |i+1=>Zkx e i+(e.bound i).length
theorem ZpP (e:Exp)(hw:e.wf1)(hk:e.kind=8):∀i,i<=e.arms.length->Zkx e (i+1)<=((e.arms.take i).map fun a=>a.1.vars.length).sum
 |0,_=>by
  simp only[Zkx];rw[ZaM,if_neg (by omega),if_neg (by omega)];simp
 |i+1,hi=>by
  obtain⟨a,ha⟩:=Zaa (l:=e.arms) (i:=i) (by omega);have h:=ZpP e hw hk i (by omega);have hb:(e.bound (i+1)).length=a.1.vars.length:=by
   rw[ZaM,if_neg (by omega),if_pos ⟨hk,by omega⟩,qaX,ha];rfl
  rw[Zkx,hb,Zam ha];simp only[qaf,qaz,qq,qX,qS,qaQ];omega
theorem Zh3 (e:Exp)(hk:e.kind≠8):∀i,Zkx e i<=i
 |0=>qe _
 |i+1=>by
  have h:=Zh3 e hk i;simp only[Zkx];rcases ZrS hk i with hb|hb<;>rw[hb]<;>simp<;>omega
theorem Zee (e:Exp):e.wf->(allP e).length+1<=2*e.weight:=by
 induction e using Exp.ind with
 |h e ih=>
  intro hw;have key:∀i,i<=e.children.length->(ZeE e i).length+i<=1+Zkx e i+2*((e.children.take i).map Exp.weight).sum:=by
   intro i
   induction i with
   |zero=>intro _;simp[ZeE,Zkx]
   |succ i ihi=>
    intro hi;obtain⟨x,hx⟩:=Zaa (l:=e.children) (i:=i) (by omega);have h1:=ihi (by omega);have h2:=ih x (qa hx) (hw.child (qa hx));rw[ZgL hx,Zam hx];simp only[qv,qaf,qaz,qq,qX,qS,qaQ,Zkx];omega
  have h:=key _ (qe _);rw[Zig,qf (qe _)]at h;rw[e.weight_eq];by_cases hk:e.kind=8
  .have h1:=hw.one.1 hk
   have h2:=ZpP e hw.one hk e.arms.length (qe _);rw[qf (qe _)]at h2;rw[e.children_len,h1,qbk 1]at h;omega
  .have h2:=Zh3 e hk e.children.length
   omega
theorem ZvR {e:Exp}(hw:e.wf):∀i,i<=e.children.length->(ZeE e i).length<=(allP e).length:=by
 intro i hi;rw[<-Zig];have:∀k,(ZeE e i).length<=(ZeE e (i+k)).length:=by
  intro k
  induction k with
  |zero=>exact qe _
  |succ k ih=>
   refine qu ih ?_;show _<=(ZeE e (i+k)++_).length;rw[qv];omega
 have h:=this (e.children.length-i);rwa[show i+(e.children.length-i)=e.children.length by omega]at h
def nmL (e:Exp):Prop:=∀s∈allP e,s.length<=1000
theorem nmL.child {e x:Exp}{i:Nat}(h:nmL e)(hx:e.children[i]?=some x):nmL x:=fun s hs=>h s (ZaH.2 (.inr ⟨i,x,hx,.inr hs⟩))
theorem nmL.bound {e x:Exp}{i:Nat}(h:nmL e)(hx:e.children[i]?=some x):∀s∈e.bound i,s.length<=1000:=fun s hs=>h s (ZaH.2 (.inr ⟨i,x,hx,.inl hs⟩))
theorem ZxJ (frm to:Str)(e:Exp):∀s∈allP (repl frm to e),s∈allP e\/s=to:=by
 induction e using Exp.ind with
 |h e ih=>
  intro s hs;by_cases hk:e.kind=1
  .rw [Zde hk] at hs
   by_cases hf:e.name=frm
   .rw [if_pos hf] at hs
    rcases ZaH.1 hs with h|⟨i,x,hx,h⟩
    .exact .inr h
    .refine .inl (ZaH.2 (.inr ⟨i,x,hx,h.imp (fun h => ?_) id⟩))
     rw[Zfj,if_neg (by omega)]at h;rw[ZaM,if_neg (by omega)];exact h
   .rw [if_neg hf] at hs
    exact .inl hs
  .rw [Zef hk] at hs
   rcases ZaH.1 hs with h|⟨i,y,hy,h⟩
   .exact .inl (ZaH.2 (.inl h))
   .rw [(ZaQ (replC_len frm to e)).2.2.1] at hy
    rw[ZgY (replC_len frm to e)]at h;obtain⟨x,hx⟩:=Zaa (l:=e.children) (i:=i) (by have:=(qd.1 hy).1;rw[replC_len,<-e.children_len]at this;exact this);rw[Zca hx]at hy;cases hy;rcases h with h|h
    .exact .inl (ZaH.2 (.inr ⟨i,x,hx,.inl h⟩))
    .split at h
     .exact .inl (ZaH.2 (.inr ⟨i,x,hx,.inr h⟩))
     .exact(ih x (qa hx) s h).imp (fun h=>ZaH.2 (.inr ⟨i,x,hx,.inr h⟩)) id
theorem Zpz {frm to:Str}{e:Exp}(h:nmL e)(ht:to.length<=1000):nmL (repl frm to e):=fun s hs=>(ZxJ frm to e s hs).elim (h s) fun q=>q▸ht
theorem ZiM (n:Nat)(taken:List Str)(h:n+taken.length<=1073741824):(Zat n taken).length<=1000:=by
 have h1:=ZfU n taken;have h2:=Zfi (ZaW n taken) 10 (by omega) (by omega);unfold Zat Zbj;rw[qG];omega
theorem Zpp (taken:List Str)(ht:taken.length<=536870912)(hs:∀s∈taken,s.length<=1000):(K A).call 241 [Za3 taken] []=some (strV (Zat 0 taken),[]):=by
 refine fnO v241 ?_;have h:=Zuc (A:=A) 0 0 (by omega) (by omega) taken (by omega) ht (fun s h=>by have:=hs s h;omega);unfold v241;simp(maxSteps:=4000000) (disch:=first|exact zd|fail) [h,-getElem?_pos]
theorem ZyB (e:Exp):e.wf->e.weight<=268435456->(K A).call 242 [expV e] []=some (.sc (.arr 0 (allP e).length),[.arr 1 (wr (Zai (allP e))) 0]):=by
 induction e using Exp.ind with
 |h e ih=>
 intro hwf hl;refine fnO v242 ?_;have hle:=e.children_le;rw[e.children_len]at hle;have hpl:=Zee e hwf;have hend:=Zig e;by_cases hkids:e.kids=[]
 .have harms:e.arms=[]:=qP fun h=>by
   have h8:e.kind=8:=qP fun h8=>h (hwf.one.2.1 h8);have:=hwf.one.1 h8;rw[hkids]at this;simp at this
  have hc:=ZaT (A:=A) e hkids harms;have hch:e.children=[]:=by simp[Exp.children,hkids,harms]
  rw[hch]at hend;simp only[qT,ZeE]at hend;rw[<-hend];have hr:wr (Zai [e.name])=[[W.c (.str e.name)]]:=rfl;unfold v242;simp(maxSteps:=4000000) (disch:=first|exact zd|fail) [hc,hr,-getElem?_pos];refine Zak (fun i=>⟨[(1,.sc (.ptr 64 0)),(3,.sc (.arr 320 1)),(10,.sc (.full [])),(11,intV 0),(12,intV i)],[(64,some (.box (wc e.row))),(320,some (.arr 1 [[W.c (.str e.name)]] 0))]⟩) 0 ?_ (fun i hi=>by omega) ?_
  .simp
  .unfold Zo9
   simp(maxSteps:=4000000) (disch:=first|exact zd|fail) [hr,-getElem?_pos]
 .have hc:=ZaP (A:=A) e hkids (by omega)
  rw[e.children_len]at hc hend;have h0:ZeE e 0=[e.name]:=rfl;have hr:wr (Zai [e.name])=[[W.c (.str e.name)]]:=rfl;unfold v242;simp(maxSteps:=4000000) (disch:=first|exact zd|fail) [hc,-getElem?_pos];refine Zak (fun i=>⟨[(1,.sc (.ptr 64 0)),(3,.sc (.arr 320 (ZeE e i).length)),(10,.sc (.arr 544 (e.kids.length+e.arms.length))),(11,intV ((e.kids.length:Int)+e.arms.length)),(12,intV i)],
   [(64,some (.box (wc e.row))),(320,some (.arr 1 (wr (Zai (ZeE e i))) 0)),(544,some (.arr 11 (wr (Exp.rows e.children)) 0))]⟩) (e.kids.length+e.arms.length) ?_ ?_ ?_
  .simp[h0,hr]
  .intro i hi
   have hi1:i<e.children.length:=(by rw[e.children_len];exact hi);obtain⟨x,hx⟩:=Zaa hi1;have hm:=qa hx;have hrec:=ih x hm (hwf.child hm) (by have:=Exp.child_lt hm;omega);have hb:=Zi2 (A:=A) e i hwf.one hi1 (by omega);have hs:=ZgL hx;have hlen:=ZvR hwf (i+1) hi1;rw[hs]at hlen;rw[hs];simp only[qv]at hlen;have hi2:(i:Int)<(e.kids.length:Int)+e.arms.length:=(by omega);generalize ZeE e i=ai at *
   generalize e.bound i=bi at *
   generalize allP x=ax at *
   unfold Zo9;simp(maxSteps:=4000000) (disch:=first|exact zd|fail) [hi,hi2,hx,hb,hrec,qaE,-getElem?_pos]
  .rw [hend]
   unfold Zo9;simp(maxSteps:=4000000) (disch:=first|exact zd|fail) [-getElem?_pos]
theorem Zj0 (frm to:Str)(e:Exp):e.wf->e.weight<=1073741824->(K A).call 243 [expV e,strV frm,strV to] []=some (expV (repl frm to e),[]):=by
 induction e using Exp.ind with
 |h e ih=>
 intro hwf hl;refine fnO v243 ?_;have hle:=e.children_le;rw[e.children_len]at hle;by_cases hk:e.kind=1
 .have hrow:wc (Exp.mk e.kind e.pos to e.num e.kids e.arms e.ty).row=[.c (.int .i64 e.kind),.c (.int .i64 e.pos),.c (.str to),.c (.int .i64 e.num),.c (.sl (Exp.rows e.kids)),.c (.sl (Exp.armRows e.arms)),.c (.int .i64 e.ty.kind),.c (.str e.ty.name),.c (.int .i64 e.ty.id),.c (.int .i64 e.ty.home),.c (.sl (Ty.rows e.ty.args))]:=by rw [Exp.row_eq];rfl
  have hrow0:wc e.row=[.c (.int .i64 e.kind),.c (.int .i64 e.pos),.c (.str e.name),.c (.int .i64 e.num),.c (.sl (Exp.rows e.kids)),.c (.sl (Exp.armRows e.arms)),.c (.int .i64 e.ty.kind),.c (.str e.ty.name),.c (.int .i64 e.ty.id),.c (.int .i64 e.ty.home),.c (.sl (Ty.rows e.ty.args))]:=by rw[Exp.row_eq];rfl
  rw[Zde hk];unfold v243;by_cases hf:e.name=frm
  .rw [if_pos hf]
   rw[hk]at hrow hrow0 |-;simp(maxSteps:=4000000) (disch:=first|exact zd|fail) [hk,hf,hrow,hrow0,-getElem?_pos]
  .rw [if_neg hf]
   simp(maxSteps:=4000000) (disch:=first|exact zd|fail) [hk,hf,-getElem?_pos]
 .rw [Zef hk]
  have hCl:=replC_len frm to e;have hcg:=fun {i:Nat} {x:Exp} (h:e.children[i]?=some x)=>Zca (frm:=frm) (to:=to) h;have hw:=ZfK (A:=A) e (ZfH frm to e) hCl (by omega);by_cases hkids:e.kids=[]
  .have harms:e.arms=[]:=qP fun h=>by
    have h8:e.kind=8:=qP fun h8=>h (hwf.one.2.1 h8);have:=hwf.one.1 h8;rw[hkids]at this;simp at this
   have hc:=ZaT (A:=A) e hkids harms;have hC0:ZfH frm to e=[]:=qL.1 (by rw[hCl,hkids,harms];rfl);rw[hC0]at hw |-;have hr1:Exp.rows []=[]:=(by rw[Exp.rows]);have hr2:Exp.armRows []=[]:=(by rw[Exp.armRows]);have hz:ZaX [] []=[]:=rfl
   have hrow:wc (Za6 e []).row=[.c (.int .i64 e.kind),.c (.int .i64 e.pos),.c (.str e.name),.c (.int .i64 e.num),.c (.sl []),.c (.sl []),.c (.int .i64 e.ty.kind),.c (.str e.ty.name),.c (.int .i64 e.ty.id),.c (.int .i64 e.ty.home),.c (.sl (Ty.rows e.ty.args))]:=by
    rw[Exp.row_eq];simp[Za6,harms,ZaX,hr1,hr2,Exp.kind,Exp.pos,Exp.name,Exp.num,Exp.kids,Exp.arms,Exp.ty,wc]
   simp only[exsV,hr1,hkids,harms,qT,List.take_nil,List.drop_nil,hz,hr2]at hw;unfold v243;simp(maxSteps:=4000000) (disch:=first|exact zd|fail) [hk,hc,-getElem?_pos];refine Zak (fun i=>⟨[(1,strV frm),(2,strV to),(3,.sc (.ptr 64 0)),(6,.sc (.ptr 128 0)),(7,.sc (.full [])),(22,.sc (.full [])),(23,intV 0),(24,intV i)],[(64,some (.box (wc e.row))),(128,some Zd7)]⟩) 0 ?_ (fun i hi=>by omega) ?_
   .simp
   .unfold Zpw
    simp(maxSteps:=4000000) (disch:=first|exact zd|fail) [hw,hrow,-getElem?_pos]
  .have hc:=ZaP (A:=A) e hkids (by omega)
   rw[e.children_len]at hc;have hC2:(ZfH frm to e).length=e.children.length:=(by rw[hCl,e.children_len]);have hkl:((ZfH frm to e).take e.kids.length).length=e.kids.length:=(by rw[qK,hCl];omega);have hal:(ZaX e.arms ((ZfH frm to e).drop e.kids.length)).length=e.arms.length:=(by rw[armsW_len,qV,hCl];omega)
   have hrow:wc (Za6 e (ZfH frm to e)).row=[.c (.int .i64 e.kind),.c (.int .i64 e.pos),.c (.str e.name),.c (.int .i64 e.num),.c (.sl (Exp.rows ((ZfH frm to e).take e.kids.length))),.c (.sl (Exp.armRows (ZaX e.arms ((ZfH frm to e).drop e.kids.length)))),.c (.int .i64 e.ty.kind),.c (.str e.ty.name),.c (.int .i64 e.ty.id),.c (.int .i64 e.ty.home),.c (.sl (Ty.rows e.ty.args))]:=(by rw[Exp.row_eq];rfl)
   generalize Za6 e (ZfH frm to e)=we at *
   generalize ZfH frm to e=cc at *
   unfold v243;simp(maxSteps:=4000000) (disch:=first|exact zd|fail) [hk,hc,-getElem?_pos];refine Zak (fun i=>⟨[(1,strV frm),(2,strV to),(3,.sc (.ptr 64 0)),(6,.sc (.ptr 128 0)),(7,.sc (.arr 1056 (e.kids.length+e.arms.length))),(22,.sc (.arr 1056 (e.kids.length+e.arms.length))),(23,intV ((e.kids.length:Int)+e.arms.length)),(24,intV i)],
    [(64,some (.box (wc e.row))),(128,some Zd7),(1056,some (.arr 11 (wr (Exp.rows (cc.take i++e.children.drop i))) 0))]⟩) (e.kids.length+e.arms.length) ?_ ?_ ?_
   .simp
   .intro i hi
    have hi1:i<e.children.length:=(by rw[e.children_len];exact hi);obtain⟨x,hx⟩:=Zaa hi1;have hm:=qa hx;have hrec:=ih x hm (hwf.child hm) (by have:=Exp.child_lt hm;omega);have hb:=Zi2 (A:=A) e i hwf.one hi1 (by omega);have hbl:=qu (e.bound_le i) hl;have hco:=Zb2 (A:=A) (e.bound i) frm (by omega);have hcx:=hcg hx;have hg:=ZbL (i:=i) hC2 hi1;rw[hx]at hg;have hst:=Zbz hC2 hcx;have hln:=ZbN (i:=i) hC2
    rw[e.children_len]at hln;have hi2:(i:Int)<(e.kids.length:Int)+e.arms.length:=(by omega);have hset:=fun y=>Zce (cc.take i++e.children.drop i) i y;rw[<-hst];generalize cc.take i++e.children.drop i=zr at *
    unfold Zpw;by_cases hf:frm∈e.bound i
    .have hsame:zr.set i x=zr:=by
      refine qC fun m=>?_;rw[qaG];split
      .rename_i h
       subst h;rw[hg];split
       .rfl
       .omega
      .rfl
     rw[if_pos hf,hsame];simp(maxSteps:=4000000) (disch:=first|exact zd|fail) [hi,hi2,hg,hln,hb,hco,hf,Zbg,-getElem?_pos]
    .rw [if_neg hf]
     simp(maxSteps:=4000000) (disch:=first|exact zd|fail) [hi,hi2,hg,hln,hb,hco,hf,hrec,hset,Zbg,-getElem?_pos]
   .have htk:cc.take (e.kids.length+e.arms.length)++e.children.drop (e.kids.length+e.arms.length)=cc:=by
     rw[qaa (by rw[e.children_len];omega),qF,qf (by omega)]
    rw[htk];unfold Zpw;simp(maxSteps:=4000000) (disch:=first|exact zd|fail) [hw,hrow,hkl,hal,hCl,-getElem?_pos]
end Go.Vs.Tryz
namespace Go.Vs
open Go
section
variable {L:Nat->Option Obj}
@[simp] theorem toC_vw {d k N lo n:Nat}:W.toC L (d+1) (.vw k N lo n)=arrK (L k) fun _ rows _=>bif rows.length==N&&Nat.ble (lo+n) N then (Zag (Zag (W.toC L d)) ((rows.drop lo).take n)).map .sl else none:=by
 simp only[W.toC,arrK];cases L k with
 |none=>rfl
 |some o=>cases o<;>rfl
@[simp] theorem ids_vw {d k N lo n:Nat}:W.ids L (d+1) (.vw k N lo n)=k::(match L k with | some (.arr _ rows _)=>rows.flatMap (·.flatMap (W.ids L d)) | _=>[]):=rfl
end
theorem Zru (rows:List (List Cell))(i n:Nat)(h:n=rows.length):((wr rows).drop i).take (n-i)=wr (rows.drop i):=by
 subst h;unfold wr;rw[<-List.map_drop,qf (by simp)]
end Go.Vs
namespace Go.Vs.Tryz
open Go Go.Vs
variable {A:Zab}
abbrev ZcE (x:Str)(b:Exp)(free:List Str):List W:=[.c (.str x),.c (.int .i64 b.kind),.c (.int .i64 b.pos),.c (.str b.name),.c (.int .i64 b.num),.c (.sl (Exp.rows b.kids)),.c (.sl (Exp.armRows b.arms)),.c (.int .i64 b.ty.kind),.c (.str b.ty.name),.c (.int .i64 b.ty.id),.c (.int .i64 b.ty.home),.c (.sl (Ty.rows b.ty.args)),.c (.sl (Zai free))]
theorem hit246 (x:Str)(b:Exp)(free:List Str)(e:Exp)(hw:e.wf)(hl:e.weight<=1073741824):(K A).call 258 [expV e,.sc (.ptr 0 0)] [.box (ZcE x b free)]=some (Zae (decide (x∈Zaf e)),[.box (ZcE x b free)]):=by
 refine fnO v258 ?_;have h1:=ZyW (A:=A) e hw hl;have h2:=Zb2 (A:=A) (Zaf e) x (by have:=Zb8 e;omega);unfold v258;simp(maxSteps:=4000000) (disch:=first|exact zd|fail) [h1,h2,-getElem?_pos]
theorem ZxY (x:Str)(b:Exp)(free:List Str)(l:List Exp)(hn:l.length<=1073741824)(hw:∀e∈l,e.wf/\e.weight<=1073741824):
 ∃r,(∃z:Int,(0<=z↔∃e∈l,x∈Zaf e)/\r=(intV z,[Obj.box (ZcE x b free)]))/\(K A).call 148 [exsV l,.sc (.clo 258 [true] [[.ptr 0 0]])] [.box (ZcE x b free)]=some r:=by
 refine fnE v148 ?_;unfold v148;simp(disch:=first|exact zd|fail);refine Zad (fun i s=>(∀(j:Nat) e,j<i->l[j]?=some e->x∉Zaf e)/\s=⟨[(0,exsV l),(1,.sc (.clo 258 [true] [[.ptr 0 0]])),(7,intV l.length),(8,intV i)],[(0,some (.box (ZcE x b free)))]⟩) l.length ⟨by omega,by simp⟩ ?_ ?_
 .rintro i s hi ⟨hs,rfl⟩
  obtain⟨e,he⟩:=Zaa hi;have hm:=qa he;have hc:=hit246 (A:=A) x b free e (hw e hm).1 (hw e hm).2;unfold Zmi;by_cases hx:x∈Zaf e
  .simp (maxSteps:=4000000) (disch:=first|exact zd|fail) [hi,he,hc,hx,-getElem?_pos]
   exact⟨e,hm,hx⟩
  .simp (maxSteps:=4000000) (disch:=first|exact zd|fail) [hi,he,hc,hx,-getElem?_pos]
   intro j e' hj he';by_cases hji:j=i
   .subst hji
    rw[he]at he';cases he';exact hx
   .exact hs j e' (by omega) he'
 .rintro s ⟨hs,rfl⟩
  unfold Zmi;simp(maxSteps:=4000000) (disch:=first|exact zd|fail) [-getElem?_pos];intro e he;obtain⟨j,hj⟩:=qk.1 he;exact hs j e (qd.1 hj).1 hj
theorem Znf (x:Str)(b:Exp)(free:List Str)(l:List Exp)(hn:l.length<=1073741824)(hw:∀e∈l,e.wf/\e.weight<=1073741824):
 (K A).call 98 [exsV l,.sc (.clo 258 [true] [[.ptr 0 0]])] [.box (ZcE x b free)]=some (Zae (decide (∃e∈l,x∈Zaf e)),[.box (ZcE x b free)]):=by
 refine fnO v98 ?_;obtain⟨_,⟨z,hz,rfl⟩,hc⟩:=ZxY (A:=A) x b free l hn hw;have hd:decide (∃e∈l,x∈Zaf e)=decide (0<=z):=by rw[decide_eq_decide];exact hz.symm
 rw[hd];unfold v98;simp(maxSteps:=4000000) (disch:=first|exact zd|fail) [hc,-getElem?_pos]
theorem Zyq (x:Str)(b:Exp)(free:List Str)(n:Str)(l:List Exp)(hf:free.length<=4294967296)(hn:l.length<=1073741824)(hw:∀e∈l,e.wf/\e.weight<=1073741824):
 (K A).call 240 [.ag (ZcE x b free),strV n,exsV l] []=some (Zae (decide (hitP x free n l)),[]):=by
 refine fnO v240 ?_;have h1:=Zb2 (A:=A) free n hf;have h2:=Znf (A:=A) x b free l hn hw;unfold v240;by_cases hm:n∈free
 .have hd:decide (hitP x free n l)=decide (∃e∈l,x∈Zaf e):=by
   rw[decide_eq_decide];exact⟨fun h=>h.2,fun h=>⟨hm,h⟩⟩
  rw[hd];generalize decide (∃e∈l,x∈Zaf e)=v at *
  simp(maxSteps:=4000000) (disch:=first|exact zd|fail) [h1,h2,hm,-getElem?_pos]
 .have hd:decide (hitP x free n l)=false:=by
   rw[decide_eq_false_iff_not];exact fun h=>hm h.1
  rw[hd];simp(maxSteps:=4000000) (disch:=first|exact zd|fail) [h1,hm,-getElem?_pos]
def Zl8 (x:Str)(free:List Str)(e:Exp):List Exp:=e.kids.zipIdx.map fun p=>if p.2<ZaA e then p.1 else repl e.name (Zat 0 (allP e++free++[x])) p.1
theorem ZuY (x:Str)(b:Exp)(free:List Str)(e:Exp)(hs:shp e)(hk:e.kind=4\/e.kind=6\/e.kind=7)(hl:e.weight<=67108864)(hfl:free.length<=67108864)(hn:nmL e)(hnf:∀s∈free,s.length<=1000)(hx:x.length<=1000):
 (K A).call 222 [.ag (ZcE x b free),expV e] []=some (expV (Zcq x free e),[]):=by
 refine fnO v222 ?_;obtain⟨ha,hch⟩:=Za2 (by omega) hs.one;have hkl:ZaA e<e.kids.length/\e.kids.length<=2:=by
  have h:=hs.one.2.2;unfold Zhv at h;unfold ZaA;rcases hk with k|k|k
  .rw [if_neg (by omega),if_pos (by omega)] at h
   rw[if_neg (by omega),h];decide
  .rw [if_pos (by omega)] at h
   rw[if_pos (by omega),h];decide
  .rw [if_pos (by omega)] at h
   rw[if_neg (by omega),h];decide
 obtain⟨hk1,hk2⟩:=hkl;have hkw:∀y∈e.kids,y.wf/\y.weight<=67108864:=fun y hy=>⟨(hs.child (Zal hy)).wf,by have:=Exp.child_lt (Zal hy);omega⟩;have hkne:e.kids≠[]:=fun h=>by rw[h]at hk1;simp at hk1
 have hc:=Ztz (A:=A) e.kids hkne (by omega);have hhit:=Zyq (A:=A) x b free e.name (e.kids.drop (ZaA e)) (by omega) (by rw[qV];omega) (fun y hy=>by have:=hkw y (List.mem_of_mem_drop hy);exact⟨this.1,by omega⟩);have hall:=ZyB (A:=A) e hs.wf (by omega);have hal:=Zee e hs.wf;have hfr:=Zpp (A:=A) (allP e++free++[x]) (by simp;omega) (fun s h=>by
  simp only[ql,qj]at h;rcases h with (h|h)|h
  .exact hn s h
  .exact hnf s h
  .exact h▸hx)
 have hrow0:wc e.row=[.c (.int .i64 e.kind),.c (.int .i64 e.pos),.c (.str e.name),.c (.int .i64 e.num),.c (.sl (Exp.rows e.kids)),.c (.sl (Exp.armRows e.arms)),.c (.int .i64 e.ty.kind),.c (.str e.ty.name),.c (.int .i64 e.ty.id),.c (.int .i64 e.ty.home),.c (.sl (Ty.rows e.ty.args))]:=by rw[Exp.row_eq];rfl
 have hvw:∀i,((wr (Exp.rows e.kids)).drop i).take (e.kids.length-i)=wr (Exp.rows (e.kids.drop i)):=fun i=>by
  rw[Zru _ _ _ (by simp),Exp.rows_map,Exp.rows_map,List.map_drop]
 have hbin:Zcq x free e=if e.name=x\/¬hitP x free e.name (e.kids.drop (ZaA e)) then e else .mk e.kind e.pos (Zat 0 (allP e++free++[x])) e.num (Zl8 x free e) e.arms e.ty:=by
  unfold Zcq;by_cases h1:e.name=x
  .rw[if_pos (.inl h1),if_pos (.inl h1)]
  .by_cases h2:hitP x free e.name (e.kids.drop (ZaA e))
   .rw [if_neg (fun q=>q.elim h1 fun q=>q.elim (fun q=>by omega) fun q=>q h2),if_neg (fun q=>q.elim h1 fun q=>q h2)]
    rfl
   .rw[if_pos (.inr (.inr h2)),if_pos (.inr h2)]
 have hsc:(ZaA e:Int)=if e.kind=6 then 1 else 0:=by unfold ZaA;split<;>rfl
 have hge:¬(e.kids.length:Int)<=ZaA e:=by omega
 have hKl:(Zl8 x free e).length=e.kids.length:=by simp[Zl8]
 have hKg:∀(i:Nat) y,e.kids[i]?=some y->(Zl8 x free e)[i]?=some (if i<ZaA e then y else repl e.name (Zat 0 (allP e++free++[x])) y):=fun i y h=>by simp[Zl8,h]
 have hK0:(Zl8 x free e).take (ZaA e)++e.kids.drop (ZaA e)=e.kids:=by
  refine qC fun i=>?_;by_cases hi:i<ZaA e
  .obtain ⟨y,hy⟩:=Zaa (l:=e.kids) (i:=i) (by omega)
   rw[qx (by rw[qK];omega),qW,if_pos hi,hKg i y hy,if_pos hi,hy]
  .rw[qN (by rw[qK];omega),qK,qZ,show ZaA e+(i-min (ZaA e) (Zl8 x free e).length)=i by omega]
 have hrowR:∀to ks,wc (Exp.mk e.kind e.pos to e.num ks e.arms e.ty).row=[.c (.int .i64 e.kind),.c (.int .i64 e.pos),.c (.str to),.c (.int .i64 e.num),.c (.sl (Exp.rows ks)),.c (.sl (Exp.armRows e.arms)),.c (.int .i64 e.ty.kind),.c (.str e.ty.name),.c (.int .i64 e.ty.id),.c (.int .i64 e.ty.home),.c (.sl (Ty.rows e.ty.args))]:=fun to ks=>by rw[Exp.row_eq];rfl
 rw[hbin];clear hbin;have hv0:=hvw 0;have hv1:=hvw 1;simp only[qa8,List.drop_zero]at hv0;generalize hS:ZaA e=sc at *
 unfold v222;refine Zeh ⟨[(2,.sc (.ptr 64 0)),(3,.sc (.ptr 128 0)),(4,.sc (.ptr 192 0))],[(64,some (.box (ZcE x b free))),(128,some (.box (wc e.row))),(192,some Zd7)]⟩ (by simp) ?_
 refine Zeh ⟨[(2,.sc (.ptr 64 0)),(3,.sc (.ptr 128 0)),(4,.sc (.ptr 192 0)),(5,.sc (.arr 416 e.kids.length))],[(64,some (.box (ZcE x b free))),(128,some (.box (wc e.row))),(192,some Zd7),(416,some (.arr 11 (wr (Exp.rows e.kids)) 0))]⟩ (by simp(disch:=first|exact zd|fail) [hc]) ?_
 refine Zeh ⟨[(2,.sc (.ptr 64 0)),(3,.sc (.ptr 128 0)),(4,.sc (.ptr 192 0)),(5,.sc (.arr 416 e.kids.length)),(6,intV 0)],[(64,some (.box (ZcE x b free))),(128,some (.box (wc e.row))),(192,some Zd7),(416,some (.arr 11 (wr (Exp.rows e.kids)) 0))]⟩ (by simp) ?_;by_cases h1:e.name=x
 .rw [if_pos (.inl h1)]
  subst h1;by_cases h6:e.kind=6
  .simp(maxSteps:=4000000) (disch:=first|exact zd|fail) [h6,hrow0,-getElem?_pos]
  .simp(maxSteps:=4000000) (disch:=first|exact zd|fail) [h6,hrow0,-getElem?_pos]
 .by_cases h2:hitP x free e.name (e.kids.drop sc)
  .rw [if_neg (fun q=>q.elim h1 fun q=>q h2)]
   refine ZoU ⟨[(2,.sc (.ptr 64 0)),(3,.sc (.ptr 128 0)),(4,.sc (.ptr 192 0)),(5,.sc (.arr 416 e.kids.length)),(6,intV (sc:Int)),(35,Zae false)],[(64,some (.box (ZcE x b free))),(128,some (.box (wc e.row))),(192,some Zd7),(416,some (.arr 11 (wr (Exp.rows e.kids)) 0))]⟩ (by
    by_cases h6:e.kind=6
    .rw [if_pos h6] at hsc
     have hsc1:sc=1:=(by omega);subst hsc1;have hg1:¬(e.kids.length:Int)<=1:=(by omega);have hsl:∀L:Nat->Option Obj,Zbw L 11 (.sc (.arr 416 e.kids.length)) (some (.sc (.c (.int .i64 1)))) none none=arrK (L 416) fun s' rows _=>bif rows.length==e.kids.length&&s'==11 then some (.sc (.vw 416 e.kids.length 1 (e.kids.length-1)),[]) else none:=fun L=>slice_arr_from (i:=1) (by omega)
     have hle1:1+(e.kids.length-1)=e.kids.length:=(by omega);simp(maxSteps:=4000000) (disch:=first|exact zd|fail) [h1,h2,h6,hg1,hsl,hle1,hkne,hhit,hv1,-List.drop_one,-getElem?_pos]
    .rw [if_neg h6] at hsc
     have hsc0:sc=0:=(by omega);subst hsc0;rw[List.drop_zero]at hhit h2;have hsl:∀L:Nat->Option Obj,Zbw L 11 (.sc (.arr 416 e.kids.length)) (some (.sc (.c (.int .i64 0)))) none none=arrK (L 416) fun s' rows _=>bif rows.length==e.kids.length&&s'==11 then some (.sc (.vw 416 e.kids.length 0 (e.kids.length-0)),[]) else none:=fun L=>slice_arr_from (i:=0) (by omega)
     simp(maxSteps:=4000000) (disch:=first|exact zd|fail) [h1,h2,h6,hsl,hkne,hhit,hv0,-getElem?_pos]) ?_
   generalize allP e=ap at *
   generalize Zat 0 (ap++free++[x])=to at *
   generalize Zl8 x free e=kr at *
   rw[qab]at hfr;simp(maxSteps:=4000000) (disch:=first|exact zd|fail) [hall,hfr,qaE,-getElem?_pos]
   refine Zak (fun j=>⟨[(3,.sc (.ptr 128 0)),(4,.sc (.ptr 192 0)),(5,.sc (.arr 416 e.kids.length)),(7,strV to),(8,intV ((sc+j:Nat):Int))],[(128,some (.box (wc e.row))),(192,some Zd7),(416,some (.arr 11 (wr (Exp.rows (kr.take (sc+j)++e.kids.drop (sc+j)))) 0)),(2400,some (.arr 1 (wr (Zai (ap++(free++[x])))) 0))]⟩) (e.kids.length-sc) ?_ ?_ ?_
   .simp[hK0]
   .intro j hj
    obtain⟨y,hy⟩:=Zaa (l:=e.kids) (i:=sc+j) (by omega);have hyw:=hkw y (qa hy);have hz:=hKg (sc+j) y hy;rw[if_neg (by omega)]at hz;have hg:=ZbL (i:=sc+j) hKl (by omega);rw[hy]at hg;have hst:=Zbz hKl hz;have hln:=ZbN (i:=sc+j) hKl;have hrep:=Zj0 (A:=A) e.name to y hyw.1 (by omega);rw[show sc+(j+1)=sc+j+1 from rfl,<-hst];generalize kr.take (sc+j)++e.kids.drop (sc+j)=zr at *
    have hset:=Zce zr (sc+j) (repl e.name to y);have hlt:((sc+j:Nat):Int)<e.kids.length:=(by omega);have hltn:sc+j<e.kids.length:=(by omega);have hcast:((sc+j+1:Nat):Int)=((sc+j:Nat):Int)+1:=(by omega);rw[hcast];generalize sc+j=q at *
    unfold ZsF;simp(maxSteps:=4000000) (disch:=first|exact zd|fail) [hlt,hltn,hg,hln,hrep,hset,Zbg,-getElem?_pos]
   .have htk:kr.take (sc+(e.kids.length-sc))++e.kids.drop (sc+(e.kids.length-sc))=kr:=by
     rw[show sc+(e.kids.length-sc)=e.kids.length by omega,qaa (by omega),qF,qf (by omega)]
    have hlt:¬((sc+(e.kids.length-sc):Nat):Int)<e.kids.length:=(by omega);rw[htk];generalize sc+(e.kids.length-sc)=q at *
    unfold ZsF;simp(maxSteps:=4000000) (disch:=first|exact zd|fail) [hlt,hrow0,hrowR,hKl,Zbg,-getElem?_pos]
  .rw [if_pos (.inr h2)]
   by_cases h6:e.kind=6
   .rw [if_pos h6] at hsc
    have hsc1:sc=1:=(by omega);subst hsc1;have hg1:¬(e.kids.length:Int)<=1:=(by omega);have hsl:∀L:Nat->Option Obj,Zbw L 11 (.sc (.arr 416 e.kids.length)) (some (.sc (.c (.int .i64 1)))) none none=arrK (L 416) fun s' rows _=>bif rows.length==e.kids.length&&s'==11 then some (.sc (.vw 416 e.kids.length 1 (e.kids.length-1)),[]) else none:=fun L=>slice_arr_from (i:=1) (by omega)
    have hle1:1+(e.kids.length-1)=e.kids.length:=(by omega);simp(maxSteps:=4000000) (disch:=first|exact zd|fail) [h1,h2,h6,hg1,hsl,hle1,hkne,hhit,hv1,-List.drop_one,hrow0,-getElem?_pos]
   .rw [if_neg h6] at hsc
    have hsc0:sc=0:=(by omega);subst hsc0;rw[List.drop_zero]at hhit h2;have hsl:∀L:Nat->Option Obj,Zbw L 11 (.sc (.arr 416 e.kids.length)) (some (.sc (.c (.int .i64 0)))) none none=arrK (L 416) fun s' rows _=>bif rows.length==e.kids.length&&s'==11 then some (.sc (.vw 416 e.kids.length 0 (e.kids.length-0)),[]) else none:=fun L=>slice_arr_from (i:=0) (by omega)
    simp(maxSteps:=4000000) (disch:=first|exact zd|fail) [h1,h2,h6,hsl,hkne,hhit,hv0,hrow0,-getElem?_pos]
variable {A:Zab}
theorem Zib {x:Str}{free vars:List Str}{b:Exp}(hn:inj vars)(hx:x∉vars)(hs:shp b)(hp:properP b)(hl:b.weight+vars.length+free.length<=134217728)(hb:nmL b)(hv:∀s∈vars,s.length<=1000):
 ∀k,k<=vars.length->nmL (Zdv x free vars b k).2/\∀s∈(Zdv x free vars b k).1,s.length<=1000
 |0,_=>⟨hb,hv⟩
 |k+1,hk=>by
  obtain⟨h1,h2⟩:=Zib (free:=free) hn hx hs hp hl hb hv k (by omega);have ho:=Ze7 (free:=free) hn hx hs hp k (by omega);rw[Zdi];generalize Zdv x free vars b k=p at *
  obtain⟨vs,bk⟩:=p;simp only at *
  unfold ZdJ;simp only;cases hv2:vs[k]? with
  |none=>exact⟨h1,h2⟩
  |some v=>
   simp only;split
   .exact⟨h1,h2⟩
   .have hal:=Zee bk ho.shape.wf
    have hf:=ZiM 0 (allP bk++vs++free++[x]) (by have:=ho.weight;have:=ho.len;simp;omega);refine⟨Zpz h1 hf,fun s hs=>?_⟩;rcases ZkF hs with hs|hs
    .exact h2 s hs
    .exact hs▸hf
theorem arm145 (x:Str)(b:Exp)(free:List Str)(a:ArmH×Exp)(hi:inj a.1.vars)(hs:shp a.2)(hp:properP a.2)(hl:a.2.weight+a.1.vars.length+free.length<=134217728)(hn:nmL a.2)(hv:∀s∈a.1.vars,s.length<=1000)(hnf:∀s∈free,s.length<=1000)(hxl:x.length<=1000):
 (K A).call 224 [.ag (ZcE x b free),armV a] []=some (armV (armP x free a),[]):=by
 refine fnO v224 ?_;have hc0:=Zb2 (A:=A) a.1.vars x (by omega);unfold armP;unfold v224;by_cases hx:x∈a.1.vars
 .rw [if_pos hx]
  have hrow:wc (Zaw a)=[.c (.int .i64 a.1.pos),.c (.str a.1.con),.c (.sl (Zai a.1.vars)),.c (.int .i64 a.2.kind),.c (.int .i64 a.2.pos),.c (.str a.2.name),.c (.int .i64 a.2.num),.c (.sl (Exp.rows a.2.kids)),.c (.sl (Exp.armRows a.2.arms)),.c (.int .i64 a.2.ty.kind),.c (.str a.2.ty.name),.c (.int .i64 a.2.ty.id),.c (.int .i64 a.2.ty.home),.c (.sl (Ty.rows a.2.ty.args))]:=by rw[Zaw,Exp.row_eq];rfl
  simp(maxSteps:=4000000) (disch:=first|exact zd|fail) [hc0,hx,hrow,-getElem?_pos]
 .rw [if_neg hx]
  have hok:=Ze7 (free:=free) hi hx hs hp;have hnm:=Zib (free:=free) hi hx hs hp hl hn hv;have hst:=Zdi x free a.1.vars a.2;have h0:Zdv x free a.1.vars a.2 0=(a.1.vars,a.2):=rfl;have hcl:=ZzD (A:=A) a.1.vars (by omega);obtain⟨⟨ap,ac,vars⟩,ab⟩:=a;simp only at *
  have hsp0:splice (wc (Zaw ((⟨ap,ac,vars⟩:ArmH),ab))) 2 [W.arr 864 vars.length]=some (W.c (.int .i64 ap)::W.c (.str ac)::W.arr 864 vars.length::wc ab.row):=by
   rw[Zaw,Exp.row_eq ab];rfl
  have hcu2:∀y:Exp,cut (W.c (.int .i64 ap)::W.c (.str ac)::W.arr 864 vars.length::wc y.row) 2 1=some [W.arr 864 vars.length]:=by
   intro y;rw[Exp.row_eq y];rfl
  have hcu3:∀y:Exp,cut (W.c (.int .i64 ap)::W.c (.str ac)::W.arr 864 vars.length::wc y.row) 3 11=some (wc y.row):=by
   intro y;rw[Exp.row_eq y];rfl
  have hsp3:∀y z:Exp,splice (W.c (.int .i64 ap)::W.c (.str ac)::W.arr 864 vars.length::wc y.row) 3 (wc z.row)=some (W.c (.int .i64 ap)::W.c (.str ac)::W.arr 864 vars.length::wc z.row):=by
   intro y z;rw[Exp.row_eq y,Exp.row_eq z];rfl
  simp(maxSteps:=4000000) (disch:=first|exact zd|fail) [hc0,hx,hcl,hsp0,hcu2,-getElem?_pos];refine Zak (fun k=>⟨[(2,.sc (.ptr 64 0)),(3,.sc (.ptr 128 0)),(4,.sc (.ptr 192 0)),(19,.sc (.arr 864 vars.length)),(20,intV vars.length),(21,intV k)],
   [(64,some (.box (ZcE x b free))),(128,some (.box (W.c (.int .i64 ap)::W.c (.str ac)::W.arr 864 vars.length::wc (Zdv x free vars ab k).2.row))),(192,some (.box [zi,zs,.nil,zi,zi,zs,zi,.nil,.nil,zi,zs,zi,zi,.nil])),(864,some (.arr 1 (wr (Zai (Zdv x free vars ab k).1)) 0))]⟩) vars.length ?_ ?_ ?_
  .simp[h0]
  .intro k hk
   have ho:=hok k (by omega);obtain⟨hn1,hn2⟩:=hnm k (by omega);rw[hst k];generalize Zdv x free vars ab k=p at *
   obtain⟨vs,bk⟩:=p;simp only at *
   have hvl:=ho.len;have hw:=ho.weight;obtain⟨v,hvk⟩:=Zaa (l:=vs) (i:=k) (by omega);have hct:=Zb2 (A:=A) (vs.drop (k+1)) v (by rw[qV];omega);have hhit:=Zyq (A:=A) x b free v [bk] (by omega) (by simp) (fun y hy=>by rw[qj.1 hy];exact⟨ho.shape.wf,by omega⟩);have hex:Exp.rows [bk]=[bk.row]:=(by rw[Exp.rows,Exp.rows]);simp only[exsV,hex]at hhit;have hall:=ZyB (A:=A) bk ho.shape.wf (by omega)
   have hal:=Zee bk ho.shape.wf;have hfr:=Zpp (A:=A) (allP bk++vs++free++[x]) (by simp;omega) (fun s h=>by
    simp only[ql,qj]at h;rcases h with ((h|h)|h)|h
    .exact hn1 s h
    .exact hn2 s h
    .exact hnf s h
    .exact h▸hxl)
   have hkI:(k:Int)<vars.length:=(by omega);have hsl:∀L:Nat->Option Obj,Zbw L 1 (.sc (.arr 864 vars.length)) (some (.sc (.c (.int .i64 ((k:Int)+1))))) none none=arrK (L 864) fun s' rows _=>bif rows.length==vars.length&&s'==1 then some (.sc (.vw 864 vars.length (k+1) (vars.length-(k+1))),[]) else none:=fun L=>slice_arr_from (i:=k+1) (by omega)
   have hvw:((wr (Zai vs)).drop (k+1)).take (vars.length-(k+1))=wr (Zai (vs.drop (k+1))):=by
    rw[Zru _ _ _ (by simp;omega)];simp[Zai]
   have hkle:k+1+(vars.length-(k+1))=vars.length:=(by omega);unfold ZdJ;simp only[hvk];have wbk:∀L d,Zag (W.toC L d) (wc bk.row)=some bk.row:=fun L d=>by simp
   unfold Zut;by_cases hd:v∈vs.drop (k+1)
   .rw [if_pos (.inl hd)]
    simp(maxSteps:=4000000) (disch:=first|exact zd|fail) [hkI,hvk,hvl,hcu2,hsl,hvw,hkle,hct,hd,-getElem?_pos]
   .by_cases hh:hitP x free v [bk]
    .rw [if_neg (fun q=>q.elim hd fun q=>q hh)]
     have hrep:=fun to=>Zj0 (A:=A) v to bk ho.shape.wf (by omega);generalize allP bk=al at *
     generalize Zat 0 (al++vs++free++[x])=to at *
     simp only[qab]at hfr;have hset:=Zid vs k to;simp(maxSteps:=4000000) (disch:=first|exact zd|fail) [hk,hkI,hvk,hvl,hcu2,hcu3,hsp3,hsl,hvw,hkle,hct,hd,hhit,hh,hall,hfr,hrep,hset,qaE,-getElem?_pos]
    .rw [if_pos (.inr hh)]
     simp(maxSteps:=4000000) (disch:=first|exact zd|fail) [hkI,hvk,hvl,hcu2,hcu3,hsl,hvw,hkle,hct,hd,hhit,hh,-getElem?_pos]
  .have ho:=hok vars.length (qe _)
   generalize Zdv x free vars ab vars.length=p at *
   obtain⟨vs,bk⟩:=p;simp only at *
   have hvl:=ho.len
   have hrow:wc (Zaw ((⟨ap,ac,vs⟩:ArmH),bk))=[.c (.int .i64 ap),.c (.str ac),.c (.sl (Zai vs)),.c (.int .i64 bk.kind),.c (.int .i64 bk.pos),.c (.str bk.name),.c (.int .i64 bk.num),.c (.sl (Exp.rows bk.kids)),.c (.sl (Exp.armRows bk.arms)),.c (.int .i64 bk.ty.kind),.c (.str bk.ty.name),.c (.int .i64 bk.ty.id),.c (.int .i64 bk.ty.home),.c (.sl (Ty.rows bk.ty.args))]:=(by rw[Zaw,Exp.row_eq];rfl)
   have hrowb:wc bk.row=[.c (.int .i64 bk.kind),.c (.int .i64 bk.pos),.c (.str bk.name),.c (.int .i64 bk.num),.c (.sl (Exp.rows bk.kids)),.c (.sl (Exp.armRows bk.arms)),.c (.int .i64 bk.ty.kind),.c (.str bk.ty.name),.c (.int .i64 bk.ty.id),.c (.int .i64 bk.ty.home),.c (.sl (Ty.rows bk.ty.args))]:=(by rw[Exp.row_eq];rfl);unfold Zut
   simp(maxSteps:=4000000) (disch:=first|exact zd|fail) [hrow,hrowb,hvl,-getElem?_pos]
variable {A:Zab}
theorem ZnH {x:Str}{b e e':Exp}(h:PrepOk x b e e'):e'.weight=e.weight:=by
 rw[e'.weight_eq,e.weight_eq,h.sum];congr 2;refine qC fun i=>?_;rw[qi,qi];by_cases hi:i<e.children.length
 .obtain ⟨x0,h0⟩:=Zaa hi
  obtain⟨x1,h1⟩:=Zaa (l:=e'.children) (i:=i) (by rw[Zcr h];exact hi);rw[h0,h1];simp only[qp,(h.kids i x0 x1 h0 h1).weight]
 .have h1:e'.children[i]?=none:=qY (by rw [Zcr h];omega)
  have h2:e.children[i]?=none:=qY (by omega);rw[h1,h2]
theorem Zwv {x:Str}{b e:Exp}(hs:shp e)(hp:properP e)(hn:nmL e)(hl:e.weight+(Zaf b).length<=67108864):∀y∈(Zcn x (Zaf b) e).children,nmL y:=by
 intro y hy;obtain⟨i,hi⟩:=qk.1 hy;have hal:=Zee e hs.wf;unfold Zcn at hi;by_cases h:e.kind=4\/e.kind=6\/e.kind=7
 .rw [if_pos h] at hi
  obtain⟨ha,hc⟩:=Za2 (by omega) hs.one;unfold Zcq at hi;split at hi
  .exact hn.child hi
  .have hc':∀ to ks,(Exp.mk e.kind e.pos to e.num ks e.arms e.ty).children=ks:=fun to ks=>by rw [ZaC,ha];simp
   rw[hc']at hi;have hlt:=(qd.1 hi).1;simp only[qan,List.length_zipIdx]at hlt;obtain⟨z,hz⟩:=Zaa hlt;simp only[qi,qat,hz,qp,qaP,qb]at hi;subst hi;have hnz:nmL z:=hn.child (i:=i) (by rw[hc];exact hz);split
   .exact hnz
   .exact Zpz hnz (ZiM _ _ (by simp;omega))
 .rw [if_neg h] at hi
  by_cases h8:e.kind=8
  .rw [if_pos h8,ZaC] at hi
   rcases qbl i e.kids.length with hk|hk
   .rw [qx hk] at hi
    exact hn.child (i:=i) (ZtH hi)
   .rw [qN hk,qi] at hi
    obtain⟨q,hq,rfl⟩:=qo.1 hi;rw[qi]at hq;obtain⟨p,hp',rfl⟩:=qo.1 hq;have hm:=qa hp';have hnp:nmL p.2:=hn.child (ZcX hp');have hvl:=Exp.vars_le hm;have hwl:=Exp.child_lt (Zbt hm);unfold armP;split
    .exact hnp
    .rename_i hx
     refine(Zib (free:=Zaf b) (hp.one p hm) hx (hs.child (Zbt hm)) (hp.child (Zbt hm)) (by omega) hnp (fun s hs'=>?_) p.1.vars.length (qe _)).1;refine hn s (ZaH.2 (.inr ⟨e.kids.length+(i-e.kids.length),p.2,ZcX hp',.inl ?_⟩));have hk1:=hs.one.1.1 h8;rw[ZaM,if_neg (by omega),if_pos ⟨h8,by omega⟩,hk1,show 1+(i-1)-1=i-1 by omega,<-hk1,hp'];exact hs'
  .rw [if_neg h8] at hi
   exact hn.child hi
theorem Zsk {l:List (ArmH×Exp)}(h:l≠[]):∃c rows,Exp.armRows l=c::rows:=by
 cases l with
 |nil=>exact absurd rfl h
 |cons e r=>obtain⟨a,b⟩:=e;exact⟨_,Exp.armRows r,by rw[Exp.armRows]⟩
theorem Zv6 (l:List (ArmH×Exp))(hl:l.length<=4294967296):(K A).call 223 [armsV l] []=some (.sc (.arr 0 l.length),[.arr 14 (wr (Exp.armRows l)) 0]):=by
 by_cases h:l=[]
 .subst h
  have hr:Exp.armRows []=[]:=by rw[Exp.armRows]
  rw[hr];exact ZlV (by kernel_rfl) (by kernel_rfl) (by kernel_rfl) (by kernel_rfl)
 .obtain ⟨c,rows,hr⟩:=Zsk h
  have hlen:rows.length+1=l.length:=by
   have:=Exp.armRows_len l;rw[hr]at this;simpa using this
  have hok:Zbb 14 (wr (c::rows))=true:=hr▸okRows_arm l;have hp:armsV l=V.sc (.c (.sl (c::rows))):=by rw[<-hr]
  rw[hr,hp,ZgO (by kernel_rfl) (by kernel_rfl)];refine ZkX (vf:=v223) (by kernel_rfl) rfl (by decide) ?_;unfold v223;rw[wr_cons]at hok;simp(disch:=first|exact zd|fail) [hok];omega
theorem Za7 (e:Exp):wc e.row=[.c (.int .i64 e.kind),.c (.int .i64 e.pos),.c (.str e.name),.c (.int .i64 e.num),.c (.sl (Exp.rows e.kids)),.c (.sl (Exp.armRows e.arms)),.c (.int .i64 e.ty.kind),.c (.str e.ty.name),.c (.int .i64 e.ty.id),.c (.int .i64 e.ty.home),.c (.sl (Ty.rows e.ty.args))]:=by rw[Exp.row_eq];rfl
theorem ZkP (x:Str)(b:Exp)(free:List Str)(n:Nat)(e:Exp)(hw:e.wf1)(hl:e.weight<=67108864)(hrec:∀y∈e.children,(K A).call 202 [.ag (ZcE x b free),expV y] []=some (expV (subN n y x b),[])):
 wp (K A) (.loop Zhl) (fun ex s=>ex=.exit 3/\s=⟨[(2,.sc (.ptr 64 0)),(3,.sc (.ptr 128 0)),(4,.sc (.ptr 192 0)),(7,.sc (.arr 3680 (e.kids.length+e.arms.length))),(53,.sc (.arr 3680 (e.kids.length+e.arms.length))),(54,intV ((e.kids.length:Int)+e.arms.length)),(55,intV ((e.kids.length:Int)+e.arms.length)),(56,Zae false)],
     [(64,some (.box (ZcE x b free))),(128,some (.box [.c (.int .i64 e.kind),.c (.int .i64 e.pos),.c (.str e.name),.c (.int .i64 e.num),.c (.sl (Exp.rows e.kids)),.c (.sl (Exp.armRows e.arms)),.c (.int .i64 e.ty.kind),.c (.str e.ty.name),.c (.int .i64 e.ty.id),.c (.int .i64 e.ty.home),.c (.sl (Ty.rows e.ty.args))])),(192,some Zd7),(3680,some (.arr 11 (wr (Exp.rows (subC n e x b))) 0))]⟩)
  ⟨[(2,.sc (.ptr 64 0)),(3,.sc (.ptr 128 0)),(4,.sc (.ptr 192 0)),(7,.sc (.arr 3680 (e.kids.length+e.arms.length))),(53,.sc (.arr 3680 (e.kids.length+e.arms.length))),(54,intV ((e.kids.length:Int)+e.arms.length)),(55,intV 0)],
    [(64,some (.box (ZcE x b free))),(128,some (.box [.c (.int .i64 e.kind),.c (.int .i64 e.pos),.c (.str e.name),.c (.int .i64 e.num),.c (.sl (Exp.rows e.kids)),.c (.sl (Exp.armRows e.arms)),.c (.int .i64 e.ty.kind),.c (.str e.ty.name),.c (.int .i64 e.ty.id),.c (.int .i64 e.ty.home),.c (.sl (Ty.rows e.ty.args))])),(192,some Zd7),(3680,some (.arr 11 (wr (Exp.rows e.children)) 0))]⟩:=by
 have hle:=e.children_le;rw[e.children_len]at hle;have hCl:=subC_len n e x b;have hC2:(subC n e x b).length=e.children.length:=by rw[hCl,e.children_len]
 have hcg:=fun {i:Nat} {y:Exp} (h:e.children[i]?=some y)=>ZdC (n:=n) (x:=x) (b:=b) h;generalize subC n e x b=cc at *
 refine Zak (fun i=>⟨[(2,.sc (.ptr 64 0)),(3,.sc (.ptr 128 0)),(4,.sc (.ptr 192 0)),(7,.sc (.arr 3680 (e.kids.length+e.arms.length))),(53,.sc (.arr 3680 (e.kids.length+e.arms.length))),(54,intV ((e.kids.length:Int)+e.arms.length)),(55,intV i)],
  [(64,some (.box (ZcE x b free))),(128,some (.box [.c (.int .i64 e.kind),.c (.int .i64 e.pos),.c (.str e.name),.c (.int .i64 e.num),.c (.sl (Exp.rows e.kids)),.c (.sl (Exp.armRows e.arms)),.c (.int .i64 e.ty.kind),.c (.str e.ty.name),.c (.int .i64 e.ty.id),.c (.int .i64 e.ty.home),.c (.sl (Ty.rows e.ty.args))])),(192,some Zd7),(3680,some (.arr 11 (wr (Exp.rows (cc.take i++e.children.drop i))) 0))]⟩) (e.kids.length+e.arms.length) ?_ ?_ ?_
 .simp
 .intro i hi
  have hi1:i<e.children.length:=by rw[e.children_len];exact hi
  obtain⟨y,hy⟩:=Zaa hi1;have hm:=qa hy;have hr:=hrec y hm;have hb:=Zi2 (A:=A) e i hw hi1 (by omega);simp only[expV,Za7 e]at hb;have hbl:=qu (e.bound_le i) hl;have hco:=Zb2 (A:=A) (e.bound i) x (by omega);have hcx:=hcg hy;have hg:=ZbL (i:=i) hC2 hi1;rw[hy]at hg;have hst:=Zbz hC2 hcx;have hln:=ZbN (i:=i) hC2;rw[e.children_len]at hln;have hi2:(i:Int)<(e.kids.length:Int)+e.arms.length:=by omega
  have hset:=fun z=>Zce (cc.take i++e.children.drop i) i z;rw[<-hst];generalize cc.take i++e.children.drop i=zr at *
  unfold Zhl;by_cases hf:x∈e.bound i
  .have hsame:zr.set i y=zr:=by
    refine qC fun m=>?_;rw[qaG];split
    .rename_i h
     subst h;rw[hg];split
     .rfl
     .omega
    .rfl
   rw[if_pos hf,hsame];simp(maxSteps:=4000000) (disch:=first|exact zd|fail) [hi,hi2,hg,hln,hb,hco,hf,Zbg,-getElem?_pos]
  .rw [if_neg hf]
   simp(maxSteps:=4000000) (disch:=first|exact zd|fail) [hi,hi2,hg,hln,hb,hco,hf,hr,hset,Zbg,-getElem?_pos]
 .have htk:cc.take (e.kids.length+e.arms.length)++e.children.drop (e.kids.length+e.arms.length)=cc:=by
   rw[qaa (by rw[e.children_len];omega),qF,qf (by omega)]
  rw[htk];unfold Zhl;simp(maxSteps:=4000000) (disch:=first|exact zd|fail) [-getElem?_pos]
theorem ZAn (x:Str)(b:Exp)(free:List Str)(n:Nat)(e:Exp)(hw:e.wf1)(hl:e.weight<=67108864)(hrec:∀y∈e.children,(K A).call 202 [.ag (ZcE x b free),expV y] []=some (expV (subN n y x b),[])):
 wp (K A) (.loop Zhl) (fun ex s=>ex=.exit 3/\s=⟨[(2,.sc (.ptr 64 0)),(3,.sc (.ptr 128 0)),(4,.sc (.ptr 192 0)),(7,.sc (.arr 3680 (e.kids.length+e.arms.length))),(53,.sc (.arr 3680 (e.kids.length+e.arms.length))),(54,intV ((e.kids.length:Int)+e.arms.length)),(55,intV ((e.kids.length:Int)+e.arms.length)),(56,Zae false)],
     [(64,some (.box (ZcE x b free))),(128,some (.box [.c (.int .i64 e.kind),.c (.int .i64 e.pos),.c (.str e.name),.c (.int .i64 e.num),.c (.sl (Exp.rows e.kids)),.arr 2080 e.arms.length,.c (.int .i64 e.ty.kind),.c (.str e.ty.name),.c (.int .i64 e.ty.id),.c (.int .i64 e.ty.home),.c (.sl (Ty.rows e.ty.args))])),(192,some Zd7),(2080,some (.arr 14 (wr (Exp.armRows e.arms)) e.arms.length)),(3680,some (.arr 11 (wr (Exp.rows (subC n e x b))) 0))]⟩)
  ⟨[(2,.sc (.ptr 64 0)),(3,.sc (.ptr 128 0)),(4,.sc (.ptr 192 0)),(7,.sc (.arr 3680 (e.kids.length+e.arms.length))),(53,.sc (.arr 3680 (e.kids.length+e.arms.length))),(54,intV ((e.kids.length:Int)+e.arms.length)),(55,intV 0)],
    [(64,some (.box (ZcE x b free))),(128,some (.box [.c (.int .i64 e.kind),.c (.int .i64 e.pos),.c (.str e.name),.c (.int .i64 e.num),.c (.sl (Exp.rows e.kids)),.arr 2080 e.arms.length,.c (.int .i64 e.ty.kind),.c (.str e.ty.name),.c (.int .i64 e.ty.id),.c (.int .i64 e.ty.home),.c (.sl (Ty.rows e.ty.args))])),(192,some Zd7),(2080,some (.arr 14 (wr (Exp.armRows e.arms)) e.arms.length)),(3680,some (.arr 11 (wr (Exp.rows e.children)) 0))]⟩:=by
 have hle:=e.children_le;rw[e.children_len]at hle;have hCl:=subC_len n e x b;have hC2:(subC n e x b).length=e.children.length:=by rw[hCl,e.children_len]
 have hcg:=fun {i:Nat} {y:Exp} (h:e.children[i]?=some y)=>ZdC (n:=n) (x:=x) (b:=b) h;generalize subC n e x b=cc at *
 refine Zak (fun i=>⟨[(2,.sc (.ptr 64 0)),(3,.sc (.ptr 128 0)),(4,.sc (.ptr 192 0)),(7,.sc (.arr 3680 (e.kids.length+e.arms.length))),(53,.sc (.arr 3680 (e.kids.length+e.arms.length))),(54,intV ((e.kids.length:Int)+e.arms.length)),(55,intV i)],
  [(64,some (.box (ZcE x b free))),(128,some (.box [.c (.int .i64 e.kind),.c (.int .i64 e.pos),.c (.str e.name),.c (.int .i64 e.num),.c (.sl (Exp.rows e.kids)),.arr 2080 e.arms.length,.c (.int .i64 e.ty.kind),.c (.str e.ty.name),.c (.int .i64 e.ty.id),.c (.int .i64 e.ty.home),.c (.sl (Ty.rows e.ty.args))])),(192,some Zd7),(2080,some (.arr 14 (wr (Exp.armRows e.arms)) e.arms.length)),(3680,some (.arr 11 (wr (Exp.rows (cc.take i++e.children.drop i))) 0))]⟩) (e.kids.length+e.arms.length) ?_ ?_ ?_
 .simp
 .intro i hi
  have hi1:i<e.children.length:=by rw[e.children_len];exact hi
  obtain⟨y,hy⟩:=Zaa hi1;have hm:=qa hy;have hr:=hrec y hm;have hb:=Zi2 (A:=A) e i hw hi1 (by omega);simp only[expV,Za7 e]at hb;have hbl:=qu (e.bound_le i) hl;have hco:=Zb2 (A:=A) (e.bound i) x (by omega);have hcx:=hcg hy;have hg:=ZbL (i:=i) hC2 hi1;rw[hy]at hg;have hst:=Zbz hC2 hcx;have hln:=ZbN (i:=i) hC2;rw[e.children_len]at hln;have hi2:(i:Int)<(e.kids.length:Int)+e.arms.length:=by omega
  have hset:=fun z=>Zce (cc.take i++e.children.drop i) i z;rw[<-hst];generalize cc.take i++e.children.drop i=zr at *
  unfold Zhl;by_cases hf:x∈e.bound i
  .have hsame:zr.set i y=zr:=by
    refine qC fun m=>?_;rw[qaG];split
    .rename_i h
     subst h;rw[hg];split
     .rfl
     .omega
    .rfl
   rw[if_pos hf,hsame];simp(maxSteps:=4000000) (disch:=first|exact zd|fail) [hi,hi2,hg,hln,hb,hco,hf,Zbg,-getElem?_pos]
  .rw [if_neg hf]
   simp(maxSteps:=4000000) (disch:=first|exact zd|fail) [hi,hi2,hg,hln,hb,hco,hf,hr,hset,Zbg,-getElem?_pos]
 .have htk:cc.take (e.kids.length+e.arms.length)++e.children.drop (e.kids.length+e.arms.length)=cc:=by
   rw[qaa (by rw[e.children_len];omega),qF,qf (by omega)]
  rw[htk];unfold Zhl;simp(maxSteps:=4000000) (disch:=first|exact zd|fail) [-getElem?_pos]
end Go.Vs.Tryz
