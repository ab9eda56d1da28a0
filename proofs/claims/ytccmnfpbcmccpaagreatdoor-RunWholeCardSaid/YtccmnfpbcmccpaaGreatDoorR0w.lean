/- The tables. -/
import Derived.Test.YtccmnfpbcmccpaaGreatDoorT1w
import Derived.Test.YtccmnfpbcmccpaaGreatDoorT2w
import Derived.Test.YtccmnfpbcmccpaaGreatDoorT3w
import Derived.Test.YtccmnfpbcmccpaaGreatDoorT4w
import Derived.Test.YtccmnfpbcmccpaaGreatDoorProg
import Derived.Lib.Strings
import Derived.Lib.Walk
import Derived.Lib.BufferWrite
import Derived.Lib.UnsafeStr
import Derived.Lib.Hide
import Derived.Laws.MakeOwn
set_option linter.all false
set_option maxHeartbeats 4000000
set_option maxRecDepth 100000
namespace Go.Vs.Tryz
open Go Go.Vs Go.Proofs.Tryz
set_option maxRecDepth 100000
set_option maxHeartbeats 8000000
noncomputable section
def tab:TL:=[a1_0,a1_1,a1_2,a1_3,a2_0,a2_1,a2_2,a2_3,a3_0,a3_1,a3_2,a3_3,a3_4,a4_0,a4_1,a4_2,a4_3].flatten
def T:FuncId->Option VFun:=get? tab
theorem T_ok:∀f vf,T f=some vf->mFun prog f vf=true:=WC (l:=tab) (by unfold tab;simp only[qL,List.flatten_nil,List.all_append,List.all_nil,k1_0,k1_1,k1_2,k1_3,k2_0,k2_1,k2_2,k2_3,k3_0,k3_1,k3_2,k3_3,k3_4,k4_0,k4_1,k4_2,k4_3,Bool.and_self])
def cab:List (Nat×VFun):=[(149,v149),(223,v223),(244,v244)]
def Tc:FuncId->Option VFun:=get? cab
theorem UF:∀f vf,Tc f=some vf->mFun prog f vf=true:=AllT.get (l:=cab) ⟨m149,m223,m244,trivial⟩
theorem follows:prog.follows .mixedOrders=true:=by kernel_rfl
end
end Go.Vs.Tryz
namespace Go.Vs.Tryz
open Go Go.RowKit Go.Proofs Go.Vs
theorem ZfK:(Go.Proofs.Tryz.prog.info? 5).map (fun i=>(i.zero,i.size,i.bytes))=some (some (Value.int IntKind.u8 0),1,1):=by kernel_rfl
theorem Zfv:∃i0:TypeInfo,Go.Proofs.Tryz.prog.info? 5=some i0/\i0.zero=some (.int .u8 0)/\i0.size=1/\i0.bytes=1:=by
 have h:=ZfK;cases hi:Go.Proofs.Tryz.prog.info? 5 with
 |none=>rw[hi]at h;cases h
 |some i=>
  rw[hi]at h;simp only[qv,qd,qi]at h;exact⟨i,rfl,h.1,h.2.1,h.2.2⟩
theorem Zfc (s:ByteArray)(w:World)(hlim:s.size<=281474976710656):
 Calls Go.Proofs.Tryz.prog 284 #[.string s] w fun e w'=>e=.returned (.string s)/\Below w.heap.size w w':=by
 by_cases h0:s.size=0
 .have hs:s=⟨#[]⟩:=by
   apply ByteArray.ext;exact Array.eq_empty_of_size_eq_zero h0
  subst hs
  go_enter Go.Proofs.Tryz.func284,Go.Proofs.Tryz.ntmps284
  go_wp2
  go_ret
  exact⟨rfl,Below.refl _ _⟩
 .obtain ⟨i0,hi,hz0,hz1,hz2⟩:=Zfv
  have hinfo:(Go.Proofs.Tryz.prog.info? 5).map (·.size)=some 1:=by rw[hi];simp[hz1]
  have hco:Go.Proofs.Tryz.prog.cellsOf 5=1:=by simp[Program.cellsOf,hi,hz1]
  obtain⟨M,hM⟩:∃M,M=madeCells (Value.int .u8 0).cells (((s.size:Nat):Int).toNat*i0.size):=⟨_,rfl⟩;have hMs:M.size=s.size:=by rw[hM,size_madeCells,hz1];simp
  have hmk:∀W:World,(Instr.makeSlice 274 (.int .i64 (s.size:Int)) (.int .i64 (s.size:Int))).run Go.Proofs.Tryz.prog W=.ok (.slice (some ⟨W.heap.size,0,none⟩) s.size s.size) (W.alloc (.cells M 5)):=fun W=>by
   have h:=run_make (P:=Go.Proofs.Tryz.prog) W 274 5 i0 (.int .u8 0) Go.Proofs.Tryz.underlying274 hi hz0 .i64 .i64 (s.size:Int) (s.size:Int) oz oz (by rw[hz2];omega) oz;rw[<-hM]at h;simpa using h
  clear hM;have hcp:=Lib.run_copy_row_string (P:=Go.Proofs.Tryz.prog) (w.alloc (.cells M 5)) 274 9 3 5 w.heap.size 0 s.size s.size s M 5 Go.Proofs.Tryz.underlying274 hinfo (heap_alloc_new w _) (qg _) oz;obtain⟨Y,hY⟩:∃Y,Y=(M.toList.take 0++Lib.byteCells s.data.toList++M.toList.drop (0+s.size)).toArray:=⟨_,rfl⟩;rw[<-hY]at hcp;have hYl:Y.toList=Lib.byteCells s.data.toList:=by
   rw[hY,List.toList_toArray,List.take_zero,qad,qae (by rw[qar];omega),qK]
  have hYs:Y.size=s.size:=by rw[<-qar,hYl,Lib.byteCells_length,<-Lib.size_eq]
  have hgY:((w.alloc (.cells M 5)).setRow w.heap.size Y).heap[w.heap.size]?=some (.cells Y 5 (0,0)):=setRow_heap _ _ M _ 5 (0,0) (heap_alloc_new w _);have hne:s.data.toList≠[]:=fun e=>h0 (by rw[Lib.size_eq,e];rfl)
  have hUS:=Lib.run_unsafeString_row (P:=Go.Proofs.Tryz.prog) ((w.alloc (.cells M 5)).setRow w.heap.size Y) 310 3 9 5 Go.Proofs.Tryz.underlying310 hco w.heap.size Y.size (by unfold World.shape?;rw[hgY]) s.data.toList hne (by rw[<-Lib.size_eq];omega) (by rw[<-Lib.size_eq];omega)
   (fun j x hx=>Lib.cells_of_row hgY Y.size j _ (by rw[qh (by rw[qar];exact qg _),hYl];simp[Lib.byteCells,hx]))
  rw[<-Lib.size_eq]at hUS;clear hY
  go_enter Go.Proofs.Tryz.func284,Go.Proofs.Tryz.ntmps284
  go_wp2
  go_ret
  have hb1:Below w.heap.size w (w.alloc (.cells M 5)):=(Below.refl _ w).alloc (qg _) _;have hb2:Below w.heap.size (w.alloc (.cells M 5)) ((w.alloc (.cells M 5)).setRow w.heap.size Y):=⟨rfl,rfl,rfl,by simp,fun k hk=>setRow_other _ _ _ _ oz⟩;exact⟨rfl,Lib.below_freeze (hb1.trans hb2) (p:=⟨w.heap.size,0,none⟩) (qg _) _⟩
end Go.Vs.Tryz
namespace Go.Vs.Tryz
open Go Go.Vs Go.RowKit
def tabOf (k:IntKind)(l:List Int):List Cell:=l.map fun n=>.int k n
def pow10Tab:List Int:=[1,10,100,1000,10000,100000,1000000,10000000,100000000,1000000000,10000000000,100000000000,1000000000000,10000000000000,100000000000000,1000000000000000,10000000000000000,100000000000000000,1000000000000000000,10000000000000000000]
def Zdd:List Int:=[0,1,28,2,29,14,24,3,30,22,20,15,25,17,4,8,31,27,13,23,21,19,16,7,26,12,18,6,11,5,10,9]
def Zcr:List Int:=[0,1,56,2,57,49,28,3,61,58,42,50,38,29,17,4,62,47,59,36,45,43,51,22,53,39,33,30,24,18,12,5,63,55,48,27,60,41,37,16,46,35,44,21,52,32,23,11,54,26,40,15,34,20,31,10,25,14,19,9,13,8,7,6]
def errCell (s:List UInt8):Cell:=.ifc 311 true [.ro [.str s] 0]
def G0:List UInt8:=[105,110,118,97,108,105,100,32,115,121,110,116,97,120]
def HU:List UInt8:=[118,97,108,117,101,32,111,117,116,32,111,102,32,114,97,110,103,101]
def gl5:Nat->List Cell
 |0=>[errCell G0]
 |1=>[errCell HU]
 |2=>tabOf .u64 pow10Tab
 |3=>tabOf .u8 Zdd
 |4=>tabOf .u8 Zcr
 |_=>[]
def gl0:Nat->List Cell
 |0=>[errCell G0]
 |1=>[errCell HU]
 |2=>tabOf .u64 pow10Tab
 |_=>[]
def Gd (f:Nat):Bool:=f==149||f==223||f==244
def X:Ag:=fun f args objs=>match objs with
 |_::_=>DD Tc (fun _ _ _=>none) gl0 3 f args objs
 |[]=>match args with
  |[.sc (.c (.str l))]=>bif f==284&&Nat.ble l.length 281474976710656 then some (.sc (.c (.str l)),[]) else none
  |[.sc (.c (.sl []))]=>bif Gd f then some (.sc (.full []),[]) else none
  |_=>DD Tc (fun _ _ _=>none) gl0 3 f args objs
abbrev ev (n:Nat)(f:FuncId)(args:List V)(objs:List Obj):Option (V×List Obj):=DD T X gl0 n f args objs
end Go.Vs.Tryz
namespace Go.Vs
open Go Go.RowKit
theorem ZdT {w w':World}{ω:Nat->Nat}{S:Nat->Prop}(hb:Below w.heap.size w w'):Keeps w ω S w' ω:=
 ⟨⟨fun b i hi v hv=>by
   obtain⟨cs,t,fr,h⟩:=KW hv;have h':w'.heap[b]?=some (.cells cs t fr):=(hb.block b (qV.1 h).1).trans h;refine⟨?_,hi⟩;rw[Ca h',<-Ca h];exact hv⟩,hb.size,fun b hbl _=>⟨hb.block b hbl,rfl⟩,hb.os,hb.tape,hb.output⟩
theorem Ms {P:Program}{gl:Nat->List Cell}{f:FuncId}(h1:FnOk P gl f [.sc (.e0 true)] [] (.sc .nil) [])(h2:FnOk P gl f [.sc (.e0 false)] [] (.sc (.full [])) []):
 FnOk P gl f [.sc (.c (.sl []))] [] (.sc (.full [])) []:=by
 refine⟨h1.1,fun w ω β cargs hgl hargs hobj hinj=>?_⟩;obtain⟨l⟩:=cargs
 match l,hargs with
 |[],hargs=>simp[RVs]at hargs
 |v::_::_,hargs=>simp[RVs]at hargs
 |[v],hargs=>
  simp only[RVs,RV1,RW,RD,and_true]at hargs;obtain⟨base,cap,hv,_,hcap,_⟩:=hargs;simp only[qZ]at hv;cases base with
  |none=>
   have hr:RVs w ω β (Lof []) [.sc (.e0 true)] [v]:=by
    simp only[RVs,RV1,RW,and_true];exact⟨none,cap,hv,hcap,rfl⟩
   refine(h1.2 w ω β #[v] hgl hr hobj hinj).mono ?_;rintro e w' ⟨vv,ω',β',he,hrv,hrest⟩;refine⟨vv,ω',β',he,?_,hrest⟩;simp only[RV,RV1,RW]at hrv;subst hrv;simp only[RV,RV1,RW,RD];exact⟨⟨none,0,rfl,by simp,by simp[Bc],by simp⟩,none,0,rfl⟩
  |some a=>
   have hr:RVs w ω β (Lof []) [.sc (.e0 false)] [v]:=by
    simp only[RVs,RV1,RW,and_true];exact⟨some a,cap,hv,hcap,rfl⟩
   exact h2.2 w ω β #[v] hgl hr hobj hinj
theorem FnOk.owned {P:Program}{gl:Nat->List Cell}{f:FuncId}{args:List V}{s:Nat}(hs:0<s)(h:FnOk P gl f args [] (.sc (.full [])) []):FnOk P gl f args [] (.sc (.arr 0 0)) [.arr s [] 0]:=by
 refine⟨h.1,fun w ω β cargs hgl hargs hobj hinj=>(h.2 w ω β cargs hgl hargs hobj hinj).mono ?_⟩;rintro e w' ⟨vv,ω',β',he,hrv,_,_,hk,_,_⟩;simp only[RV,RV1,RW,RD]at hrv;obtain⟨⟨base,cap,h2,_⟩,base',n,h3⟩:=hrv;have hv:vv=.slice base' 0 0:=by
  rw[h3]at h2 |-;simp only[qbk,qZ]at h2;rw[h2.2.1]
 refine⟨vv,ω',fun _=>none,he,?_,?_,?_,hk,?_,?_⟩
 .simp only [RV,RV1,RW]
  exact⟨s,[],0,rfl,by simp,⟨_,_,_,hv⟩,fun _=>.inr ⟨rfl,rfl,base',hv⟩⟩
 .intro k o hko
  cases k with
  |zero=>
   have:Obj.arr s [] 0=o:=(by simpa[Lof]using hko);subst this;exact⟨hs,by simp,by simp,.inr ⟨rfl,rfl⟩⟩
  |succ k=>simp[Lof]at hko
 .intro j k b _ _ hj
  cases hj
 .intro k b _ hb
  cases hb
 .intro k
  simp[Tr,Lof]
namespace Tryz
theorem TA {gl:Nat->List Cell}{l:List UInt8}(hl:l.length<=281474976710656):FnOk Go.Proofs.Tryz.prog gl 284 [.sc (.c (.str l))] [] (.sc (.c (.str l))) []:=by
 refine⟨⟨_,Go.Proofs.Tryz.func284,by kernel_rfl,by kernel_rfl⟩,fun w ω β cargs hgl hargs hobj hinj=>?_⟩;obtain⟨l'⟩:=cargs
 match l',hargs with
 |[],hargs=>simp[RVs]at hargs
 |v::_::_,hargs=>simp[RVs]at hargs
 |[v],hargs=>
  simp only[RVs,RV1,RW,RD,and_true]at hargs;obtain⟨a,rfl,ha⟩:=hargs;refine(Zfc a w (by rw[Lib.size_eq,ha];exact hl)).mono ?_;rintro e w' ⟨rfl,hb⟩;refine⟨_,ω,β,rfl,?_,fun k o hk=>by simp[Lof]at hk,fun j k b hj=>by simp[Lof]at hj,ZdT hb,fun k b hk=>by simp[Lof]at hk,fun k=>by simp[Tr,Lof]⟩;simp only[RV,RV1,RW,RD];exact⟨a,rfl,ha⟩
theorem QJ:∀(f:FuncId)(args:List V)(objs:List Obj)(rv:V)(objs':List Obj),(fun _ _ _=>none:Ag) f args objs=some (rv,objs')->FnOk Go.Proofs.Tryz.prog gl0 f args objs rv objs':=
 fun _ _ _ _ _ h=>by cases h
theorem FG {n:Nat}{f:FuncId}{args:List V}{objs:List Obj}{rv:V}{objs':List Obj}(h:DD Tc (fun _ _ _=>none) gl0 n f args objs=some (rv,objs')):FnOk Go.Proofs.Tryz.prog gl0 f args objs rv objs':=
 MS follows UF QJ n h
theorem Ou {f:Nat}(h:Gd f=true):FnOk Go.Proofs.Tryz.prog gl0 f [.sc (.c (.sl []))] [] (.sc (.full [])) []:=by
 have hf:f=149\/f=223\/f=244:=by
  simp only[Gd,qaw,beq_iff_eq]at h;omega
 rcases hf with rfl|rfl|rfl
 .exact Ms (FG (n:=3) (by kernel_rfl)) (FG (n:=3) (by kernel_rfl))
 .exact Ms (FG (n:=3) (by kernel_rfl)) (FG (n:=3) (by kernel_rfl))
 .exact Ms (FG (n:=3) (by kernel_rfl)) (FG (n:=3) (by kernel_rfl))
theorem X_ok:∀(f:FuncId)(args:List V)(objs:List Obj)(rv:V)(objs':List Obj),X f args objs=some (rv,objs')->FnOk Go.Proofs.Tryz.prog gl0 f args objs rv objs':=by
 intro f args objs rv objs' h;unfold X at h;split at h
 .exact FG h
 .split at h
  .rename_i l
   cases hc:(f==284&&Nat.ble l.length 281474976710656)with
   |false=>rw[hc]at h;cases h
   |true=>
    rw[hc]at h;simp only[cond_true,qd,qi]at h;simp only[qe,beq_iff_eq]at hc;obtain⟨rfl,rfl⟩:=h;obtain⟨rfl,hl⟩:=hc;exact TA (qm hl)
  .cases hc:Gd f with
   |false=>rw[hc]at h;cases h
   |true=>
    rw[hc]at h;simp only[cond_true,qd,qi]at h;obtain⟨rfl,rfl⟩:=h;exact Ou hc
  .exact FG h
theorem S8 {n:Nat}{f:FuncId}{args:List V}{objs:List Obj}{rv:V}{objs':List Obj}(h:ev n f args objs=some (rv,objs')):FnOk Go.Proofs.Tryz.prog gl0 f args objs rv objs':=
 MS follows T_ok X_ok n h
end Tryz
end Go.Vs
