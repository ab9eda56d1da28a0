/- The tables. -/
import Derived.Test.YtccmnfpbcmccpaaGreatDoorT1u
import Derived.Test.YtccmnfpbcmccpaaGreatDoorT2u
import Derived.Test.YtccmnfpbcmccpaaGreatDoorT3u
import Derived.Test.YtccmnfpbcmccpaaGreatDoorT4u
import Derived.Test.YtccmnfpbcmccpaaGreatDoorProg
import Derived.Lib.Strings
import Derived.Lib.Walk
import Derived.Lib.BufferWrite
import Derived.Lib.UnsafeStr
import Derived.Lib.Hide
import Derived.Laws.MakeOwn
import Derived.Test.YtccmnfpbcmccpaaGreatDoorM6u
set_option linter.unusedSimpArgs false
set_option linter.unusedVariables false
set_option linter.deprecated false
set_option maxHeartbeats 4000000
set_option maxRecDepth 100000
namespace Go.Vs.Tryz
open Go Go.Vs Go.Proofs.Tryz
set_option maxRecDepth 100000
set_option maxHeartbeats 8000000
noncomputable section
def tab:TL:=[a1_0,a1_1,a1_2,a2_0,a2_1,a2_2,a3_0,a3_1,a3_2,a4_0,a4_1,a4_2].flatten
def T:FuncId->Option VFun:=get? tab
theorem T_ok:∀f vf,T f=some vf->mFun prog f vf=true:=S4 (l:=tab) (by unfold tab;simp only[qG,List.flatten_nil,List.all_append,List.all_nil,k1_0,k1_1,k1_2,k2_0,k2_1,k2_2,k3_0,k3_1,k3_2,k4_0,k4_1,k4_2,Bool.and_self])
def cab:List (Nat×VFun):=[(149,v149),(223,v223),(244,v244)]
def Tc:FuncId->Option VFun:=get? cab
theorem OF:∀f vf,Tc f=some vf->mFun prog f vf=true:=AllT.get (l:=cab) ⟨m149,m223,m244,trivial⟩
theorem follows:prog.follows .mixedOrders=true:=by kernel_rfl
end
end Go.Vs.Tryz
namespace Go.Vs.Tryz
open Go Go.RowKit Go.Proofs Go.Vs
theorem Xi:(Go.Proofs.Tryz.prog.info? 5).map (fun i=>(i.zero,i.size,i.bytes))=some (some (Value.int IntKind.u8 0),1,1):=by kernel_rfl
theorem Yc:∃i0:TypeInfo,Go.Proofs.Tryz.prog.info? 5=some i0/\i0.zero=some (.int .u8 0)/\i0.size=1/\i0.bytes=1:=by
 have h:=Xi;cases hi:Go.Proofs.Tryz.prog.info? 5 with
 |none=>rw[hi]at h;cases h
 |some i=>
  rw[hi]at h;simp only[qp,qc,qh]at h;exact⟨i,rfl,h.1,h.2.1,h.2.2⟩
theorem Zao (s:ByteArray)(w:World)(hlim:s.size<=281474976710656):
 Calls Go.Proofs.Tryz.prog 284 #[.string s] w fun e w'=>e=.returned (.string s)/\Below w.heap.size w w':=by
 by_cases h0:s.size=0
 .have hs:s=⟨#[]⟩:=by
   apply ByteArray.ext;exact Array.eq_empty_of_size_eq_zero h0
  subst hs
  go_enter Go.Proofs.Tryz.func284,Go.Proofs.Tryz.ntmps284
  go_wp2
  go_ret
  exact⟨rfl,Below.refl _ _⟩
 .obtain ⟨i0,hi,hz0,hz1,hz2⟩:=Yc
  have hinfo:(Go.Proofs.Tryz.prog.info? 5).map (·.size)=some 1:=by rw[hi];simp[hz1]
  have hco:Go.Proofs.Tryz.prog.cellsOf 5=1:=by simp[Program.cellsOf,hi,hz1]
  obtain⟨M,hM⟩:∃M,M=madeCells (Value.int .u8 0).cells (((s.size:Nat):Int).toNat*i0.size):=⟨_,rfl⟩;have hMs:M.size=s.size:=by rw[hM,size_madeCells,hz1];simp
  have hmk:∀W:World,(Instr.makeSlice 274 (.int .i64 (s.size:Int)) (.int .i64 (s.size:Int))).run Go.Proofs.Tryz.prog W=.ok (.slice (some ⟨W.heap.size,0,none⟩) s.size s.size) (W.alloc (.cells M 5)):=fun W=>by
   have h:=run_make (P:=Go.Proofs.Tryz.prog) W 274 5 i0 (.int .u8 0) Go.Proofs.Tryz.underlying274 hi hz0 .i64 .i64 (s.size:Int) (s.size:Int) (by omega) (by omega) (by rw[hz2];omega) (by omega);rw[<-hM]at h;simpa using h
  clear hM;have hcp:=Lib.run_copy_row_string (P:=Go.Proofs.Tryz.prog) (w.alloc (.cells M 5)) 274 9 3 5 w.heap.size 0 s.size s.size s M 5 Go.Proofs.Tryz.underlying274 hinfo (heap_alloc_new w _) (qg _) (by omega);obtain⟨Y,hY⟩:∃Y,Y=(M.toList.take 0++Lib.byteCells s.data.toList++M.toList.drop (0+s.size)).toArray:=⟨_,rfl⟩;rw[<-hY]at hcp;have hYl:Y.toList=Lib.byteCells s.data.toList:=by
   rw[hY,List.toList_toArray,List.take_zero,qae,qag (by rw[qak];omega),qJ]
  have hYs:Y.size=s.size:=by rw[<-qak,hYl,Lib.byteCells_length,<-Lib.size_eq]
  have hgY:((w.alloc (.cells M 5)).setRow w.heap.size Y).heap[w.heap.size]?=some (.cells Y 5 (0,0)):=setRow_heap _ _ M _ 5 (0,0) (heap_alloc_new w _);have hne:s.data.toList≠[]:=fun e=>h0 (by rw[Lib.size_eq,e];rfl)
  have hUS:=Lib.run_unsafeString_row (P:=Go.Proofs.Tryz.prog) ((w.alloc (.cells M 5)).setRow w.heap.size Y) 310 3 9 5 Go.Proofs.Tryz.underlying310 hco w.heap.size Y.size (by unfold World.shape?;rw[hgY]) s.data.toList hne (by rw[<-Lib.size_eq];omega) (by rw[<-Lib.size_eq];omega)
   (fun j x hx=>Lib.cells_of_row hgY Y.size j _ (by rw[qn (by rw[qak];exact qg _),hYl];simp[Lib.byteCells,hx]))
  rw[<-Lib.size_eq]at hUS;clear hY
  go_enter Go.Proofs.Tryz.func284,Go.Proofs.Tryz.ntmps284
  go_wp2
  go_ret
  have hb1:Below w.heap.size w (w.alloc (.cells M 5)):=(Below.refl _ w).alloc (qg _) _;have hb2:Below w.heap.size (w.alloc (.cells M 5)) ((w.alloc (.cells M 5)).setRow w.heap.size Y):=⟨rfl,rfl,rfl,by simp,fun k hk=>setRow_other _ _ _ _ (by omega)⟩;exact⟨rfl,Lib.below_freeze (hb1.trans hb2) (p:=⟨w.heap.size,0,none⟩) (qg _) _⟩
end Go.Vs.Tryz
namespace Go.Vs.Tryz
open Go Go.Vs Go.RowKit
def tabOf (k:IntKind)(l:List Int):List Cell:=l.map fun n=>.int k n
def pow10Tab:List Int:=[1,10,100,1000,10000,100000,1000000,10000000,100000000,1000000000,10000000000,100000000000,1000000000000,10000000000000,100000000000000,1000000000000000,10000000000000000,100000000000000000,1000000000000000000,10000000000000000000]
def We:List Int:=[0,1,28,2,29,14,24,3,30,22,20,15,25,17,4,8,31,27,13,23,21,19,16,7,26,12,18,6,11,5,10,9]
def XG:List Int:=[0,1,56,2,57,49,28,3,61,58,42,50,38,29,17,4,62,47,59,36,45,43,51,22,53,39,33,30,24,18,12,5,63,55,48,27,60,41,37,16,46,35,44,21,52,32,23,11,54,26,40,15,34,20,31,10,25,14,19,9,13,8,7,6]
def errCell (s:List UInt8):Cell:=.ifc 311 true [.ro [.str s] 0]
def HA:List UInt8:=[105,110,118,97,108,105,100,32,115,121,110,116,97,120]
def IU:List UInt8:=[118,97,108,117,101,32,111,117,116,32,111,102,32,114,97,110,103,101]
def gl5:Nat->List Cell
 |0=>[errCell HA]
 |1=>[errCell IU]
 |2=>tabOf .u64 pow10Tab
 |3=>tabOf .u8 We
 |4=>tabOf .u8 XG
 |_=>[]
def gl0:Nat->List Cell
 |0=>[errCell HA]
 |1=>[errCell IU]
 |2=>tabOf .u64 pow10Tab
 |_=>[]
def F3 (f:Nat):Bool:=f==149||f==223||f==244
def X:Ab:=fun f args objs=>match objs with
 |_::_=>DH Tc (fun _ _ _=>none) gl0 3 f args objs
 |[]=>match args with
  |[.sc (.c (.str l))]=>bif f==284&&Nat.ble l.length 281474976710656 then some (.sc (.c (.str l)),[]) else none
  |[.sc (.c (.sl []))]=>bif F3 f then some (.sc (.full []),[]) else none
  |_=>DH Tc (fun _ _ _=>none) gl0 3 f args objs
abbrev ev (n:Nat)(f:FuncId)(args:List V)(objs:List Obj):Option (V×List Obj):=DH T X gl0 n f args objs
end Go.Vs.Tryz
namespace Go.Vs
open Go Go.RowKit
theorem ZaV {w w':World}{ω:Nat->Nat}{S:Nat->Prop}(hb:Below w.heap.size w w'):Keeps w ω S w' ω:=
 ⟨⟨fun b i hi v hv=>by
   obtain⟨cs,t,fr,h⟩:=JS hv;have h':w'.heap[b]?=some (.cells cs t fr):=(hb.block b (qT.1 h).1).trans h;refine⟨?_,hi⟩;rw[BO h',<-BO h];exact hv⟩,hb.size,fun b hbl _=>⟨hb.block b hbl,rfl⟩,hb.os,hb.tape,hb.output⟩
theorem Nd {P:Program}{gl:Nat->List Cell}{f:FuncId}(h1:FnOk P gl f [.sc (.e0 true)] [] (.sc .nil) [])(h2:FnOk P gl f [.sc (.e0 false)] [] (.sc (.full [])) []):
 FnOk P gl f [.sc (.c (.sl []))] [] (.sc (.full [])) []:=by
 refine⟨h1.1,fun w ω β cargs hgl hargs hobj hinj=>?_⟩;obtain⟨l⟩:=cargs
 match l,hargs with
 |[],hargs=>simp[RVs]at hargs
 |v::_::_,hargs=>simp[RVs]at hargs
 |[v],hargs=>
  simp only[RVs,RV1,RW,RD,and_true]at hargs;obtain⟨base,cap,hv,_,hcap,_⟩:=hargs;simp only[qR]at hv;cases base with
  |none=>
   have hr:RVs w ω β (Lof []) [.sc (.e0 true)] [v]:=by
    simp only[RVs,RV1,RW,and_true];exact⟨none,cap,hv,hcap,rfl⟩
   refine(h1.2 w ω β #[v] hgl hr hobj hinj).mono ?_;rintro e w' ⟨vv,ω',β',he,hrv,hrest⟩;refine⟨vv,ω',β',he,?_,hrest⟩;simp only[RV,RV1,RW]at hrv;subst hrv;simp only[RV,RV1,RW,RD];exact⟨⟨none,0,rfl,by simp,by simp[A5],by simp⟩,none,0,rfl⟩
  |some a=>
   have hr:RVs w ω β (Lof []) [.sc (.e0 false)] [v]:=by
    simp only[RVs,RV1,RW,and_true];exact⟨some a,cap,hv,hcap,rfl⟩
   exact h2.2 w ω β #[v] hgl hr hobj hinj
theorem FnOk.owned {P:Program}{gl:Nat->List Cell}{f:FuncId}{args:List V}{s:Nat}(hs:0<s)(h:FnOk P gl f args [] (.sc (.full [])) []):FnOk P gl f args [] (.sc (.arr 0 0)) [.arr s [] 0]:=by
 refine⟨h.1,fun w ω β cargs hgl hargs hobj hinj=>(h.2 w ω β cargs hgl hargs hobj hinj).mono ?_⟩;rintro e w' ⟨vv,ω',β',he,hrv,_,_,hk,_,_⟩;simp only[RV,RV1,RW,RD]at hrv;obtain⟨⟨base,cap,h2,_⟩,base',n,h3⟩:=hrv;have hv:vv=.slice base' 0 0:=by
  rw[h3]at h2 |-;simp only[qbc,qR]at h2;rw[h2.2.1]
 refine⟨vv,ω',fun _=>none,he,?_,?_,?_,hk,?_,?_⟩
 .simp only [RV,RV1,RW]
  exact⟨s,[],0,rfl,by simp,⟨_,_,_,hv⟩,fun _=>.inr ⟨rfl,rfl,base',hv⟩⟩
 .intro k o hko
  cases k with
  |zero=>
   have:Obj.arr s [] 0=o:=(by simpa[Lof]using hko);subst this;exact⟨hs,by simp,by simp,.inr ⟨rfl,rfl⟩⟩
  |succ k=>simp[Lof]at hko
 .intro j k b _ _ hj
  cases hj
 .intro k b _ hb
  cases hb
 .intro k
  simp[Tr,Lof]
namespace Tryz
theorem Oy {gl:Nat->List Cell}{l:List UInt8}(hl:l.length<=281474976710656):FnOk Go.Proofs.Tryz.prog gl 284 [.sc (.c (.str l))] [] (.sc (.c (.str l))) []:=by
 refine⟨⟨_,Go.Proofs.Tryz.func284,by kernel_rfl,by kernel_rfl⟩,fun w ω β cargs hgl hargs hobj hinj=>?_⟩;obtain⟨l'⟩:=cargs
 match l',hargs with
 |[],hargs=>simp[RVs]at hargs
 |v::_::_,hargs=>simp[RVs]at hargs
 |[v],hargs=>
  simp only[RVs,RV1,RW,RD,and_true]at hargs;obtain⟨a,rfl,ha⟩:=hargs;refine(Zao a w (by rw[Lib.size_eq,ha];exact hl)).mono ?_;rintro e w' ⟨rfl,hb⟩;refine⟨_,ω,β,rfl,?_,fun k o hk=>by simp[Lof]at hk,fun j k b hj=>by simp[Lof]at hj,ZaV hb,fun k b hk=>by simp[Lof]at hk,fun k=>by simp[Tr,Lof]⟩;simp only[RV,RV1,RW,RD];exact⟨a,rfl,ha⟩
theorem P4:∀(f:FuncId)(args:List V)(objs:List Obj)(rv:V)(objs':List Obj),(fun _ _ _=>none:Ab) f args objs=some (rv,objs')->FnOk Go.Proofs.Tryz.prog gl0 f args objs rv objs':=
 fun _ _ _ _ _ h=>by cases h
theorem FG {n:Nat}{f:FuncId}{args:List V}{objs:List Obj}{rv:V}{objs':List Obj}(h:DH Tc (fun _ _ _=>none) gl0 n f args objs=some (rv,objs')):FnOk Go.Proofs.Tryz.prog gl0 f args objs rv objs':=
 Md follows OF P4 n h
theorem Na {f:Nat}(h:F3 f=true):FnOk Go.Proofs.Tryz.prog gl0 f [.sc (.c (.sl []))] [] (.sc (.full [])) []:=by
 have hf:f=149\/f=223\/f=244:=by
  simp only[F3,qar,beq_iff_eq]at h;omega
 rcases hf with rfl|rfl|rfl
 .exact Nd (FG (n:=3) (by kernel_rfl)) (FG (n:=3) (by kernel_rfl))
 .exact Nd (FG (n:=3) (by kernel_rfl)) (FG (n:=3) (by kernel_rfl))
 .exact Nd (FG (n:=3) (by kernel_rfl)) (FG (n:=3) (by kernel_rfl))
theorem X_ok:∀(f:FuncId)(args:List V)(objs:List Obj)(rv:V)(objs':List Obj),X f args objs=some (rv,objs')->FnOk Go.Proofs.Tryz.prog gl0 f args objs rv objs':=by
 intro f args objs rv objs' h;unfold X at h;split at h
 .exact FG h
 .split at h
  .rename_i l
   cases hc:(f==284&&Nat.ble l.length 281474976710656)with
   |false=>rw[hc]at h;cases h
   |true=>
    rw[hc]at h;simp only[cond_true,qc,qh]at h;simp only[qe,beq_iff_eq]at hc;obtain⟨rfl,rfl⟩:=h;obtain⟨rfl,hl⟩:=hc;exact Oy (qi hl)
  .cases hc:F3 f with
   |false=>rw[hc]at h;cases h
   |true=>
    rw[hc]at h;simp only[cond_true,qc,qh]at h;obtain⟨rfl,rfl⟩:=h;exact Na hc
  .exact FG h
theorem ZaJ {n:Nat}{f:FuncId}{args:List V}{objs:List Obj}{rv:V}{objs':List Obj}(h:ev n f args objs=some (rv,objs')):FnOk Go.Proofs.Tryz.prog gl0 f args objs rv objs':=
 Md follows T_ok X_ok n h
end Tryz
end Go.Vs
namespace Go.Vs.Tryz
open Go Go.Vs
def numS (n:Nat):Str:=if h:n<10 then [UInt8.ofNat (48+n)] else numS (n / 10)++[UInt8.ofNat (48+n % 10)]
termination_by n
decreasing_by omega
theorem Cn {n:Nat}(h:n<10):numS n=[UInt8.ofNat (48+n)]:=by rw[numS,dif_pos h]
theorem Dp {n:Nat}(h:¬n<10):numS n=numS (n / 10)++[UInt8.ofNat (48+n % 10)]:=by rw[numS,dif_neg h]
theorem IP (n:Nat):1<=(numS n).length:=by
 grind[Cn,Dp]
theorem OU {a b:Nat}(ha:a<10)(hb:b<10)(h:UInt8.ofNat (48+a)=UInt8.ofNat (48+b)):a=b:=by
 grind[UInt8.toNat_ofNat']
theorem Wk:∀(n m:Nat),numS n=numS m->n=m:=by
 intro n
 induction n using Nat.strongRecOn with
 |ind n ih=>
  intro m h;by_cases hn:n<10;grind[Cn,OU,Dp,qI]
  .by_cases hm:m<10
   grind
   .rw [Dp hn,Dp hm] at h
    obtain⟨h1,h2⟩:=List.append_inj' h (by simp);have h3:=ih (n / 10) (by omega) _ h1;have h4:=OU (Nat.mod_lt _ (by omega)) (Nat.mod_lt _ (by omega)) (by simpa using h2);omega
theorem K1 (n:Nat):∀c∈numS n,48<=c.toNat/\c.toNat<=57:=by
 induction n using Nat.strongRecOn<;>grind[Cn,UInt8.toNat_ofNat',Dp]
theorem Gt (n:Nat):∀k,n<10 ^ k->1<=k->(numS n).length<=k:=by
 induction n using Nat.strongRecOn with
 |ind n ih=>
  intro k hk h1;by_cases hn:n<10;grind[Cn]
  .obtain ⟨k,rfl⟩:∃ j,k=j+1:=⟨k-1,by omega⟩
   have hk1:1<=k:=by
    grind
   have:=ih (n / 10) (by omega) k (by omega) hk1;grind[Dp]
def AG (k:Nat):Str:=118::numS k
theorem Yy {a b:Nat}(h:AG a=AG b):a=b:=Wk a b (by simpa[AG]using h)
noncomputable def Di (l:List Str)(k:Nat):Nat:=match l with
 |[]=>0
 |s::r=>(open Classical in if ∃j,k<=j/\s=AG j then 1 else 0)+Di r k
theorem LH (l:List Str)(k:Nat):Di l k<=l.length:=by
 induction l with
 |nil=>simp[Di]
 |cons s r ih=>simp only[Di,qF];split<;>omega
theorem Lc (l:List Str)(k:Nat):Di l (k+1)<=Di l k:=by
 induction l with
 |nil=>simp[Di]
 |cons s r ih=>
  simp only[Di];split
  .rename_i h
   obtain⟨j,h1,h2⟩:=h;rw[if_pos ⟨j,by omega,h2⟩];omega
  omega
theorem T3 {l:List Str}{k:Nat}(h:AG k∈l):Di l (k+1)<Di l k:=by
 induction l with
 |nil=>grind
 |cons s r ih=>
  have hm:=Lc r k;simp only[Di];rcases qD.1 h with rfl|h
  .rw[if_neg,if_pos ⟨k,qg _,rfl⟩]<;>grind[Yy]
  .have:=ih h
   split
   .rename_i h3
    obtain⟨j,h1,h2⟩:=h3;rw[if_pos ⟨j,by omega,h2⟩];omega
   omega
def Dx (taken:List Str):Nat->Nat->Nat->Nat
 |0,k,_=>k
 |f+1,k,n=>if AG k∈taken then Dx taken f (k+1) n else if n=0 then k else Dx taken f (k+1) (n-1)
theorem GX (taken:List Str):∀f k n,k<=Dx taken f k n
 |0,k,n=>qg _
 |f+1,k,n=>by
  simp only[Dx];split
  .exact qr (by omega) (GX taken f (k+1) n)
  .split
   simp
   .exact qr (by omega) (GX taken f (k+1) (n-1))
theorem NG (taken:List Str):∀f k n,Dx taken f k n<=k+f
 |0,k,n=>by simp[Dx]
 |f+1,k,n=>by
  simp only[Dx];have h1:=NG taken f (k+1) n;have h2:=NG taken f (k+1) (n-1);grind
theorem MO (taken:List Str):∀f k n,n+Di taken k<f->AG (Dx taken f k n)∉taken
 |0,k,n,h=>by omega
 |f+1,k,n,h=>by
  simp only[Dx];split
  .rename_i hm
   exact MO taken f (k+1) n (by grind[T3])
  .rename_i hm
   split;omega
   .exact MO taken f (k+1) (n-1) (by grind[Lc])
def Bo (n:Nat)(taken:List Str):Nat:=Dx taken (n+taken.length+1) 1 n
def Av (n:Nat)(taken:List Str):Str:=AG (Bo n taken)
theorem Nj (n:Nat)(taken:List Str):Bo n taken<=n+taken.length+2:=by
 grind[NG,Bo]
theorem F2 (n:Nat)(taken:List Str):Av n taken∉taken:=MO taken _ _ _ (by grind[LH])
def skip (f:Nat):Bool:=f==11||f==25||f==81
def T2:FuncId->Option VFun:=fun f=>bif skip f then none else T f
theorem Sz:∀f vf,T2 f=some vf->mFun Go.Proofs.Tryz.prog f vf=true:=by
 intro f vf h;unfold T2 at h;cases hs:skip f with
 |true=>rw[hs]at h;cases h
 |false=>rw[hs]at h;exact T_ok f vf h
def KE (f:Nat):Nat:=bif f==223 then 14 else 1
theorem Zaj (f:Nat):0<KE f:=by
 unfold KE;cases f==223<;>decide
noncomputable def X1:Ab:=fun f args objs=>match objs with
 |_::_=>lim Tc (fun _ _ _=>none) gl0 f args objs
 |[]=>match args with
  |[.sc (.c (.str l))]=>bif f==284&&Nat.ble l.length 281474976710656 then some (.sc (.c (.str l)),[]) else none
  |[.sc (.c (.sl []))]=>bif f==149 then some (.sc (.full []),[]) else bif F3 f then some (.sc (.arr 0 0),[.arr (KE f) [] 0]) else none
  |_=>lim Tc (fun _ _ _=>none) gl0 f args objs
noncomputable def X2 (A:Ab):Ab:=fun f args objs=>bif skip f then A f args objs else X1 f args objs
theorem O8 {f:FuncId}{args:List V}{objs:List Obj}{rv:V}{objs':List Obj}(h:lim Tc (fun _ _ _=>none) gl0 f args objs=some (rv,objs')):FnOk Go.Proofs.Tryz.prog gl0 f args objs rv objs':=by
 obtain⟨n,h⟩:=Mw h;exact Ro follows OF P4 n h
theorem X7 {A:Ab}(hA:∀f args objs rv objs',skip f=true->A f args objs=some (rv,objs')->FnOk Go.Proofs.Tryz.prog gl0 f args objs rv objs'):
 ∀(f:FuncId) (args:List V) (objs:List Obj) (rv:V) (objs':List Obj),X2 A f args objs=some (rv,objs')->FnOk Go.Proofs.Tryz.prog gl0 f args objs rv objs':=by
 intro f args objs rv objs' h;unfold X2 at h;cases hs:skip f with
 |true=>rw[hs]at h;exact hA _ _ _ _ _ hs h
 |false=>
  rw[hs]at h;simp only[cond_false]at h;unfold X1 at h;split at h
  .exact O8 h
  .split at h
   .rename_i l
    cases hc:(f==284&&Nat.ble l.length 281474976710656)with
    |false=>rw[hc]at h;cases h
    |true=>
     rw[hc]at h;simp only[cond_true,qc,qh]at h;simp only[qe,beq_iff_eq]at hc;obtain⟨rfl,rfl⟩:=h;obtain⟨rfl,hl⟩:=hc;exact Oy (qi hl)
   .cases h140:f == 149 with
    |true=>
     rw[h140]at h;simp only[cond_true,qc,qh]at h;obtain⟨rfl,rfl⟩:=h;have:f=149:=(by simpa using h140);subst this;exact Na rfl
    |false=>
     rw[h140]at h;simp only[cond_false]at h;cases hc:F3 f with
     |false=>rw[hc]at h;cases h
     |true=>
      rw[hc]at h;simp only[cond_true,qc,qh]at h;obtain⟨rfl,rfl⟩:=h;exact(Na hc).owned (Zaj f)
   .exact O8 h
noncomputable def K (A:Ab):Ctx:=⟨lim T2 (X2 A) gl0,gl0⟩
noncomputable def Kc:Ctx:=⟨lim Tc (fun _ _ _=>none) gl0,gl0⟩
@[simp] theorem K_gl {A:Ab}:(K A).gl=gl0:=rfl
@[simp] theorem Kc_gl:Kc.gl=gl0:=rfl
theorem K_ok {A:Ab}(hA:∀f args objs rv objs',skip f=true->A f args objs=some (rv,objs')->FnOk Go.Proofs.Tryz.prog gl0 f args objs rv objs')
 {f:FuncId}{args:List V}{objs:List Obj}{rv:V}{objs':List Obj}(h:(K A).call f args objs=some (rv,objs')):FnOk Go.Proofs.Tryz.prog gl0 f args objs rv objs':=by
 obtain⟨n,h⟩:=Mw h;exact Ro follows Sz (X7 hA) n h
variable {A:Ab}
theorem Af {f:FuncId}{vf:VFun}{args:List V}{objs:List Obj}{r:V×List Obj}(hT:T2 f=some vf)(hn:args.length=vf.nparams)(ho:objs.length<=64)
 (h:wp (K A) vf.body (D5 vf.keep objs.length vf.results r) ⟨A2 0 args,A2 0 (objs.map some)⟩):(K A).call f args objs=some r:=Nu hT hn ho h
theorem fnO {f:FuncId}{args:List V}{objs:List Obj}{r:V×List Obj}(vf:VFun)(h:wp (K A) vf.body (D5 vf.keep objs.length vf.results r) ⟨A2 0 args,A2 0 (objs.map some)⟩)(hT:T2 f=some vf:=by kernel_rfl)(hn:args.length=vf.nparams:=by rfl)(ho:objs.length<=64:=by simp):(K A).call f args objs=some r:=Af hT hn ho h
theorem zd{p:Prop}(h:p:=by first|omega|(simp;done)|(simp;omega)):p:=h
theorem Me {f:FuncId}{vf:VFun}{args:List V}{objs:List Obj}{r:V×List Obj}(hT:Tc f=some vf)(hn:args.length=vf.nparams)(ho:objs.length<=64)
 (h:wp Kc vf.body (D5 vf.keep objs.length vf.results r) ⟨A2 0 args,A2 0 (objs.map some)⟩):Kc.call f args objs=some r:=Nu hT hn ho h
theorem NS {f:FuncId}(hs:skip f=false)(hT:T2 f=none){c:List Cell}{rows:List (List Cell)}:(K A).call f [.sc (.c (.sl (c::rows)))] []=Kc.call f [.sc (.c (.sl (c::rows)))] []:=by
 have h:X2 A f [.sc (.c (.sl (c::rows)))] []=Kc.call f [.sc (.c (.sl (c::rows)))] []:=by
  unfold X2;rw[hs];rfl
 rw[<-h];cases hx:X2 A f [.sc (.c (.sl (c::rows)))] []with
 |some r=>exact I5 hT hx
 |none=>
  cases hk:(K A).call f [.sc (.c (.sl (c::rows)))] []with
  |none=>rfl
  |some r=>
   obtain⟨n,hn⟩:=Mw hk;cases n with
   |zero=>cases hn
   |succ n=>
    simp only[BA,hT]at hn;rw[hx]at hn;cases hn
theorem Zm:(K A).call 149 [.sc (.c (.sl []))] []=some (.sc (.full []),[]):=by
 refine I5 (by kernel_rfl) ?_;simp only[X2,X1,show skip 149=false from rfl,cond_false,show(149==149)=true from rfl,cond_true]
theorem RX {f:FuncId}(hs:skip f=false)(hT:T2 f=none)(h140:(f==149)=false)(hf:F3 f=true):(K A).call f [.sc (.c (.sl []))] []=some (.sc (.arr 0 0),[.arr (KE f) [] 0]):=by
 refine I5 hT ?_;simp only[X2,X1,hs,cond_false,h140,hf,cond_true]
theorem H6 (e:Exp)(h:e.kids.length+e.arms.length<=687194767360):(K A).call 46 [.ag (wc e.row)] []=some (.sc (.arr 0 e.children.length),[.arr 11 (wr (Exp.rows e.children)) 0]):=by
 refine Af (vf:=v46) (by kernel_rfl) rfl (by decide) ?_;unfold v46;simp(disch:=try exact zd);refine Aq (fun i=>⟨[(1,.sc (.ptr 64 0)),(3,.sc (.arr 320 (e.kids.length+i))),(4,.sc (.c (.int .i64 i)))],
  [(64,some (.box (wc e.row))),(320,some (.arr 11 (wr (Exp.rows (e.kids++(e.arms.map (·.2)).take i))) 0))]⟩) e.arms.length ?_ ?_ ?_
 .simp
 .intro i hi
  obtain⟨x,hx⟩:=Ag hi;have hx':(e.arms.map (·.2))[i]?=some x.2:=by simp[hx]
  unfold Og;simp(disch:=try exact zd) [hi,hx,Bn hx',qaP,-getElem?_pos]
 .unfold Og
  have ht:(e.arms.map (·.2)).take e.arms.length=e.arms.map (·.2):=qn (by simp);simp(disch:=try exact zd) [Exp.children,ht]
variable {A:Ab}
abbrev A1 (l:List Str):V:=.sc (.c (.sl (Ao l)))
abbrev strV (s:Str):V:=.sc (.c (.str s))
abbrev intV (n:Int):V:=.sc (.c (.int .i64 n))
abbrev Aa (b:Bool):V:=.sc (.c (.bool b))
abbrev expV (e:Exp):V:=.ag (wc e.row)
@[simp] theorem wc_strRow (s:Str):wc (Fw s)=[.c (.str s)]:=rfl
@[simp] theorem wc_intRow (n:Int):wc (H9 n)=[.c (.int .i64 n)]:=rfl
def Be (l:List Str)(s:Str):Nat:=l.findIdx (· == s)
theorem Qw {l:List Str}{s:Str}{i:Nat}(h:i<Be l s):∃x,l[i]?=some x/\¬x=s:=by
 have hlt:i<l.length:=qab h List.findIdx_le_length;refine⟨l[i],qm hlt,?_⟩;have:=List.not_of_lt_findIdx h;simpa using this
theorem HL {l:List Str}{s:Str}(h:Be l s<l.length):l[Be l s]?=some s:=by
 have h1:=List.findIdx_getElem (w:=h);rw[qm h];exact congrArg some (beq_iff_eq.1 h1)
theorem GU {l:List Str}{s:Str}:Be l s<l.length↔s∈l:=by
 unfold Be;rw[List.findIdx_lt_length];simp
theorem Xs (l:List Str)(s:Str):Be l s<=l.length:=List.findIdx_le_length
theorem Wb (l:List Str)(s:Str)(h:l.length<=1649267441664):(K A).call 239 [A1 l,strV s] []=some (intV (if s∈l then (Be l s:Int) else -1),[]):=by
 refine Af (vf:=v239) (by kernel_rfl) rfl (by decide) ?_;unfold v239;have hp:=Xs l s;simp(disch:=try exact zd);refine Aq (fun i=>⟨[(0,A1 l),(1,strV s),(7,intV l.length),(8,intV i)],[]⟩) (Be l s) ?_ ?_ ?_
 .simp
 .intro i hi
  obtain⟨x,hx,hne⟩:=Qw hi;have hlt:i<l.length:=by omega
  have hne':¬s=x:=fun h=>hne h.symm;unfold KS;simp(disch:=try exact zd) [hx,hne',hlt,-getElem?_pos]
 .unfold KS
  by_cases hm:Be l s<l.length
  .have hx:=HL hm
   simp(disch:=try exact zd) [hx,hm,GU.1 hm,-getElem?_pos]
  .have hn:s∉l:=fun h=>hm (GU.2 h)
   simp(disch:=try exact zd) [hm,hn]
theorem ES (l:List Str)(s:Str)(h:l.length<=1649267441664):(K A).call 221 [A1 l,strV s] []=some (Aa (decide (s∈l)),[]):=by
 refine Af (vf:=v221) (by kernel_rfl) rfl (by decide) ?_;unfold v221;have:=Wb (A:=A) l s h;simp[this];by_cases hn:s∈l<;>simp[hn]
def BZ:List Str->List Str->Nat
 |a::l,b::m=>if a=b then BZ l m+1 else 0
 |_,_=>0
theorem SO:∀{l m:List Str}{i:Nat},i<BZ l m->∃x,l[i]?=some x/\m[i]?=some x
 |[],_,_,h=>by simp[BZ]at h
 |_::_,[],_,h=>by simp[BZ]at h
 |a::l,b::m,i,h=>by
  simp only[BZ]at h;split at h
  .rename_i hab
   subst hab;cases i with
   |zero=>exact⟨a,rfl,rfl⟩
   |succ i=>simpa using SO (l:=l) (m:=m) (i:=i) (by omega)
  .omega
theorem SX:∀(l m:List Str),BZ l m<=l.length
 |[],_=>by simp[BZ]
 |_::_,[]=>by simp[BZ]
 |a::l,b::m=>by
  simp only[BZ];split
  .have:=SX l m
   simp only[qF];omega
  .simp
theorem Qe:∀{l m:List Str},l.length=m.length->BZ l m<l.length->∃x y,l[BZ l m]?=some x/\m[BZ l m]?=some y/\x≠y
 |[],_,_,h=>by simp at h
 |_::_,[],h,_=>by simp at h
 |a::l,b::m,h,h2=>by
  simp only[BZ]at h2 |-;split
  .rename_i hab
   rw[if_pos hab]at h2;simpa using Qe (l:=l) (m:=m) (by simpa using h) (by simpa using h2)
  .rename_i hab
   exact⟨a,b,rfl,rfl,hab⟩
theorem LK:∀{l m:List Str},l.length=m.length->(BZ l m=l.length↔l=m)
 |[],[],_=>by simp[BZ]
 |[],_::_,h=>by simp at h
 |_::_,[],h=>by simp at h
 |a::l,b::m,h=>by
  simp only[BZ];split
  .rename_i hab
   have:=LK (l:=l) (m:=m) (by simpa using h);simp[hab,this]
  .rename_i hab
   simp[hab]
variable {A:Ab}
theorem ZbR {l:List Exp}(h:l≠[]):∃c rows,Exp.rows l=c::rows:=by
 cases l with
 |nil=>exact absurd rfl h
 |cons e r=>exact⟨e.row,Exp.rows r,by rw[Exp.rows]⟩
theorem R8 (l:List Exp)(h:l≠[])(hl:l.length<=687194767360):(K A).call 149 [.sc (.c (.sl (Exp.rows l)))] []=some (.sc (.arr 0 l.length),[.arr 11 (wr (Exp.rows l)) 0]):=by
 obtain⟨c,rows,hr⟩:=ZbR h;have hlen:rows.length+1=l.length:=by
  have:=Exp.rows_len l;rw[hr]at this;simpa using this
 have hok:AP 11 (wr (c::rows))=true:=hr▸okRows_exp l;rw[hr,NS (by kernel_rfl) (by kernel_rfl)];refine Me (vf:=v149) (by kernel_rfl) rfl (by decide) ?_;unfold v149;rw[wr_cons]at hok;simp(disch:=try exact zd) [hok];omega
theorem DS (e:Exp)(h1:e.kids=[])(h2:e.arms=[]):(K A).call 99 [expV e] []=some (.sc (.full []),[]):=by
 refine Af (vf:=v99) (by kernel_rfl) rfl (by decide) ?_;have hc:=Zm (A:=A);have hn:Exp.rows []=[]:=by rw[Exp.rows]
 unfold v99;simp[h1,hn,hc];refine Aq (fun i=>⟨[(3,.sc (.full [])),(10,.sc (.c (.sl (Exp.armRows e.arms)))),(11,intV e.arms.length),(12,intV i)],[(64,some (.box (wc e.row)))]⟩) 0 ?_ ?_ ?_
 .simp
 .intro i hi;omega
 .unfold JT
  simp[h2]
theorem BQ (e:Exp)(h:e.kids≠[])(hl:e.weight<=687194767360):(K A).call 99 [expV e] []=some (.sc (.arr 0 e.children.length),[.arr 11 (wr (Exp.rows e.children)) 0]):=by
 refine Af (vf:=v99) (by kernel_rfl) rfl (by decide) ?_;have hk:=e.children_le;rw[e.children_len]at hk;have hc:=R8 (A:=A) e.kids h (by omega);unfold v99;simp[hc];refine Aq (fun i=>⟨[(3,.sc (.arr 352 (e.kids.length+i))),(10,.sc (.c (.sl (Exp.armRows e.arms)))),(11,intV e.arms.length),(12,intV i)],
  [(64,some (.box (wc e.row))),(352,some (.arr 11 (wr (Exp.rows (e.kids++(e.arms.map (·.2)).take i))) 0))]⟩) e.arms.length ?_ ?_ ?_
 .simp
 .intro i hi
  obtain⟨x,hx⟩:=Ag hi;have hx':(e.arms.map (·.2))[i]?=some x.2:=by simp[hx]
  unfold JT;simp(disch:=try exact zd) [hi,hx,Bn hx',qaP,-getElem?_pos]
 .unfold JT
  have ht:(e.arms.map (·.2)).take e.arms.length=e.arms.map (·.2):=qn (by simp);simp(disch:=try exact zd) [Exp.children,ht]
abbrev EY (i:Int):V:=.sc (.c (.sl [[.int .i64 i]]))
theorem at89 (e x:Exp)(i:Nat)(h:e.kids≠[])(hx:e.children[i]?=some x)(hl:e.weight<=687194767360):(K A).call 237 [expV e,EY i] []=some (.tu [expV x,Aa true],[]):=by
 refine Af (vf:=v237) (by kernel_rfl) rfl (by decide) ?_;have hk:=e.children_le;have hi:i<e.children.length:=(qf.1 hx).1;have hi':¬(e.kids.length:Int)+e.arms.length<=i:=by rw[e.children_len]at hi;omega
 have hi2:¬(i:Int)<0:=by omega
 have hc:=BQ (A:=A) e h hl;rw[e.children_len]at hk hi;unfold v237;simp;refine Aq (fun j=>match j with
  |0=>⟨[(2,.sc (.ptr 64 0)),(4,.sc (.ptr 128 0)),(9,EY i),(10,intV 1),(11,intV 0)],[(64,some (.box (wc e.row))),(128,some (.box [zi,zi,zs,zi,.nil,.nil,zi,zs,zi,zi,.nil]))]⟩
  |_=>⟨[(2,.sc (.ptr 64 0)),(4,.sc (.ptr 128 0)),(9,EY i),(10,intV 1),(11,intV 1)],[(64,some (.box (wc x.row))),(128,some (.box [zi,zi,zs,zi,.nil,.nil,zi,zs,zi,zi,.nil]))]⟩) 1 ?_ ?_ ?_
 .simp
 .intro j hj
  obtain rfl:j=0:=by omega
  unfold Lf;simp(disch:=try exact zd) [hc,hi',hi2,hx,-getElem?_pos,qU]
 .unfold Lf
  simp(disch:=try exact zd)
theorem ZaT (e:Exp)(i:Nat)(h:e.wf1)(hi:i<e.children.length)(hl:e.weight<=687194767360):(K A).call 255 [expV e,intV i] []=some (A1 (e.bound i),[]):=by
 refine Af (vf:=v255) (by kernel_rfl) rfl (by decide) ?_;have hk:=e.children_le;have hn:Ao []=[]:=rfl;have h1:∀s:Str,Ao [s]=[[.str s]]:=fun _=>rfl;rw[e.children_len]at hk hi;unfold v255;by_cases h4:e.kind=4
 .simp[h4,Exp.bound,h1]
 .by_cases h7:e.kind=7
  .simp[h7,Exp.bound,h1]
  .by_cases h6:e.kind=6
   .by_cases hi1:i=1
    .simp[h6,hi1,Exp.bound,h1]
    .have hi1':¬(i:Int)=1:=by omega
     simp[h6,hi1,hi1',Exp.bound,hn]
   .by_cases h8:e.kind=8
    .have hk1:=h.1 h8
     by_cases hi1:0<i
     .obtain ⟨x,hx⟩:=Ag (l:=e.arms) (i:=i-1) (by omega)
      have hi2:(1:Int)<=i:=(by omega);have hw:IntKind.i64.wrap ((i:Int)-1)=((i-1:Nat):Int):=(by rw[FY _ (by omega)];omega);simp(disch:=try exact zd) [h8,hi1,hi2,hk1,hw,hx,Exp.bound,-getElem?_pos]
     .have hi2:¬(1:Int)<=i:=by omega
      simp[h8,hi1,hi2,hk1,Exp.bound,hn]
    .simp[h4,h7,h6,h8,Exp.bound,hn]
theorem ZbF (s:Str):(K A).call 147 [.sc (.c (.sl [])),.sc (.clo 257 [true] [[.ptr 0 0]])] [.box [.c (.str s)]]=some (intV (-1),[.box [.c (.str s)]]):=by
 refine fnO v147 ?_;unfold v147;simp;refine Aq (fun i=>⟨[(0,.sc (.c (.sl []))),(1,.sc (.clo 257 [true] [[.ptr 0 0]])),(7,intV 0),(8,intV i)],[(0,some (.box [.c (.str s)]))]⟩) 0 ?_ ?_ ?_
 .simp
 .intro i hi;omega
 .unfold Jg
  simp
theorem VC (s:Str):(K A).call 256 [.sc (.arr 0 0),.sc (.clo 257 [true] [[.ptr 1 0]])] [.arr 1 [] 0,.box [.c (.str s)]]=some (.sc (.arr 0 0),[.arr 1 [] 0,.box [.c (.str s)]]):=by
 refine fnO v256 ?_;have h:=ZbF (A:=A) s;unfold v256;simp[h]
variable {A:Ab}
theorem Zcs {e:Exp}{i:Nat}(h:¬(e.kind=8/\0<i)):e.bound i=[]\/∃s,e.bound i=[s]:=by
 unfold Exp.bound;rw[if_neg h];split
 .exact .inr ⟨_,rfl⟩
 .exact .inl rfl
theorem Pg {e:Exp}{i:Nat}(h:e.wf1)(hi:i<e.children.length):e.kids≠[]:=by
 intro hk;rw[e.children_len,hk]at hi;by_cases h8:e.kind=8
 .have:=h.1 h8
  rw[hk]at this;simp at this
 .rw [h.2.1 h8] at hi
  simp at hi
theorem Zch (e x:Exp)(i:Nat)(h:e.wf1)(hb:¬(e.kind=8/\0<i))(hx:e.children[i]?=some x)(hl:e.weight<=687194767360):(K A).call 238 [expV e,EY i] []=some (A1 (e.bound i),[]):=by
 refine Af (vf:=v238) (by kernel_rfl) rfl (by decide) ?_;have hi:i<e.children.length:=(qf.1 hx).1;have hk:=Pg h hi;have h51:=BQ (A:=A) e hk hl;have h89:=at89 (A:=A) e x i hk hx hl;have h135:=ZaT (A:=A) e i h hi hl;have hn:Ao []=[]:=rfl;rw[e.children_len]at hi;have hle:=e.children_le;rw[e.children_len]at hle;unfold v238;simp(disch:=try exact zd) [h89];refine Aq (fun j=>match j with
  |0=>⟨[(2,.sc (.ptr 64 0)),(7,.sc (.arr 961 0)),(20,EY i),(21,intV 1),(22,intV 0)],[(64,some (.box (wc e.row))),(961,some (.arr 1 [] 0))]⟩
  |_=>⟨[(2,.sc (.ptr 64 0)),(7,.sc (.arr 961 (e.bound i).length)),(20,EY i),(21,intV 1),(22,intV 1)],[(64,some (.box (wc x.row))),(961,some (.arr 1 (wr (Ao (e.bound i))) 0))]⟩) 1 ?_ ?_ ?_
 .simp
 .intro j hj
  obtain rfl:j=0:=by omega
  unfold NV;simp(disch:=try exact zd) [h135,-getElem?_pos,qU];rcases Zcs hb with h0|⟨s,h0⟩
  .rw [h0]
   refine Aq (fun j=>⟨[(2,.sc (.ptr 64 0)),(7,.sc (.arr 961 0)),(20,EY i),(21,intV 1),(22,intV 0),(9,intV i),(28,A1 []),(29,intV 0),(30,intV j)],[(64,some (.box (wc e.row))),(961,some (.arr 1 [] 0))]⟩) 0 ?_ ?_ ?_
   .simp
   .intro j hj;omega
   .unfold H2
    simp(disch:=try exact zd) [h51,hx,hn,-getElem?_pos]
  .rw [h0]
   have h1:Ao [s]=[[.str s]]:=rfl;have h136:=VC (A:=A) s;refine Aq (fun j=>match j with
    |0=>⟨[(2,.sc (.ptr 64 0)),(7,.sc (.arr 961 0)),(20,EY i),(21,intV 1),(22,intV 0),(9,intV i),(28,A1 [s]),(29,intV 1),(30,intV 0)],[(64,some (.box (wc e.row))),(961,some (.arr 1 [] 0))]⟩
    |_=>⟨[(2,.sc (.ptr 64 0)),(7,.sc (.arr 961 1)),(20,EY i),(21,intV 1),(22,intV 0),(9,intV i),(28,A1 [s]),(29,intV 1),(30,intV 1)],[(64,some (.box (wc e.row))),(961,some (.arr 1 (wr (Ao [s])) 0))]⟩) 1 ?_ ?_ ?_
   .simp
   .intro j hj
    obtain rfl:j=0:=(by omega);unfold H2;simp(disch:=try exact zd) [h136,h1,-getElem?_pos,qU]
   .unfold H2
    simp(disch:=try exact zd) [h51,hx,-getElem?_pos]
 .unfold NV
  simp(disch:=try exact zd)
theorem HI (e:Exp)(i:Nat)(h:e.wf1)(hi:i<e.children.length)(hl:e.weight<=687194767360):(K A).call 220 [expV e,intV i] []=some (A1 (e.bound i),[]):=by
 refine Af (vf:=v220) (by kernel_rfl) rfl (by decide) ?_;obtain⟨x,hx⟩:=Ag hi;have hk:=Pg h hi;have h89:=at89 (A:=A) e x i hk hx hl;rw[e.children_len]at hi;have hle:=e.children_le;rw[e.children_len]at hle;unfold v220;by_cases hb:e.kind=8/\0<i
 .have hk1:=h.1 hb.1
  obtain⟨y,hy⟩:=Ag (l:=e.arms) (i:=i-1) (by omega);have hi2:(1:Int)<=i:=by omega
  have hw:IntKind.i64.wrap ((i:Int)-1)=((i-1:Nat):Int):=by rw[FY _ (by omega)];omega
  simp(disch:=try exact zd) [h89,hb,hi2,hk1,hw,hy,Exp.bound,-getElem?_pos]
 .have h90:=Zch (A:=A) e x i h hb hx hl
  by_cases h8:e.kind=8
  .have hk1:=h.1 h8
   have hi2:¬(1:Int)<=i:=(by omega);simp(disch:=try exact zd) [h89,h8,hi2,hk1,h90]
  .simp(disch:=try exact zd) [h89,h8,h90]
variable {A:Ab}
def CH (hidden out:List Str)(s:Str):List Str:=if s∈hidden\/s∈out then out else out++[s]
def Gn (e:Exp)(out:List Str)(p:List Str×Nat):List Str:=p.1.foldl (CH (e.bound p.2)) out
def Ac (e:Exp):List Str:=e.fold fun e l=>if e.kind=1 then [e.name] else l.zipIdx.foldl (Gn e) []
theorem FM (e:Exp):Ac e=if e.kind=1 then [e.name] else (e.children.map Ac).zipIdx.foldl (Gn e) []:=Exp.fold_eq _ e
theorem ZbZ (h out:List Str)(s:Str):(CH h out s).length<=out.length+1:=by
 unfold CH;split<;>simp
theorem Nq (h:List Str):∀(l out:List Str),(l.foldl (CH h) out).length<=out.length+l.length
 |[],out=>by simp
 |s::l,out=>by
  have h1:=ZbZ h out s;have h2:=Nq h l (CH h out s);simp only[qaU,qF];omega
theorem LP (e:Exp):∀(l:List (List Str×Nat))(out:List Str),(l.foldl (Gn e) out).length<=out.length+(l.map fun p=>p.1.length).sum
 |[],out=>by simp
 |p::l,out=>by
  have h1:(Gn e out p).length<=out.length+p.1.length:=Nq _ _ _;have h2:=LP e l (Gn e out p);simp only[qaU,qv,qad];omega
theorem HM {l:List Nat}{i:Nat}:(l.take i).sum<=l.sum:=by
 have:l.sum=(l.take i).sum+(l.drop i).sum:=by rw[<-qbl,qaS]
 omega
theorem QU (l:List (List Str)):(l.zipIdx.map fun p=>p.1.length)=l.map List.length:=by
 rw[show(fun p:List Str×Nat=>p.1.length)=List.length∘Prod.fst from rfl,<-qan,List.zipIdx_map_fst]
theorem HF {α:Type}{f g:α->Nat}:∀{l:List α},(∀x∈l,f x<=g x)->(l.map f).sum<=(l.map g).sum
 |[],_=>by simp
 |a::l,h=>by
  have h1:=h a (by simp);have h2:=HF (l:=l) fun x hx=>h x (by simp[hx]);simp only[qv,qad];omega
theorem G7 (e:Exp):(Ac e).length<=e.weight:=by
 induction e using Exp.ind with
 |h e ih=>
  rw[FM];split
  .exact e.weight_pos
  .have h1:=LP e (e.children.map Ac).zipIdx []
   rw[QU,qan]at h1;have h2:(e.children.map (List.length∘Ac)).sum<=(e.children.map Exp.weight).sum:=HF ih;rw[e.weight_eq];simp only[qR]at h1;omega
def outP (e:Exp)(i:Nat):List Str:=((e.children.map Ac).zipIdx.take i).foldl (Gn e) []
theorem XA (e:Exp)(i:Nat):(outP e i).length<=e.weight:=by
 have h1:=LP e ((e.children.map Ac).zipIdx.take i) [];have h2:(((e.children.map Ac).zipIdx.take i).map fun p=>p.1.length).sum<=(e.children.map Exp.weight).sum:=by
  rw[qaO,QU,qan];exact qr HM (HF fun x _=>G7 x)
 unfold outP;rw[e.weight_eq];simp only[qR]at h1;omega
theorem Mu {e x:Exp}{i:Nat}(hx:e.children[i]?=some x):outP e (i+1)=(Ac x).foldl (CH (e.bound i)) (outP e i):=by
 have h:(e.children.map Ac).zipIdx[i]?=some (Ac x,i):=by simp[qaz,hx]
 unfold outP;rw[Bn h,qav];rfl
theorem MN (e:Exp):outP e e.children.length=(e.children.map Ac).zipIdx.foldl (Gn e) []:=by
 unfold outP;rw[qn (by simp)]
theorem SN (e:Exp)(hw:e.wf)(hl:e.weight<=687194767360):(K A).call 201 [expV e] []=some (A1 (Ac e),[]):=by
 induction e using Exp.ind with
 |h e ih=>
 refine Af (vf:=v201) (by kernel_rfl) rfl (by decide) ?_;have hle:=e.children_le;rw[e.children_len]at hle;have h1:∀s:Str,Ao [s]=[[.str s]]:=fun _=>rfl;have hn:Ao []=[]:=rfl;by_cases hk:e.kind=1
 .unfold v201
  simp[hk,FM,h1]
 .by_cases hkids:e.kids=[]
  .have harms:e.arms=[]:=by
    by_cases h8:e.kind=8
    .have:=hw.one.1 h8
     rw[hkids]at this;simp at this
    .exact hw.one.2.1 h8
   have hc:=DS (A:=A) e hkids harms;have hch:e.children=[]:=(by simp[Exp.children,hkids,harms]);unfold v201;simp(disch:=try exact zd) [hk,hc];refine Aq (fun i=>⟨[(1,.sc (.ptr 64 0)),(3,.sc (.arr 641 0)),(16,.sc (.full [])),(17,intV 0),(18,intV i)],[(64,some (.box (wc e.row))),(641,some (.arr 1 [] 0))]⟩) 0 ?_ ?_ ?_
   .simp
   .intro i hi;omega
   .unfold JN
    simp[FM,hk,hch,hn]
  .have hc:=BQ (A:=A) e hkids hl
   unfold v201;simp(disch:=try exact zd) [hk,hc];refine Aq (fun i=>⟨[(1,.sc (.ptr 64 0)),(3,.sc (.arr 641 (outP e i).length)),(16,.sc (.arr 800 e.children.length)),(17,intV e.children.length),(18,intV i)],[(64,some (.box (wc e.row))),(641,some (.arr 1 (wr (Ao (outP e i))) 0)),(800,some (.arr 11 (wr (Exp.rows e.children)) 0))]⟩) e.children.length ?_ ?_ ?_
   .simp[outP,hn]
   .intro i hi
    obtain⟨x,hx⟩:=Ag hi;have hmem:x∈e.children:=qd hx;have h19:=ih x hmem (hw.child hmem) (by have:=Exp.child_lt hmem;omega);have h52:=HI (A:=A) e i hw.one hi hl;have hfl:=G7 x;have hol:=XA e i;have hbl:=e.bound_le i;have hxl:=Exp.child_lt hmem;rw[e.children_len]at hi;have hi':(i:Int)<(e.kids.length:Int)+e.arms.length:=(by omega);unfold JN;simp(disch:=try exact zd) [hi',hx,h52,h19,-getElem?_pos]
    refine Aq (fun j=>⟨[(1,.sc (.ptr 64 0)),(3,.sc (.arr 641 (((Ac x).take j).foldl (CH (e.bound i)) (outP e i)).length)),(16,.sc (.arr 800 e.children.length)),(17,intV e.children.length),(18,intV i),(6,A1 (e.bound i)),(27,A1 (Ac x)),(28,intV (Ac x).length),(29,intV j)],
     [(64,some (.box (wc e.row))),(641,some (.arr 1 (wr (Ao (((Ac x).take j).foldl (CH (e.bound i)) (outP e i)))) 0)),(800,some (.arr 11 (wr (Exp.rows e.children)) 0)),(1216,some (.box (wc x.row)))]⟩) (Ac x).length ?_ ?_ ?_
    .simp
    .intro j hj
     obtain⟨s,hs⟩:=Ag hj;rw[Bn hs,qav,qaU,List.foldl_nil];have hjl:=Nq (e.bound i) ((Ac x).take j) (outP e i);have hjl2:((Ac x).take j).length<=(Ac x).length:=(by simp;omega);generalize ((Ac x).take j).foldl (CH (e.bound i)) (outP e i)=out at hjl |-;have hc1:=ES (A:=A) (e.bound i) s (by omega);have hc2:=ES (A:=A) out s (by omega);unfold Ks;by_cases hb:s∈e.bound i
     .simp(disch:=try exact zd) [hj,hs,hc1,hb,CH,-getElem?_pos]
     .by_cases ho:s∈out
      .simp(disch:=try exact zd) [hj,hs,hc1,hc2,hb,ho,CH,-getElem?_pos]
      .simp(disch:=try exact zd) [hj,hs,hc1,hc2,hb,ho,CH,-getElem?_pos]
    .unfold Ks
     simp(disch:=try exact zd) [Mu hx,-getElem?_pos]
   .unfold JN
    have he:=MN e;rw[e.children_len]at he;simp(disch:=try exact zd) [FM,hk,he]
variable {A:Ab}
def Ta (e:Exp)(bound out:List Str):List Str:=if e.kind=1/\e.name∉bound/\e.name∉out then out++[e.name] else out
def Ok (e:Exp)(bound:List Str)(out:List Str)(p:(List Str->List Str->List Str)×Nat):List Str:=p.1 (bound++e.bound p.2) out
def Uz (e:Exp):List Str->List Str->List Str:=e.fold fun e l bound out=>l.zipIdx.foldl (Ok e bound) (Ta e bound out)
def outR (e:Exp)(bound out:List Str)(i:Nat):List Str:=((e.children.map Uz).zipIdx.take i).foldl (Ok e bound) (Ta e bound out)
theorem XZ {b out:List Str}{s t:Str}:t∈CH b out s↔t∈out\/(t=s/\s∉b):=by
 grind[CH]
theorem Nl {b:List Str}:∀{l out:List Str}{t:Str},t∈l.foldl (CH b) out↔t∈out\/(t∈l/\t∉b)
 |[],out,t=>by simp
 |s::l,out,t=>by
  rw[qaU,Nl,XZ,qD];grind
variable {A:Ab}
theorem En {f:FuncId}{vf:VFun}{args:List V}{objs:List Obj}(P:V×List Obj->Prop)(hT:T2 f=some vf)(hn:args.length=vf.nparams)(ho:objs.length<=64)
 (h:wp (K A) vf.body (D2 vf.keep objs.length vf.results P) ⟨A2 0 args,A2 0 (objs.map some)⟩):∃r,P r/\(K A).call f args objs=some r:=ZcE P hT hn ho h
theorem fnE {f:FuncId}{args:List V}{objs:List Obj}{P:V×List Obj->Prop}(vf:VFun)(h:wp (K A) vf.body (D2 vf.keep objs.length vf.results P) ⟨A2 0 args,A2 0 (objs.map some)⟩)(hT:T2 f=some vf:=by kernel_rfl)(hn:args.length=vf.nparams:=by rfl)(ho:objs.length<=64:=by simp):∃r,P r/\(K A).call f args objs=some r:=En P hT hn ho h
def Bm (l:List Int):List (List Cell):=l.map H9
@[simp] theorem intRows_len (l:List Int):(Bm l).length=l.length:=by simp[Bm]
@[simp] theorem intRows_get (l:List Int) (i:Nat):(Bm l)[i]?=(l[i]?).map H9:=by simp[Bm]
@[simp] theorem cut_i (n:Int):cut (H9 n) 0 1=some [.int .i64 n]:=rfl
abbrev AC (L:List Int)(I:Nat):Obj:=.box [.c (.sl (Bm L)),.c (.int .i64 I)]
abbrev Bt (ds:List DataD):V:=.sc (.c (.sl (A7 ds)))
abbrev tyV (t:Ty):V:=.ag (wc t.row)
def C3:List Str:=[[120],[121],[122],[102],[103],[118,49],[118,50],[105,100]]
def LQ (d:DataD):Prop:=d.params.length<=4/\1<=d.cons.length/\d.cons.length<=6/\∀c∈d.cons,c.fields.length<=4
def G4 (ds:List DataD):Prop:=ds.length<=100/\∀d∈ds,LQ d
def ZdX (L:List Int)(r:V×List Obj):Prop:=∃t J,J<=L.length/\r=(tyV t,[AC L J])
def ZdY (L:List Int)(ds:List DataD)(dd:DataD)(d i:Nat)(s:St):Prop:=∃tys J,tys.length=i/\J<=L.length/\
 s=⟨[(0,.sc (.ptr 0 0)),(1,Bt ds),(2,.sc (.c (.sl []))),(3,intV (d+1)),(8,.sc (.ptr 64 0)),(10,.sc (.ptr 3392 0)),(11,.sc (.arr 3521 i)),(12,intV i)],
  [(0,some (AC L J)),(64,some (.box [zi,zs,zi,zi,.nil])),(3392,some (.box (wc (Ba dd)))),(3521,some (.arr 5 (wr (Ty.rows tys)) 0))]⟩
end Go.Vs.Tryz
namespace Go.Vs
open Go
section
variable {C:Ctx}{E:Nat->Option V}{L:Nat->Option Obj}{oid:Nat}
@[simp] theorem b_quo {k:IntKind} {a b:Int} (h:b≠0):binV .quo 0 (.sc (.c (.int k a))) (.sc (.c (.int k b)))=some (.sc (.c (.int k (k.wrap (a.tdiv b)))),[]):=by simp[binV,binW,Bq,B7,h,Cr]
@[simp] theorem x_slS {x:Opd} {lo hi:Option Opd}:Ae C E L oid (.slS x lo hi)=(match x.val C E with
 |.sc (.c (.str s))=>match AK (hi.map (·.val C E)) s.length s.length with
  |none=>none
  |some h=>(AK (lo.map (·.val C E)) 0 h).map fun l=>(.sc (.c (.str ((s.take h).drop l))),[])
 |_=>none):=rfl
end
end Go.Vs
namespace Go.Vs.Tryz
open Go Go.Vs
variable {A:Ab}
def ZdZ:Str:=[48,49,50,51,52,53,54,55,56,57]
theorem Zo (n:Nat)(h0:n≠0)(h:n<10000000000000):(K A).call 73 [intV n] []=some (strV (numS n),[]):=by
 refine fnO v73 ?_;have h0':¬(n:Int)=0:=by omega
 have hneg:¬(n:Int)<0:=by omega
 have hlen:=Gt n 13 (by omega) (by omega);unfold v73;simp(disch:=try exact zd) [h0,h0'];refine AW (fun i s=>∃(k:Nat) (t:Str),k<=n/\t.length=i/\(if k=0 then numS n=t else numS n=numS k++t)/\s=⟨[(0,intV n),(3,strV t),(4,intV k)],[]⟩) (numS n).length ⟨n,[],qg _,rfl,by simp[h0],by first | rfl | simp⟩ ?_ ?_
 .rintro i s hi ⟨k,t,hk,ht,he,rfl⟩
  have hk0:k≠0:=by
   rintro rfl;rw[if_pos rfl]at he;rw[he]at hi;omega
  rw[if_neg hk0]at he;have hk0':¬(k:Int)=0:=by omega
  obtain⟨d,hd,hd10⟩:∃d,d=k % 10/\d<10:=⟨k % 10,rfl,Nat.mod_lt _ (by omega)⟩;have hmod:(k:Int).tmod 10=(d:Int):=by rw[Int.tmod_eq_emod_of_nonneg (by omega)];omega
  have hdiv:(k:Int).tdiv 10=((k / 10:Nat):Int):=by rw[qaR (by omega)];omega
  have hb1:AK (some (intV ((d:Int)+1))) 10 10=some (d+1):=natBelow_cast (k:=.i64) (n:=d+1) (by omega);have hb2:AK (some (intV (d:Int))) 0 (d+1)=some d:=natBelow_cast (k:=.i64) (n:=d) (by omega);have hdr:∀d:Nat,d<10->List.drop d (48::List.take d [49,50,51,52,53,54,55,56,57])=[UInt8.ofNat (48+d)]:=by decide
  have hdd:=hdr d hd10;have hnd:¬(d:Int)<0:=by omega
  have hnext:if k / 10=0 then numS n=UInt8.ofNat (48+d)::t else numS n=numS (k / 10)++UInt8.ofNat (48+d)::t:=by
   by_cases h10:k<10
   .rw [if_pos (by omega),he,Cn h10,hd,qal h10]
    rfl
   .rw [if_neg (by omega),he,Dp h10,hd]
    simp
  have htl:t.length<=13:=by omega
  unfold No;simp(disch:=try exact zd) [hk0,hk0',hnd,hmod,hdiv,hb1,hb2,hdd];exact⟨k / 10,by omega,UInt8.ofNat (48+d)::t,by simp[ht],hnext,by simp⟩
 .rintro s ⟨k,t,hk,ht,he,rfl⟩
  have hk0:k=0:=by
   by_cases hk0:k=0
   .exact hk0
   .rw [if_neg hk0] at he
    have:=IP k;rw[he]at ht;simp at ht;rw[ht]at this;simp at this
  subst hk0;rw[if_pos rfl]at he;unfold No;simp(disch:=try exact zd) [hneg,he]
variable {A:Ab}
def tz:Ty:=.mk 0 [] 0 0 []
@[simp] theorem strRows0:Ao []=[]:=rfl
@[simp] theorem rows0:Exp.rows []=[]:=by rfl
@[simp] theorem rows1 (x:Exp):Exp.rows [x]=[x.row]:=by rfl
@[simp] theorem rows2 (x y:Exp):Exp.rows [x,y]=[x.row,y.row]:=by rfl
@[simp] theorem armRows0:Exp.armRows []=[]:=by rfl
@[simp] theorem tyRows0:Ty.rows []=[]:=by rfl
def RawP (L:List Int)(B:Nat)(r:V×List Obj):Prop:=∃e J,e.wf/\e.weight<=B/\J<=L.length/\r=(expV e,[AC L J])
theorem Dr (k p n m ks l t):(Exp.mk k p n m ks l t).weight=1+(l.map fun a=>a.1.vars.length).sum+((ks.map Exp.weight).sum+(l.map fun a=>a.2.weight).sum):=by
 grind[Exp.weight_eq,Exp.children,Exp.arms,Exp.kids,Function.comp_def]
def ArmI (L:List Int)(ds:List DataD)(dd:DataD)(x:Exp)(B d i:Nat)(s:St):Prop:=∃arms J,arms.length=i/\J<=L.length/\(∀a∈arms,a.2.wf/\a.2.weight<=B/\a.1.vars.length<=4)/\
 s=⟨[(0,.sc (.ptr 0 0)),(1,Bt ds),(2,intV (d+1)),(6,.sc (.ptr 64 0)),(13,.sc (.ptr 10176 0)),(14,.sc (.ptr 10752 0)),(15,intV i)],
  [(0,some (AC L J)),(64,some (.box [zi,zi,zs,zi,.nil,.nil,zi,zs,zi,zi,.nil])),(10176,some (.box (wc (Ba dd)))),(10624,some (.arr 11 [wc x.row] 0)),
    (10752,some (.box [.c (.int .i64 8),zi,zs,zi,.arr 10624 1,.arr 10822 i,zi,zs,zi,zi,.nil])),(10822,some (.arr 14 (wr (Exp.armRows arms)) 0))]⟩
def VarI (L:List Int)(ds:List DataD)(dd:DataD)(x:Exp)(arms:List (ArmH×Exp))(con:Str)(d i j:Nat)(s:St):Prop:=∃vars J,vars.length=j/\J<=L.length/\
 s=⟨[(0,.sc (.ptr 0 0)),(1,Bt ds),(2,intV (d+1)),(6,.sc (.ptr 64 0)),(13,.sc (.ptr 10176 0)),(14,.sc (.ptr 10752 0)),(15,intV i),(16,.sc (.ptr 11712 0)),(17,intV j)],
  [(0,some (AC L J)),(64,some (.box [zi,zi,zs,zi,.nil,.nil,zi,zs,zi,zi,.nil])),(10176,some (.box (wc (Ba dd)))),(10624,some (.arr 11 [wc x.row] 0)),
    (10752,some (.box [.c (.int .i64 8),zi,zs,zi,.arr 10624 1,.arr 10822 i,zi,zs,zi,zi,.nil])),(10822,some (.arr 14 (wr (Exp.armRows arms)) 0)),
    (11712,some (.box [zi,.c (.str con),.arr 11779 j,zi,zi,zs,zi,.nil,.nil,zi,zs,zi,zi,.nil])),(11779,some (.arr 1 (wr (Ao vars)) 0))]⟩
variable {A:Ab}
def ZdH (ds7:List DataD)(r:V×List Obj):Prop:=∃ds,(∀d∈ds,d∈ds7)/\G4 ds/\r=(Bt ds,[])
def ZdL (bits:Int)(ds7:List DataD)(i:Nat)(s:St):Prop:=∃ds:List DataD,ds.length<=i+1/\(∀d∈ds,d∈ds7/\LQ d)/\
 s=⟨[(0,intV bits),(3,Bt ds7),(4,.sc (.arr 257 ds.length)),(5,intV i)],[(257,some (.arr 4 (wr (A7 ds)) 0))]⟩
@[simp] theorem dataRows0:A7 []=[]:=rfl
@[simp] theorem dataRows1 (d:DataD):wr (A7 [d])=[wc (Ba d)]:=rfl
def Zej (L:List Int)(r:V×List Obj):Prop:=∃a b J,a.wf/\a.weight<=32 ^ 4/\b.wf/\b.weight<=32 ^ 3/\J<=L.length/\r=(.tu [expV a,expV b,.sc (.ptr 0 0)],[AC L J])
def Zea (r:V×List Obj):Prop:=∃b,r=(Aa b,[])
end Go.Vs.Tryz
namespace Go.Vs
open Go
structure EntD where
 name:Str
 count:Int
 ty:Ty
def Br (e:EntD):List Cell:=.str e.name::.int .i64 e.count::e.ty.row
def CI (l:List EntD):List (List Cell):=l.map Br
@[simp] theorem entRow_len (e:EntD):(Br e).length=7:=by simp[Br]
@[simp] theorem entRows_len (l:List EntD):(CI l).length=l.length:=by simp[CI]
@[simp] theorem entRows_get (l:List EntD) (i:Nat):(CI l)[i]?=(l[i]?).map Br:=by simp[CI]
@[simp] theorem okRows_ent (l:List EntD):AP 7 (wr (CI l))=true:=Cu l entRow_len
@[simp] theorem entRows_snoc (l:List EntD) (x:EntD):wr (CI l)++[wc (Br x)]=wr (CI (l++[x])):=by simp[CI,wr]
@[simp] theorem entRows0:CI []=[]:=rfl
def BG (c:Int)(t:Ty):List Cell:=.int .i64 c::t.row
@[simp] theorem schRow_len (c:Int) (t:Ty):(BG c t).length=6:=by simp[BG]
section
variable (e:EntD)(c:Int)(t:Ty)
@[simp] theorem cut_n0:cut (Br e) 0 1=some [.str e.name]:=by simp[Br]
@[simp] theorem cut_n1:cut (Br e) 1 6=some (BG e.count e.ty):=by rw[Br,BG,Ty.row_eq];rfl
@[simp] theorem cut_n:cut (Br e) 0 7=some (Br e):=by rw[Br,Ty.row_eq];rfl
@[simp] theorem cutw_n0:cut (wc (Br e)) 0 1=some [.c (.str e.name)]:=by rw[Br,Ty.row_eq];rfl
@[simp] theorem cutw_n1:cut (wc (Br e)) 1 6=some (wc (BG e.count e.ty)):=by rw[Br,BG,Ty.row_eq];rfl
@[simp] theorem cutw_n:cut (wc (Br e)) 0 7=some (wc (Br e)):=by rw[Br,Ty.row_eq];rfl
@[simp] theorem cutw_sch:cut (wc (BG c t)) 0 6=some (wc (BG c t)):=by rw[BG,Ty.row_eq];rfl
@[simp] theorem flat_sch:(wc (BG c t)).all Bh=false:=by rw[BG,Ty.row_eq];simp[wc,Bh]
@[simp] theorem flat_ent:(wc (Br e)).all Bh=false:=by rw[Br,Ty.row_eq];simp[wc,Bh]
end
section
variable {C:Ctx}{E:Nat->Option V}{L:Nat->Option Obj}{oid:Nat}
@[simp] theorem x_sl {s:Nat} {x:Opd} {lo hi mx:Option Opd}:Ae C E L oid (.sl s x lo hi mx)=Bj L s (x.val C E) (lo.map (·.val C E)) (hi.map (·.val C E)) (mx.map (·.val C E)):=rfl
theorem JD {α:Type}{f:α->List Cell}{k:Nat}(h:∀a,(f a).length=k)(l:List α):BT k (l.map f)=true:=by
 cases l with
 |nil=>rfl
 |cons a r=>simp[BT,h a]
@[simp] theorem fit_ent (l:List EntD):BT 7 (CI l)=true:=JD entRow_len l
@[simp] theorem fit_data (l:List DataD):BT 4 (A7 l)=true:=JD dataRow_len l
@[simp] theorem slice_from {s n:Nat} {k:IntKind} {rows:List (List Cell)} (h:n<=rows.length):Bj L s (.sc (.c (.sl rows))) (some (.sc (.c (.int k (n:Int))))) none none=bif BT s rows then some (.sc (.c (.sl (rows.drop n))),[]) else none:=by
 simp[Bj,AK,Hg,BY,qbd h]
@[simp] theorem slice_from1 {s n:Nat} {k:IntKind} {rows:List (List Cell)} (h:n+1<=rows.length):Bj L s (.sc (.c (.sl rows))) (some (.sc (.c (.int k ((n:Int)+1))))) none none=bif BT s rows then some (.sc (.c (.sl (rows.drop (n+1)))),[]) else none:=slice_from (n:=n+1) h
@[simp] theorem slice_to {s n:Nat} {k:IntKind} {rows:List (List Cell)} (h:n<=rows.length):Bj L s (.sc (.c (.sl rows))) none (some (.sc (.c (.int k (n:Int))))) none=bif BT s rows then some (.sc (.c (.sl (rows.take n))),[]) else none:=by
 simp[Bj,AK,Hg,BY,qbd h]
@[simp] theorem entRows_drop (l:List EntD) (n:Nat):(CI l).drop n=CI (l.drop n):=by simp[CI]
@[simp] theorem dataRows_take (l:List DataD) (n:Nat):(A7 l).take n=A7 (l.take n):=by simp[A7]
@[simp] theorem call1_clo {call:Ab} {f:FuncId} {w:W} {args:List (Bool×V)}:BI call L oid (.sc (.clo f [true] [[w]])) args=EV call L oid f (AQ L (args++[(true,.sc w)])):=by
 rw[KO];rfl
end
end Go.Vs
namespace Go.Vs.Tryz
open Go Go.Vs
variable {A:Ab}
abbrev Fd (l:List EntD):V:=.sc (.c (.sl (CI l)))
def Ck (l:List EntD):List Str:=l.map (·.name)
@[simp] theorem names_len (l:List EntD):(Ck l).length=l.length:=by simp[Ck]
@[simp] theorem names_get (l:List EntD) (i:Nat):(Ck l)[i]?=(l[i]?).map (·.name):=by simp[Ck]
def IX (l:List EntD):Nat->List EntD
 |0=>[]
 |i+1=>match l[i]? with
  |none=>IX l i
  |some e=>if e.name∈Ck (l.drop (i+1)) then IX l i else IX l i++[e]
variable {A:Ab}
def rlast (l:List Str)(s:Str):Int:=if s∈l then (l.length:Int)-1-Be l.reverse s else -1
theorem Tx {l:List Str}{i:Nat}(h:i<l.length):l.reverse[i]?=l[l.length-1-i]?:=List.getElem?_reverse h
def Zdg (b:Bool)(r:V×List Obj):Prop:=∃c t,r=(.tu [.ag (wc (BG c t)),Aa b],[])
def BE (d:DataD):List Str:=d.cons.map (·.name)
@[simp] theorem cnames_len (d:DataD):(BE d).length=d.cons.length:=by simp[BE]
@[simp] theorem cnames_get (d:DataD) (i:Nat):(BE d)[i]?=(d.cons[i]?).map (·.name):=by simp[BE]
def EF (ds:List DataD)(c:Str):Nat:=ds.findIdx fun d=>decide (c∈BE d)
theorem Zae {ds:List DataD}{c:Str}(h:EF ds c<ds.length):∃d,ds[EF ds c]?=some d/\c∈BE d:=by
 refine⟨ds[EF ds c],qm h,?_⟩;have h1:=List.findIdx_getElem (w:=h);exact of_decide_eq_true h1
def LM (ds:List DataD)(c:Str):Int×Int×Bool:=match ds[EF ds c]? with
 |some d=>(EF ds c,Be (BE d) c,true)
 |none=>(0,0,false)
abbrev ZdV (r:Int×Int×Bool):V:=.tu [intV r.1,intV r.2.1,Aa r.2.2]
end Go.Vs.Tryz
namespace Go.Vs
open Go
section
variable {C:Ctx}
theorem T7 (ks:List Nat)(s:St):Cs ks s=s.scrub ks:=by
 cases ks with
 |cons _ _=>rfl
 |nil=>
  obtain⟨E,O⟩:=s;unfold Cs St.scrub;have:(O.any fun x=>x.2.isSome&&List.contains [] x.1)=false:=by
   rw[List.any_eq_false];intro x _;simp
  simp only[this,cond_false]
theorem Zc {x:Opd}{f s p q k:Nat}{ag:Bool}{asg body:VCode}{Q:Ex->St->Prop}{st:St}{rows:List (List Cell)}(hx:x.val C (get? st.env)=.sc (.clo f [true] [[.ptr k 0]]))(hk:64<=k)
 (hL:look st.objs k=some (.box [.c (.sl rows)])) (hn:rows.length<=1649267441664) (I:Nat->St->Prop) (h0:I rows.length (Cs [k] st))
 (round:∀i st' row,I (i+1) st'->rows[i]?=some row->row.length=s/\∃v,asV ag (wc row)=some v/\
   wp C asg (fun e s1=>e=.normal/\((Aw body).all fun k=>(look s1.objs k).isNone)=true/\
    wp C body (fun e s2=>(e=.normal/\I i ⟨(Cs (Aw asg++Aw body) st').env,s2.objs⟩)\/(e≠.normal/\Q e ⟨(Cs (Aw asg++Aw body) st').env,s2.objs⟩)) s1)
    ⟨put (put (Cs (Aw asg++Aw body) st').env p (.sc (.c (.int .i64 i)))) q v,(Cs (Aw asg++Aw body) st').objs⟩)
 (fin:∀st',I 0 st'->Q .normal st'):wp C (.rangeB x f s ag p q asg body) Q st:=by
 have key:∀i,i<=rows.length->∀st',I i st'->∃n e s',(∀n',n<=n'->Dq (run C n' asg) (run C n' body) (Aw asg++Aw body) (Aw body) s ag p q rows i st'=some (e,s'))/\Q e s':=by
  intro i
  induction i with
  |zero=>exact fun _ st' h=>⟨0,.normal,st',fun _ _=>rfl,fin st' h⟩
  |succ i ih=>
   intro hi st' h;obtain⟨row,hrow⟩:∃row,rows[i]?=some row:=⟨rows[i],qm (by omega)⟩;obtain⟨hlen,v,hv,n1,e1,s1,h1,rfl,h2,n2,e2,s2,h3,h4⟩:=round i st' row h hrow;rw[T7]at h1 h4;have hl:(row.length==s)=true:=(by simp[hlen])
   have r1:∀n',n1<=n'->run C n' asg ⟨put (put (st'.scrub (Aw asg++Aw body)).env p (.sc (.c (.int .i64 i)))) q v,(st'.scrub (Aw asg++Aw body)).objs⟩=some (.normal,s1):=fun n' hn=>Da (gl:=C.gl) (c:=C.call) (Le.refl _) hn h1;have r2:∀n',n2<=n'->run C n' body s1=some (e2,s2):=fun n' hn=>Da (gl:=C.gl) (c:=C.call) (Le.refl _) hn h3;have hv':asV ag (row.map W.c)=some v:=hv;rcases h4 with ⟨rfl,h4⟩|⟨hne,h4⟩
   .obtain ⟨n3,e3,s3,h5,h6⟩:=ih (by omega) _ h4
    refine⟨max n1 (max n2 n3),e3,s3,fun n' hn'=>?_,h6⟩;have ha:=r1 n' (by omega);have hb:=r2 n' (by omega);simp only[Dq,hrow,hl,cond_true,hv',ha,h2,hb];exact h5 n' (by omega)
   .refine ⟨max n1 n2,e2,_,fun n' hn' => ?_,h4⟩
    have ha:=r1 n' (by omega);have hb:=r2 n' (by omega);simp only[Dq,hrow,hl,cond_true,hv',ha,h2,hb];cases e2 with
    |normal=>exact absurd rfl hne
    |exit _=>rfl
    |ret=>rfl
 obtain⟨n,e,s',h1,h2⟩:=key rows.length (qg _) _ h0;refine⟨n,e,s',?_,h2⟩;have hb:(f==f&&Nat.ble 64 k)=true:=by
  simp only[beq_self_eq_true,Bool.true_and];exact qO hk
 have hb2:Nat.ble rows.length HE=true:=qO (by unfold HE;omega);rw[T7]at h1;simp only[run,hx,hb,cond_true,hL,hb2];exact h1 n (qg n)
attribute [simp] Aw
end
end Go.Vs
namespace Go.Vs.Tryz
open Go Go.Vs
variable {A:Ab}
def Ed (ds:List DataD)(i:Nat):Nat:=((ds.take i).map fun d=>d.cons.length).sum
theorem QS {ds:List DataD}{i:Nat}{d:DataD}(h:ds[i]?=some d):Ed ds (i+1)=Ed ds i+d.cons.length:=by
 unfold Ed;rw[Bn h,qaD,qbl];simp
def Fq (ds:List DataD)(seen bound:List Str)(e:Exp):Int:=
 if e.kind=1 then (if e.name∈bound then seen.length+rlast bound e.name else rlast seen e.name)
 else if e.kind=2 then match LM ds e.name with
  |(i,k,true)=>seen.length+bound.length+k+Ed ds i.toNat
  |_=>-1
 else -1
variable {A:Ab}
theorem R5 {l:List Str}{s:Str}{i:Nat}(h:l[i]?=some s)(hj:∀j x,i<j->l[j]?=some x->¬x=s):rlast l s=i:=by
 have hi:=(qf.1 h).1;have hmem:s∈l:=qd h;unfold rlast;rw[if_pos hmem];have hp:=GU.2 (List.mem_reverse.2 hmem);have hx:=HL hp;rw[List.length_reverse]at hp;rw[Tx hp]at hx;have h1:¬i<l.length-1-Be l.reverse s:=fun hlt=>hj _ s hlt hx rfl;have h2:¬l.length-1-i<Be l.reverse s:=by
  intro hlt;obtain⟨x,hx2,hne⟩:=Qw hlt;rw[Tx (by omega),show l.length-1-(l.length-1-i)=i by omega,h]at hx2;cases hx2;exact hne rfl
 omega
def Vx (ctx:List EntD):List Str:=Ck (IX ctx ctx.length)
def headEq (a b:Exp):Prop:=a.kind=b.kind/\a.num=b.num/\a.ty=b.ty/\a.kids.length=b.kids.length/\a.arms.length=b.arms.length
def GA (a b:Exp):Prop:=∀(i:Nat) p q,a.arms[i]?=some p->b.arms[i]?=some q->p.1.con=q.1.con/\p.1.vars.length=q.1.vars.length
def Y1 (left right:List Str)(s t:Str):Prop:=rlast left s=rlast right t/\(0<=rlast left s\/s=t)
def Zar (a:Exp)(l:List (Exp->List Str->List Str->Prop))(b:Exp)(left right:List Str):Prop:=
 headEq a b/\(a.kind=1->Y1 left right a.name b.name)/\(a.kind=2->a.name=b.name)/\
  (a.kind≠1->a.kind≠2->GA a b/\∀(i:Nat) f y,l[i]?=some f->b.children[i]?=some y->f y (left++a.bound i) (right++b.bound i))
def Zdu (a:Exp):Exp->List Str->List Str->Prop:=a.fold Zar
def news (taken:List Str)(n k:Nat):List Str:=(List.range k).map fun j=>Av (n+j) taken
@[simp] theorem news_len (taken:List Str) (n k:Nat):(news taken n k).length=k:=by simp[news]
def ZcT (taken:List Str)(e:Exp)(l:List (List Str->List Str->Exp))(old Ck:List Str):Exp:=
 if e.kind=1 then (if 0<=rlast old e.name then .mk e.kind e.pos ((Ck[(rlast old e.name).toNat]?).getD []) e.num e.kids e.arms e.ty else e)
 else
  let cs:=l.zipIdx.map fun p=>p.1 (old++e.bound p.2) (Ck++news taken old.length (e.bound p.2).length)
  .mk e.kind e.pos (if e.kind=4\/e.kind=6\/e.kind=7 then Av old.length taken else e.name) e.num (cs.take e.kids.length)
   (List.zipWith (fun a c=>(⟨a.1.pos,a.1.con,news taken old.length a.1.vars.length⟩,c)) e.arms (cs.drop e.kids.length)) e.ty
def Q7 (taken:List Str)(e:Exp):List Str->List Str->Exp:=e.fold (ZcT taken)
def Pe (taken:List Str)(e:Exp)(old Ck:List Str):List Exp:=e.children.zipIdx.map fun p=>Q7 taken p.1 (old++e.bound p.2) (Ck++news taken old.length (e.bound p.2).length)
@[simp] theorem canonC_len (taken:List Str) (e:Exp) (old Ck:List Str):(Pe taken e old Ck).length=e.kids.length+e.arms.length:=by simp[Pe]
theorem X5 {e x:Exp}{i:Nat}(hk:e.kind≠1)(hx:e.children[i]?=some x){s:Str}(hs:s∈Ac x):s∈e.bound i\/s∈Ac e:=by
 by_cases hb:s∈e.bound i;grind
 .refine .inr ?_
  rw[FM,if_neg hk,<-MN];have key:∀n,n<=e.children.length->i<n->s∈outP e n:=by
   intro n
   induction n with
   |zero=>simp
   |succ n ih=>
    intro hn hi;obtain⟨y,hy⟩:=Ag (l:=e.children) (i:=n) (by omega);rw[Mu hy,Nl];grind
  grind
theorem Bk {e:Exp}{i:Nat}:e.bound i=if e.kind=4\/e.kind=7\/(e.kind=6/\i=1) then [e.name] else if e.kind=8/\0<i then ((e.arms[i-1]?).map fun a=>a.1.vars).getD [] else []:=rfl
section
variable (k p:Int)(n:Str)(m:Int)(ks:List Exp)(l:List (ArmH×Exp))(t:Ty)
theorem S8:(Exp.mk k p n m ks l t).name=n:=rfl
theorem Qs:(Exp.mk k p n m ks l t).kids=ks:=rfl
theorem F9:(Exp.mk k p n m ks l t).arms=l:=rfl
theorem Hc (i:Nat):(Exp.mk k p n m ks l t).bound i=if k=4\/k=7\/(k=6/\i=1) then [n] else if k=8/\0<i then ((l[i-1]?).map fun a=>a.1.vars).getD [] else []:=rfl
theorem BK:(Exp.mk k p n m ks l t).children=ks++l.map (·.2):=rfl
end
theorem headEq.symm {a b:Exp}(h:headEq a b):headEq b a:=⟨h.1.symm,h.2.1.symm,h.2.2.1.symm,h.2.2.2.1.symm,h.2.2.2.2.symm⟩
theorem headEq.children {a b:Exp}(h:headEq a b):a.children.length=b.children.length:=by
 rw[a.children_len,b.children_len,h.2.2.2.1,h.2.2.2.2]
def Fs (e:Exp)(cs:List Exp):Exp:=.mk e.kind 0 e.name e.num (cs.take e.kids.length) (List.zipWith (fun(a:ArmH×Exp) c=>((⟨0,a.1.con,a.1.vars⟩:ArmH),c)) e.arms (cs.drop e.kids.length)) e.ty
def Ai (e:Exp):Exp:=e.fold Fs
theorem DT (e:Exp):Ai e=Fs e (e.children.map Ai):=Exp.fold_eq _ e
theorem PM {α β γ:Type}{f:α->β->γ}{l:List α}{m:List β}(h:l.length=m.length)(g:γ->β)(hg:∀a b,g (f a b)=b):(List.zipWith f l m).map g=m:=by
 refine qE fun j=>?_;rw[qq,qaT];by_cases hj:j<l.length
 .rw [qm hj,qm (show j<m.length by omega)]
  simp[hg]
 .rw [qaj (by omega),qaj (by omega)]
  rfl
theorem Gi (e:Exp):(Ai e).kind=e.kind/\(Ai e).name=e.name/\(Ai e).num=e.num/\(Ai e).ty=e.ty/\(Ai e).kids.length=e.kids.length/\(Ai e).arms.length=e.arms.length/\
 (Ai e).children=e.children.map Ai/\(∀i:Nat,(Ai e).arms[i]?=(e.arms[i]?).map fun(a:ArmH×Exp)=>((⟨0,a.1.con,a.1.vars⟩:ArmH),Ai a.2)):=by
 have hl:(e.children.map Ai).length=e.kids.length+e.arms.length:=by simp
 have hkl:((e.children.map Ai).take e.kids.length).length=e.kids.length:=by rw[qY,hl];omega
 have hdl:((e.children.map Ai).drop e.kids.length).length=e.arms.length:=by rw[qaa,hl];omega
 have hal:(List.zipWith (fun(a:ArmH×Exp) (c:Exp)=>((⟨0,a.1.con,a.1.vars⟩:ArmH),c)) e.arms ((e.children.map Ai).drop e.kids.length)).length=e.arms.length:=by
  rw[List.length_zipWith,hdl];omega
 rw[DT];refine⟨rfl,rfl,rfl,rfl,by simp only[Fs,Qs,hkl],by simp only[Fs,F9,hal],?_,?_⟩
 .simp only [Fs,BK]
  rw[PM (g:=fun(x:ArmH×Exp)=>x.2) (by rw[hdl]) (fun _ _=>rfl),qaS]
 .intro i
  simp only[Fs,F9,qaT];have hd:(e.children.map Ai).drop e.kids.length=e.arms.map fun a=>Ai a.2:=by
   simp[Exp.children]
  rw[hd,qq];cases e.arms[i]?<;>rfl
theorem Un (e:Exp):(Ai e).weight=e.weight:=by
 induction e using Exp.ind with
 |h e ih=>
  obtain⟨h1,h2,h3,h4,h5,h6,h7,h8⟩:=Gi e;rw[Exp.weight_eq,e.weight_eq,h7,qan];have ha:((Ai e).arms.map fun a=>a.1.vars.length)=e.arms.map fun a=>a.1.vars.length:=by
   refine qE fun i=>?_;rw[qq,qq,h8];cases e.arms[i]?<;>rfl
  have hc:e.children.map (Exp.weight∘Ai)=e.children.map Exp.weight:=qM fun x hx=>ih x hx;rw[ha,hc]
def Zdn (e:Exp)(taken:List Str):Exp:=Q7 (taken++Ac e) (Ai e) [] []
variable {A:Ab}
end Go.Vs.Tryz
namespace Go.Vs
open Go
mutual
def Ty.size:Ty->Nat
 |.mk _ _ _ _ a=>1+Ty.sizes a
def Ty.sizes:List Ty->Nat
 |[]=>0
 |t::r=>t.size+Ty.sizes r
end
theorem Ty.sizes_map:∀l:List Ty,Ty.sizes l=(l.map Ty.size).sum
 |[]=>by simp[Ty.sizes]
 |t::r=>by simp[Ty.sizes,Ty.sizes_map r]
theorem Ty.size_eq (t:Ty):t.size=1+(t.args.map Ty.size).sum:=by
 cases t;simp[Ty.size,Ty.args,Ty.sizes_map]
theorem Ty.size_pos (t:Ty):1<=t.size:=by
 rw[Ty.size_eq];omega
theorem IS {l:List Nat}{n:Nat}(h:n∈l):n<=l.sum:=by
 induction l with
 |nil=>cases h
 |cons a r ih=>
  simp only[qad];rcases qD.1 h with rfl|h
  .omega
  .have:=ih h
   omega
theorem Ty.arg_lt {t x:Ty}(h:x∈t.args):x.size<t.size:=by
 have:=IS (qat (f:=Ty.size) h);rw[t.size_eq];omega
theorem Ty.len_le (l:List Ty):l.length<=(l.map Ty.size).sum:=by
 induction l with
 |nil=>simp
 |cons a r ih=>
  have:=a.size_pos;simp only[qF,qv,qad];omega
theorem Ty.args_lt (t:Ty):t.args.length<t.size:=by
 have:=Ty.len_le t.args;rw[t.size_eq];omega
structure AssD where
 id:Int
 ty:Ty
def BH (a:AssD):List Cell:=.int .i64 a.id::a.ty.row
def Eb (l:List AssD):List (List Cell):=l.map BH
@[simp] theorem assRow_len (a:AssD):(BH a).length=6:=by simp[BH]
@[simp] theorem assRows_len (l:List AssD):(Eb l).length=l.length:=by simp[Eb]
@[simp] theorem assRows_get (l:List AssD) (i:Nat):(Eb l)[i]?=(l[i]?).map BH:=by simp[Eb]
@[simp] theorem okRows_ass (l:List AssD):AP 6 (wr (Eb l))=true:=Cu l assRow_len
@[simp] theorem assRows_snoc (l:List AssD) (x:AssD):wr (Eb l)++[wc (BH x)]=wr (Eb (l++[x])):=by simp[Eb,wr]
@[simp] theorem assRows0:Eb []=[]:=rfl
section
variable (a:AssD)
@[simp] theorem cut_as0:cut (BH a) 0 1=some [.int .i64 a.id]:=by rw[BH,Ty.row_eq];rfl
@[simp] theorem cut_as1:cut (BH a) 1 5=some a.ty.row:=by rw[BH,Ty.row_eq];rfl
@[simp] theorem cut_as:cut (BH a) 0 6=some (BH a):=by rw[BH,Ty.row_eq];rfl
@[simp] theorem cutw_as0:cut (wc (BH a)) 0 1=some [.c (.int .i64 a.id)]:=by rw[BH,Ty.row_eq];rfl
@[simp] theorem cutw_as1:cut (wc (BH a)) 1 5=some (wc a.ty.row):=by rw[BH,Ty.row_eq];rfl
@[simp] theorem cutw_as:cut (wc (BH a)) 0 6=some (wc (BH a)):=by rw[BH,Ty.row_eq];rfl
@[simp] theorem flat_ass:(wc (BH a)).all Bh=false:=by rw[BH,Ty.row_eq];simp[wc,Bh]
end
end Go.Vs
namespace Go.Vs.Tryz
open Go Go.Vs
variable {A:Ab}
abbrev GY (l:List Int):V:=.sc (.c (.sl (Bm l)))
abbrev tysV (l:List Ty):V:=.sc (.c (.sl (Ty.rows l)))
abbrev WV (l:List AssD):V:=.sc (.c (.sl (Eb l)))
abbrev schV (c:Int)(t:Ty):V:=.ag (wc (BG c t))
def Zdm (r:V×List Obj):Prop:=∃b,r=(Aa b,[])
variable {A:Ab}
def cmpI (a b:Int):Int:=if a<b then -1 else if b<a then 1 else 0
def orI:List Int->Int
 |[]=>0
 |a::r=>if a=0 then orI r else a
def Q4 (e:Exp):Int:=if e.kind=4 then 0 else if e.kind=8 then 2 else 1
end Go.Vs.Tryz
namespace Go.Vs
open Go
section
variable {call:FuncId->List V->List Obj->Option (V×List Obj)}{L:Nat->Option Obj}{oid:Nat}
@[simp] theorem call1_clo2 {f:FuncId} {w0 w1:W} {args:List (Bool×V)}:BI call L oid (.sc (.clo f [true,true] [[w0],[w1]])) args=EV call L oid f (AQ L (args++[(true,.sc w0),(true,.sc w1)])):=by
 rw[KO];rfl
@[simp] theorem call1_clo3 {f:FuncId} {w0 w1 w2:W} {args:List (Bool×V)}:BI call L oid (.sc (.clo f [true,true,true] [[w0],[w1],[w2]])) args=EV call L oid f (AQ L (args++[(true,.sc w0),(true,.sc w1),(true,.sc w2)])):=by
 rw[KO];rfl
end
end Go.Vs
namespace Go.Vs.Tryz
open Go Go.Vs
variable {A:Ab}
variable {A:Ab}
def BU (l:List Exp):Nat->List Exp
 |0=>l
 |i+1=>match (BU l i)[i]?,(BU l i)[l.length-1-i]? with
  |some x,some y=>((BU l i).set i y).set (l.length-1-i) x
  |_,_=>BU l i
@[simp] theorem swapTo_len (l:List Exp):∀i,(BU l i).length=l.length
 |0=>rfl
 |i+1=>by
  have:=swapTo_len l i;simp only[BU];split
  .simp[this]
  .exact this
theorem setRow_set {α:Type}:∀(l:List α)(i:Nat)(a:α),setRow l i a=l.set i a
 |[],_,_=>rfl
 |_::_,0,_=>rfl
 |b::r,n+1,a=>by simp only[setRow,List.set_cons_succ,setRow_set r n a]
theorem Fu (l:List Exp)(i:Nat)(x:Exp):setRow (wr (Exp.rows l)) i (wc x.row)=wr (Exp.rows (l.set i x)):=by
 rw[setRow_set];simp[Exp.rows_map,wr,List.map_set]
theorem YF (l:List Exp)(h:l.length<=687194767360):∃r,r=(.tu [],[.arr 11 (wr (Exp.rows (BU l (l.length / 2)))) 0])/\(K A).call 80 [.sc (.arr 0 l.length)] [.arr 11 (wr (Exp.rows l)) 0]=some r:=by
 refine En (fun r=>r=(.tu [],[.arr 11 (wr (Exp.rows (BU l (l.length / 2)))) 0])) (vf:=v80) (by kernel_rfl) rfl (by simp) ?_;unfold v80;simp(disch:=try exact zd);refine AW (fun i s=>s=⟨[(0,.sc (.arr 0 l.length)),(2,intV i),(3,intV (l.length-1-i))],[(0,some (.arr 11 (wr (Exp.rows (BU l i))) 0))]⟩) (l.length / 2) (by simp[BU]) ?_ ?_
 .rintro i s hi rfl
  have hn:((l.length:Int)-1-i)=((l.length-1-i:Nat):Int):=by omega
  obtain⟨x,hx⟩:=Ag (l:=BU l i) (i:=i) (by simp;omega);obtain⟨y,hy⟩:=Ag (l:=BU l i) (i:=l.length-1-i) (by simp;omega);have hlt:(i:Int)<((l.length-1-i:Nat):Int):=by omega
  have r1:=Fu (BU l i) i y;have r2:=Fu ((BU l i).set i y) (l.length-1-i) x;rw[hn];unfold MI;simp(disch:=try exact zd) [hx,hy,hlt,BU,r1,r2,-getElem?_pos];omega
 .rintro s rfl
  have hlt:¬(l.length:Int) / 2<(l.length:Int)-1-(l.length:Int) / 2:=by omega
  unfold MI;simp(disch:=try exact zd) [hlt,-getElem?_pos]
theorem Jk (l:List Exp):∀i,2*i<=l.length->∀j,j<l.length->(BU l i)[j]?=if j<i\/l.length<=j+i then l[l.length-1-j]? else l[j]?
 |0,_,j,hj=>by
  have:¬(j<0\/l.length<=j+0):=by omega
  simp only[BU,if_neg this]
 |i+1,hi,j,hj=>by
  have h1:=Jk l i (by omega) i (by omega);have h2:=Jk l i (by omega) (l.length-1-i) (by omega);have h3:=Jk l i (by omega) j hj;rw[if_neg (by omega)]at h1;rw[if_neg (by omega)]at h2;obtain⟨x,hx⟩:=Ag (l:=l) (i:=i) (by omega);obtain⟨y,hy⟩:=Ag (l:=l) (i:=l.length-1-i) (by omega);rw[hx]at h1;rw[hy]at h2;simp only[BU,h1,h2];by_cases e2:j=l.length-1-i
  .subst e2
   rw[List.getElem?_set_self (by simp;omega),if_pos (by omega),show l.length-1-(l.length-1-i)=i by omega,hx]
  .rw [qaX (by omega)]
   by_cases e1:j=i
   .subst e1
    rw[List.getElem?_set_self (by simp;omega),if_pos (by omega),hy]
   .rw [qaX (by omega),h3]
    by_cases hc:j<i\/l.length<=j+i
    .rw[if_pos hc,if_pos (by omega)]
    .rw[if_neg hc,if_neg (by omega)]
theorem Wh (l:List Exp):BU l (l.length / 2)=l.reverse:=by
 apply qE;intro j;by_cases hj:j<l.length
 .rw [Jk l _ (by omega) j hj,List.getElem?_reverse hj]
  by_cases hc:j<l.length / 2\/l.length<=j+l.length / 2
  .rw[if_pos hc]
  .rw[if_neg hc,show l.length-1-j=j by omega]
 .rw[qaj (by simp;omega),qaj (by simp;omega)]
end Go.Vs.Tryz
namespace Go.Vs
open Go
def elK (x:Option Obj)(N i:Nat):Bool:=match x with
 |some (.arr _ rows _)=>rows.length==N&&Nat.blt i N
 |_=>false
@[simp] theorem elK_some {s p N i:Nat} {rows:List (List W)}:elK (some (.arr s rows p)) N i=(rows.length==N&&Nat.blt i N):=rfl
@[simp] theorem elOk_eq {L:Nat->Option Obj} {k N i:Nat}:elOk L k N i=elK (L k) N i:=rfl
end Go.Vs
namespace Go.Vs.Tryz
open Go Go.Vs
variable {A:Ab}
abbrev exsV (l:List Exp):V:=.sc (.c (.sl (Exp.rows l)))
def AV (zz:List (ArmH×Exp))(cs:List Exp):List (ArmH×Exp):=List.zipWith (fun(a:ArmH×Exp) c=>(a.1,c)) zz cs
@[simp] theorem armsW_len (zz:List (ArmH×Exp)) (cs:List Exp):(AV zz cs).length=min zz.length cs.length:=by simp[AV]
theorem EJ {α:Type}{zs zz:List α}{i:Nat}{x:α}(hl:zs.length=zz.length)(hx:zs[i]?=some x):(zs.take i++zz.drop i).set i x=zs.take (i+1)++zz.drop (i+1):=by
 have hi:=(qf.1 hx).1;have htl:(zs.take i).length=i:=by simp;omega
 rw[Bn hx,qW];have hd:zz.drop i=zz[i]'(by omega)::zz.drop (i+1):=qaF (by omega);rw[hd,List.set_append_right _ _ (by omega),htl,qaN,List.set_cons_zero];rfl
theorem Kk (l:List (ArmH×Exp))(i:Nat)(x:ArmH×Exp):setRow (wr (Exp.armRows l)) i (wc (AM x))=wr (Exp.armRows (l.set i x)):=by
 rw[setRow_set];simp[Exp.armRows_map,wr,List.map_set]
theorem WI (a:ArmH×Exp)(c:Exp):splice (wc (AM a)) 3 (wc c.row)=some (wc (AM (a.1,c))):=by
 rw[AM,AM,Exp.row_eq a.2,Exp.row_eq c];rfl
theorem EP {α:Type}{zs zz:List α}{i:Nat}(hl:zs.length=zz.length)(hi:i<zz.length):(zs.take i++zz.drop i)[i]?=zz[i]?:=by
 have htl:(zs.take i).length=i:=by simp;omega
 rw[qH (by omega),htl,qaN,qac];rfl
theorem EN {α:Type}{zs zz:List α}{i:Nat}(hl:zs.length=zz.length):(zs.take i++zz.drop i).length=zz.length:=by
 simp;omega
def CE (l:List (ArmH×Exp)):List (ArmH×Exp):=l.map fun a=>(⟨0,a.1.con,a.1.vars⟩,a.2)
@[simp] theorem armsP_len (l:List (ArmH×Exp)):(CE l).length=l.length:=by simp[CE]
theorem SA (a:ArmH×Exp):splice (wc (AM a)) 0 [W.c (.int .i64 0)]=some (wc (AM ((⟨0,a.1.con,a.1.vars⟩:ArmH),a.2))):=by
 rw[AM,AM,Exp.row_eq a.2];rfl
theorem UA (e:Exp):CE (AV e.arms ((e.children.map Ai).drop e.kids.length))=(Ai e).arms:=by
 obtain⟨_,_,_,_,_,h6,_,h8⟩:=Gi e;have hd:(e.children.map Ai).drop e.kids.length=e.arms.map fun a=>Ai a.2:=by simp[Exp.children]
 refine qE fun i=>?_;rw[h8,hd];unfold CE AV;rw[qq,qaT,qq];cases e.arms[i]?<;>rfl
theorem YQ (e:Exp):(e.children.map Ai).take e.kids.length=(Ai e).kids:=by
 rw[DT];rfl
theorem PU (e:Exp):wc (Ai e).row=[.c (.int .i64 e.kind),.c (.int .i64 0),.c (.str e.name),.c (.int .i64 e.num),.c (.sl (Exp.rows (Ai e).kids)),.c (.sl (Exp.armRows (Ai e).arms)),.c (.int .i64 e.ty.kind),.c (.str e.ty.name),.c (.int .i64 e.ty.id),.c (.int .i64 e.ty.home),.c (.sl (Ty.rows e.ty.args))]:=by
 obtain⟨h1,h2,h3,h4,_,_,_,_⟩:=Gi e;have hp:(Ai e).pos=0:=by rw[DT];rfl
 rw[Exp.row_eq,h1,h2,h3,h4,hp];rfl
end Go.Vs.Tryz
namespace Go.Vs
open Go
section
variable {C:Ctx}{E:Nat->Option V}{L:Nat->Option Obj}{oid:Nat}
def mkSK (oid s bytes:Nat)(zero:List W)(v:V):Option (V×Upd):=match Ki v with
 |some (.ofNat m)=>bif Nat.ble (m*bytes) CT&&zero.length==s&&Nat.blt 0 s&&Nat.ble m A5 then
  some (.sc (.arr oid m),[(oid,some (.arr s (List.replicate m zero) 0))]) else none
 |_=>none
@[simp] theorem x_mkS {s bytes:Nat} {zero:List W} {n:Opd}:Ae C E L oid (.mkS s bytes zero n)=newK (L oid) (mkSK oid s bytes zero (n.val C E)):=by
 simp only[Ae,newK,mkSK];cases L oid with
 |some _=>rfl
 |none=>
  cases Ki (n.val C E)with
  |none=>rfl
  |some z=>cases z<;>rfl
@[simp] theorem mkSK_nat {s bytes m:Nat} {zero:List W} {k:IntKind} (h1:m*bytes<=140737488355328) (h2:zero.length=s) (h3:0<s) (h4:m<=9223372036854775807):mkSK oid s bytes zero (.sc (.c (.int k (m:Int))))=some (.sc (.arr oid m),[(oid,some (.arr s (List.replicate m zero) 0))]):=by
 have e:mkSK oid s bytes zero (.sc (.c (.int k (m:Int))))=bif Nat.ble (m*bytes) CT&&zero.length==s&&Nat.blt 0 s&&Nat.ble m A5 then
  some (.sc (.arr oid m),[(oid,some (.arr s (List.replicate m zero) 0))]) else none:=rfl
 rw[e,qO (by unfold CT;exact h1),qO (by unfold A5;exact h4),show Nat.blt 0 s=true from qO h3,h2];simp
end
end Go.Vs
namespace Go.Vs.Tryz
open Go Go.Vs
variable {A:Ab}
def N1 (taken:List Str)(n:Nat)(l:List (ArmH×Exp)):List (ArmH×Exp):=l.map fun a=>(⟨a.1.pos,a.1.con,news taken n a.1.vars.length⟩,a.2)
@[simp] theorem armsN_len (taken:List Str) (n:Nat) (l:List (ArmH×Exp)):(N1 taken n l).length=l.length:=by simp[N1]
theorem Zav (l:List Str)(i:Nat)(x:Str):setRow (wr (Ao l)) i [W.c (.str x)]=wr (Ao (l.set i x)):=by
 rw[setRow_set];simp[Ao,wr,List.map_set,Fw]
abbrev BL:Obj:=.box [zi,zi,zs,zi,.nil,.nil,zi,zs,zi,zi,.nil]
variable {A:Ab}
def Zdt (k:Nat):List Str:=[[118,49],118::numS (k+2)]
variable {A:Ab}
def GS (c:UInt8):Bool:=(97<=c.toNat&&c.toNat<=122)||(65<=c.toNat&&c.toNat<=90)||(48<=c.toNat&&c.toNat<=57)||c.toNat==95
def keyWords:List Str:=[[100,97,116,97],[108,101,116],[114,101,99],[105,110],[99,97,115,101],[111,102],[101,110,100]]
def nameOk (lo hi:Nat)(s:Str):Prop:=s.length<=12/\(∃c,s[0]?=some c/\lo<=c.toNat/\c.toNat<=hi)/\(∀c∈s,GS c=true)/\s∉keyWords
theorem KQ (lo hi:Nat)(s:Str)(h:nameOk lo hi s):(K A).call 141 [strV s,.sc (.c (.int .u8 lo)),.sc (.c (.int .u8 hi))] []=some (Aa true,[]):=by
 refine fnO v141 ?_;obtain⟨h1,⟨c,hc,h2,h3⟩,h4,h5⟩:=h;simp only[keyWords,qD,qas,or_false,not_or]at h5;obtain⟨k1,k2,k3,k4,k5,k6,k7⟩:=h5;have hl:0<s.length:=(qf.1 hc).1;have e1:¬(s.length:Int)<1:=by omega
 have e2:¬(12:Int)<s.length:=by omega
 have e3:¬(c.toNat:Int)<lo:=by omega
 have e4:¬(hi:Int)<c.toNat:=by omega
 unfold v141;simp(disch:=try exact zd) [e1,e2,e3,e4,hc,-getElem?_pos];refine AW (fun i t=>t=⟨[(0,strV s),(31,intV s.length),(32,intV i)],[]⟩) s.length (by simp) ?_ ?_
 .rintro i t hi rfl
  obtain⟨d,hd⟩:=Ag hi;have hdo:=h4 d (qd hd);simp only[GS,qar,qe,decide_eq_true_eq,beq_iff_eq]at hdo;unfold Lt;by_cases a1:97<=d.toNat
  .by_cases a2:d.toNat<=122
   .have b1:(97:Int)<=d.toNat:=by omega
    have b2:(d.toNat:Int)<=122:=(by omega);simp(disch:=try exact zd) [hi,hd,b1,b2,-getElem?_pos]
   .omega
  .have b1:¬(97:Int)<=d.toNat:=by omega
   by_cases a3:65<=d.toNat
   .have b3:(65:Int)<=d.toNat:=by omega
    by_cases a4:d.toNat<=90
    .have b4:(d.toNat:Int)<=90:=by omega
     simp(disch:=try exact zd) [hi,hd,b1,b3,b4,-getElem?_pos]
    .have b4:¬(d.toNat:Int)<=90:=by omega
     have b5:(d.toNat:Int)=95:=(by omega);simp(disch:=try exact zd) [hi,hd,b5,-getElem?_pos]
   .have b3:¬(65:Int)<=d.toNat:=by omega
    have b4:¬(d.toNat:Int)<48:=(by omega);have b5:¬(57:Int)<d.toNat:=(by omega);simp(disch:=try exact zd) [hi,hd,b1,b3,b4,b5,-getElem?_pos]
 .rintro t rfl
  unfold Lt;simp(disch:=try exact zd) [k1,k2,k3,k4,k5,k6,k7,-getElem?_pos]
theorem HX (s:Str)(h:nameOk 97 122 s):(K A).call 92 [strV s] []=some (Aa true,[]):=by
 have h1:(K A).call 141 [strV s,.sc (.c (.int .u8 97)),.sc (.c (.int .u8 122))] []=some (Aa true,[]):=KQ (A:=A) 97 122 s h;have hs:¬s=[]:=by
  rintro rfl;obtain⟨_,⟨c,hc,_⟩,_⟩:=h;cases hc
 have hv:(K A).call 93 [tyV (.mk 5 s 0 0 [])] []=some (Aa true,[]):=by
  refine fnO v93 ?_;unfold v93;simp(disch:=try exact zd) [h1,hs,Ty.kind,Ty.name,Ty.id,Ty.home,Ty.args,-getElem?_pos]
 refine fnO v92 ?_;simp[tyV,Ty.row,Ty.rows]at hv;unfold v92;simp(disch:=try exact zd) [hv,-getElem?_pos]
theorem PN (s:Str)(h:nameOk 65 90 s):(K A).call 91 [strV s] []=some (Aa true,[]):=by
 have h1:(K A).call 141 [strV s,.sc (.c (.int .u8 65)),.sc (.c (.int .u8 90))] []=some (Aa true,[]):=KQ (A:=A) 65 90 s h;have hs:¬s=[]:=by
  rintro rfl;obtain⟨_,⟨c,hc,_⟩,_⟩:=h;cases hc
 have hne:¬s=[45,62]:=by
  rintro rfl;obtain⟨_,⟨c,hc,h2,h3⟩,_⟩:=h;cases hc;simp at h2
 have hv:(K A).call 93 [tyV (.mk 4 s 0 0 [])] []=some (Aa true,[]):=by
  have hcon:(K A).call 142 [strV s,intV 0] []=some (Aa true,[]):=by
   refine fnO v142 ?_;unfold v142;by_cases hi:s=[73,110,116]
   .simp(disch:=try exact zd) [hi,-getElem?_pos]
   .simp(disch:=try exact zd) [hne,hi,h1,-getElem?_pos]
  have hall:(K A).call 143 [.sc (.c (.sl [])),.sc (.c (.fn 144 [] []))] []=some (Aa false,[]):=A8 (n:=10) (by kernel_rfl);refine fnO v93 ?_;unfold v93;simp(disch:=try exact zd) [hcon,hall,hs,Ty.kind,Ty.name,Ty.id,Ty.home,Ty.args,-getElem?_pos]
 refine fnO v91 ?_;simp[tyV,Ty.row,Ty.rows]at hv;unfold v91;simp(disch:=try exact zd) [hv,-getElem?_pos]
variable {A:Ab}
def IffB (P:Prop)(r:V×List Obj):Prop:=∃b:Bool,(b=true↔P)/\r=(Aa b,[])
theorem IffB.yes {P:Prop}(h:P):IffB P (Aa true,[]):=⟨true,by simp[h],rfl⟩
theorem IffB.no {P:Prop}(h:¬P):IffB P (Aa false,[]):=⟨false,by simp[h],rfl⟩
theorem Ty.ext {a b:Ty}(h1:a.kind=b.kind)(h2:a.name=b.name)(h3:a.id=b.id)(h4:a.home=b.home)(h5:a.args=b.args):a=b:=by
 cases a;cases b;grind[Ty.kind,Ty.name,Ty.id,Ty.home,Ty.args]
theorem UF {α:Type}{l m:List α}(hn:l.length=m.length)(h:∀(i:Nat)(x y:α),l[i]?=some x->m[i]?=some y->x=y):l=m:=by
 refine qE fun i=>?_;grind
theorem ZcQ (l m:List Ty)(hl:l.length<=687194767360)(ih:∀x∈l,∀b,∃r,IffB (x=b) r/\(K A).call 52 [tyV x,tyV b] []=some r):∃r,IffB (l=m) r/\(K A).call 107 [tysV l,tysV m] []=some r:=by
 refine En _ (vf:=v107) (by rfl) rfl (by simp) ?_;unfold v107;by_cases hn:l.length=m.length
 .simp (disch:=try exact zd) [hn]
  refine AW (fun i s=>(∀(j:Nat) x y,j<i->l[j]?=some x->m[j]?=some y->x=y)/\s=⟨[(0,tysV l),(1,tysV m),(5,intV i)],[]⟩) l.length ⟨by omega,by simp⟩ ?_ ?_
  .rintro i s hi ⟨hs,rfl⟩
   obtain⟨x,hx⟩:=Ag hi;obtain⟨y,hy⟩:=Ag (l:=m) (i:=i) (by omega);obtain⟨_,⟨b,hb,rfl⟩,hc⟩:=ih x (qd hx) y;unfold Lm;cases b with
   |true=>
    have hxy:x=y:=hb.1 rfl;simp(disch:=try exact zd) [hi,hx,hy,hc,-getElem?_pos];grind
   |false=>
    have hne:l≠m:=by
     grind
    simp(disch:=try exact zd) [hi,hx,hy,hc,-getElem?_pos];exact IffB.no hne
  .rintro s ⟨hs,rfl⟩
   have he:l=m:=UF hn fun i x y hx hy=>hs i x y (qf.1 hx).1 hx hy;unfold Lm;simp(disch:=try exact zd);exact IffB.yes he
 .have hn':¬(l.length:Int)=m.length:=by omega
  have hne:l≠m:=fun h=>hn (by rw[h]);simp(disch:=try exact zd) [hn,hn'];exact IffB.no hne
theorem Yt:∀(n:Nat)(a b:Ty),a.size<=n->n<=687194767360->∃r,IffB (a=b) r/\(K A).call 52 [tyV a,tyV b] []=some r:=by
 intro n
 induction n with
 |zero=>
  intro a b ha;have:=a.size_pos;omega
 |succ n ih=>
  intro a b ha hn;have hal:=a.args_lt;obtain⟨_,⟨v,hv,rfl⟩,hc⟩:=ZcQ (A:=A) a.args b.args (by omega) (fun x hx b=>ih x b (by have:=Ty.arg_lt hx;omega) (by omega));refine En _ (vf:=v52) (by rfl) rfl (by simp) ?_;unfold v52;by_cases h1:a.kind=b.kind
  .by_cases h2:a.name=b.name
   .by_cases h3:a.id=b.id
    .by_cases h4:a.home=b.home
     .simp (disch:=try exact zd) [h1,h2,h3,h4,hc]
      exact⟨v,hv.trans ⟨fun h5=>Ty.ext h1 h2 h3 h4 h5,fun h=>by rw[h]⟩,rfl⟩
     .simp (disch:=try exact zd) [h1,h2,h3,h4,hc]
      grind[IffB.no]
    .simp (disch:=try exact zd) [h1,h2,h3,hc]
     grind[IffB.no]
   .simp (disch:=try exact zd) [h1,h2,hc]
    grind[IffB.no]
  .simp (disch:=try exact zd) [h1,hc]
   grind[IffB.no]
end Go.Vs.Tryz
