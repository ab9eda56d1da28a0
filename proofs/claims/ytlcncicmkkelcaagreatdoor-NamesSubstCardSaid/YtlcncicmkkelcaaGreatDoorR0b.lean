/- The tables. (Parts of one proof, put together.) -/
import Derived.Test.YtlcncicmkkelcaaGreatDoorT1b
import Derived.Test.YtlcncicmkkelcaaGreatDoorT2b
import Derived.Test.YtlcncicmkkelcaaGreatDoorT3b
import Derived.Test.YtlcncicmkkelcaaGreatDoorProg
import Derived.Test.YtlcncicmkkelcaaGreatDoorM4b
import Derived.Lib.Strings
import Derived.Lib.Walk
import Derived.Lib.BufferWrite
import Derived.Lib.UnsafeStr
import Derived.Lib.Hide
import Derived.Laws.MakeOwn
import Derived.WalkKit
import Derived.KernelRfl
import Derived.Test.YtlcncicmkkelcaaGreatDoorM6b
set_option linter.unusedSimpArgs false
set_option linter.unusedVariables false
set_option linter.deprecated false
set_option maxHeartbeats 4000000
set_option maxRecDepth 100000
namespace Go.Vs.Tryz
open Go Go.Vs
def tab:List (Nat × VFun):=[(9,v9),(19,v19),(13,v13),(20,v20),(21,v21),(27,v27),(34,v34),(31,v31),(36,v36),(35,v35),(37,v37),(38,v38),(67,v67),(24,v24),(30,v30),(68,v68),(23,v23),(22,v22),(69,v69),(53,v53),(82,v82),(87,v87),(32,v32),(89,v89),(88,v88),(90,v90),(91,v91),(92,v92),(84,v84),(85,v85),(86,v86),(127,v127),(72,v72),(79,v79),(80,v80),(81,v81),(71,v71),(70,v70),(143,v143),(145,v145),(146,v146),(78,v78),(83,v83),(148,v148),(29,v29),(147,v147),(167,v167),(168,v168),(169,v169),(171,v171),(172,v172),(130,v130),(132,v132),(131,v131),(141,v141),(142,v142),(107,v107),(129,v129),(47,v47),(100,v100),(128,v128),(206,v206),(208,v208),(207,v207),(209,v209),(126,v126),(26,v26),(217,v217),(218,v218),(219,v219),(220,v220),(221,v221),(222,v222),(224,v224),(225,v225),(226,v226),(227,v227),(149,v149),(114,v114),(177,v177),(180,v180),(203,v203),(204,v204),(173,v173),(174,v174),(176,v176),(246,v246),(117,v117),(28,v28),(249,v249),(250,v250),(251,v251),(252,v252),(253,v253),(254,v254),(255,v255),(256,v256),(228,v228),(231,v231),(232,v232),(162,v162),(163,v163),(229,v229),(230,v230),(164,v164),(73,v73),(74,v74),(75,v75),(76,v76),(77,v77),(263,v263),(55,v55),(215,v215),(59,v59),(216,v216),(258,v258),(134,v134),(135,v135),(136,v136),(137,v137),(139,v139),(138,v138),(105,v105),(248,v248),(181,v181),(182,v182),(184,v184),(185,v185),(188,v188),(189,v189),(190,v190),(202,v202),(192,v192),(193,v193),(194,v194),(195,v195),(196,v196),(197,v197),(198,v198),(199,v199),(200,v200),(236,v236),(237,v237),(240,v240),(241,v241),(242,v242),(243,v243),(244,v244),(245,v245),(262,v262)]
def T:FuncId→Option VFun:=get? tab
theorem T_ok:∀ f vf,T f=some vf→mFun Go.Proofs.Tryz.prog f vf=true:=AllT.get (l:=tab) ⟨m9,m19,m13,m20,m21,m27,m34,m31,m36,m35,m37,m38,m67,m24,m30,m68,m23,m22,m69,m53,m82,m87,m32,m89,m88,m90,m91,m92,m84,m85,m86,m127,m72,m79,m80,m81,m71,m70,m143,m145,m146,m78,m83,m148,m29,m147,m167,m168,m169,m171,m172,m130,m132,m131,m141,m142,m107,m129,m47,m100,m128,m206,m208,m207,m209,m126,m26,m217,m218,m219,m220,m221,m222,m224,m225,m226,m227,m149,m114,m177,m180,m203,m204,m173,m174,m176,m246,m117,m28,m249,m250,m251,m252,m253,m254,m255,m256,m228,m231,m232,m162,m163,m229,m230,m164,m73,m74,m75,m76,m77,m263,m55,m215,m59,m216,m258,m134,m135,m136,m137,m139,m138,m105,m248,m181,m182,m184,m185,m188,m189,m190,m202,m192,m193,m194,m195,m196,m197,m198,m199,m200,m236,m237,m240,m241,m242,m243,m244,m245,m262,trivial⟩
def cab:List (Nat × VFun):=[(133,v133),(144,v144),(95,v95),(140,v140)]
def Tc:FuncId→Option VFun:=get? cab
theorem Tc_ok:∀ f vf,Tc f=some vf→mFun Go.Proofs.Tryz.prog f vf=true:=AllT.get (l:=cab) ⟨m133,m144,m95,m140,trivial⟩
theorem follows:Go.Proofs.Tryz.prog.follows .mixedOrders=true:=by kernel_rfl
end Go.Vs.Tryz
namespace Go.Vs.Tryz
open Go Go.RowKit Go.Proofs Go.Vs
theorem info5:(Go.Proofs.Tryz.prog.info? 5).map (fun i=>(i.zero,i.size,i.bytes))=some (some (Value.int IntKind.u8 0),1,1):=by kernel_rfl
theorem ZqE:∃ i0:TypeInfo,Go.Proofs.Tryz.prog.info? 5=some i0∧i0.zero=some (.int .u8 0)∧i0.size=1∧i0.bytes=1:=by
 have h:=info5
 cases hi:Go.Proofs.Tryz.prog.info? 5 with
 | none=>rw [hi] at h;cases h
 | some i =>
  rw [hi] at h
  simp only [Option.map_some,Option.some.injEq,Prod.mk.injEq] at h
  exact ⟨i,rfl,h.1,h.2.1,h.2.2⟩
theorem ZqD (s:ByteArray)(w:World)(hlim:s.size≤281474976710656) :
 Calls Go.Proofs.Tryz.prog 233 #[.string s] w fun e w'=>e=.returned (.string s)∧Below w.heap.size w w':=by
 by_cases h0:s.size=0
 ·have hs:s=⟨#[]⟩:=by
   apply ByteArray.ext
   exact Array.eq_empty_of_size_eq_zero h0
  subst hs
  go_enter Go.Proofs.Tryz.func233,Go.Proofs.Tryz.ntmps233
  go_wp2
  go_ret
  exact ⟨rfl,Below.refl _ _⟩
 ·obtain ⟨i0,hi,hz0,hz1,hz2⟩:=ZqE
  have hinfo:(Go.Proofs.Tryz.prog.info? 5).map (·.size)=some 1:=by rw [hi];simp [hz1]
  have hco:Go.Proofs.Tryz.prog.cellsOf 5=1:=by simp [Program.cellsOf,hi,hz1]
  obtain ⟨M,hM⟩:∃ M,M=madeCells (Value.int .u8 0).cells (((s.size:Nat):Int).toNat*i0.size):=⟨_,rfl⟩
  have hMs:M.size=s.size:=by rw [hM,size_madeCells,hz1];simp
  have hmk:∀ W:World,(Instr.makeSlice 211 (.int .i64 (s.size:Int)) (.int .i64 (s.size:Int))).run Go.Proofs.Tryz.prog W=.ok (.slice (some ⟨W.heap.size,0,none⟩) s.size s.size) (W.alloc (.cells M 5)):=fun W=>by
   have h:=run_make (P:=Go.Proofs.Tryz.prog) W 211 5 i0 (.int .u8 0) Go.Proofs.Tryz.underlying211 hi hz0 .i64 .i64 (s.size:Int) (s.size:Int) (by omega) (by omega) (by rw [hz2];omega) (by omega)
   rw [←hM] at h
   simpa using h
  clear hM
  have hcp:=Lib.run_copy_row_string (P:=Go.Proofs.Tryz.prog) (w.alloc (.cells M 5)) 211 9 3 5 w.heap.size 0 s.size s.size s M 5 Go.Proofs.Tryz.underlying211 hinfo (heap_alloc_new w _) (Nat.le_refl _) (by omega)
  obtain ⟨Y,hY⟩:∃ Y,Y=(M.toList.take 0++Lib.byteCells s.data.toList++M.toList.drop (0+s.size)).toArray:=⟨_,rfl⟩
  rw [←hY] at hcp
  have hYl:Y.toList=Lib.byteCells s.data.toList:=by
   rw [hY,List.toList_toArray,List.take_zero,List.nil_append,List.drop_of_length_le (by rw [Array.length_toList];omega),List.append_nil]
  have hYs:Y.size=s.size:=by rw [←Array.length_toList,hYl,Lib.byteCells_length,←Lib.size_eq]
  have hgY:((w.alloc (.cells M 5)).setRow w.heap.size Y).heap[w.heap.size]?=some (.cells Y 5 (0,0)):=setRow_heap _ _ M _ 5 (0,0) (heap_alloc_new w _)
  have hne:s.data.toList≠[]:=fun e=>h0 (by rw [Lib.size_eq,e];rfl)
  have hUS:=Lib.run_unsafeString_row (P:=Go.Proofs.Tryz.prog) ((w.alloc (.cells M 5)).setRow w.heap.size Y) 265 3 9 5 Go.Proofs.Tryz.underlying265 hco w.heap.size Y.size (by unfold World.shape?;rw [hgY]) s.data.toList hne (by rw [←Lib.size_eq];omega) (by rw [←Lib.size_eq];omega)
   (fun j x hx=>Lib.cells_of_row hgY Y.size j _ (by rw [List.take_of_length_le (by rw [Array.length_toList];exact Nat.le_refl _),hYl];simp [Lib.byteCells,hx]))
  rw [←Lib.size_eq] at hUS
  clear hY
  go_enter Go.Proofs.Tryz.func233,Go.Proofs.Tryz.ntmps233
  go_wp2
  go_ret
  have hb1:Below w.heap.size w (w.alloc (.cells M 5)):=(Below.refl _ w).alloc (Nat.le_refl _) _
  have hb2:Below w.heap.size (w.alloc (.cells M 5)) ((w.alloc (.cells M 5)).setRow w.heap.size Y):=⟨rfl,rfl,rfl,by simp,fun k hk=>setRow_other _ _ _ _ (by omega)⟩
  exact ⟨rfl,Lib.below_freeze (hb1.trans hb2) (p:=⟨w.heap.size,0,none⟩) (Nat.le_refl _) _⟩
end Go.Vs.Tryz
namespace Go.Vs.Tryz
open Go Go.Vs Go.RowKit
def tabOf (k:IntKind)(l:List Int):List Cell:=l.map fun n=>.int k n
def pow10Tab:List Int:=[1,10,100,1000,10000,100000,1000000,10000000,100000000,1000000000,10000000000,100000000000,1000000000000,10000000000000,100000000000000,1000000000000000,10000000000000000,100000000000000000,1000000000000000000,10000000000000000000]
def Zsx:List Int:=[0,1,28,2,29,14,24,3,30,22,20,15,25,17,4,8,31,27,13,23,21,19,16,7,26,12,18,6,11,5,10,9]
def ZsN:List Int:=[0,1,56,2,57,49,28,3,61,58,42,50,38,29,17,4,62,47,59,36,45,43,51,22,53,39,33,30,24,18,12,5,63,55,48,27,60,41,37,16,46,35,44,21,52,32,23,11,54,26,40,15,34,20,31,10,25,14,19,9,13,8,7,6]
def errCell (s:List UInt8):Cell:=.ifc 266 true [.ro [.str s] 0]
def ZfE:List UInt8:=[105,110,118,97,108,105,100,32,115,121,110,116,97,120]
def ZgD:List UInt8:=[118,97,108,117,101,32,111,117,116,32,111,102,32,114,97,110,103,101]
def gl5:Nat→List Cell
 | 0=>[errCell ZfE]
 | 1=>[errCell ZgD]
 | 2=>tabOf .u64 pow10Tab
 | 3=>tabOf .u8 Zsx
 | 4=>tabOf .u8 ZsN
 | _=>[]
def gl0:Nat→List Cell
 | 0=>[errCell ZfE]
 | 1=>[errCell ZgD]
 | 2=>tabOf .u64 pow10Tab
 | _=>[]
def Zew (f:Nat):Bool:=f == 140 || f == 133 || f == 144 || f == 95
def X:Zac:=fun f args objs=>match objs with
 | _::_=>Zcx Tc (fun _ _ _=>none) gl0 3 f args objs
 | []=>match args with
  | [.sc (.c (.str l))]=>bif f == 233 && Nat.ble l.length 281474976710656 then some (.sc (.c (.str l)),[]) else none
  | [.sc (.c (.sl []))]=>bif Zew f then some (.sc (.full []),[]) else none
  | _=>Zcx Tc (fun _ _ _=>none) gl0 3 f args objs
abbrev ev (n:Nat)(f:FuncId)(args:List V)(objs:List Obj):Option (V × List Obj):=Zcx T X gl0 n f args objs
end Go.Vs.Tryz
namespace Go.Vs
open Go Go.RowKit
theorem Zj1 {w w':World}{ω:Nat→Nat}{S:Nat→Prop}(hb:Below w.heap.size w w'):Keeps w ω S w' ω :=
 ⟨⟨fun b i hi v hv=>by
   obtain ⟨cs,t,fr,h⟩:=Zdj hv
   have h':w'.heap[b]?=some (.cells cs t fr):=(hb.block b (Array.getElem?_eq_some_iff.1 h).1).trans h
   refine ⟨?_,hi⟩
   rw [ZaB h',←ZaB h]
   exact hv⟩,hb.size,fun b hbl _=>⟨hb.block b hbl,rfl⟩,hb.os,hb.tape,hb.output⟩
theorem Zdu {P:Program}{gl:Nat→List Cell}{f:FuncId}(h1:FnOk P gl f [.sc (.e0 true)] [] (.sc .nil) [])(h2:FnOk P gl f [.sc (.e0 false)] [] (.sc (.full [])) []) :
 FnOk P gl f [.sc (.c (.sl []))] [] (.sc (.full [])) []:=by
 refine ⟨h1.1,fun w ω β cargs hgl hargs hobj hinj => ?_⟩
 obtain ⟨l⟩:=cargs
 match l,hargs with
 | [],hargs=>simp [RVs] at hargs
 | v::_::_,hargs=>simp [RVs] at hargs
 | [v],hargs =>
  simp only [RVs,RV1,RW,RD,and_true] at hargs
  obtain ⟨base,cap,hv,_,hcap,_⟩:=hargs
  simp only [List.length_nil] at hv
  cases base with
  | none =>
   have hr:RVs w ω β (Lof []) [.sc (.e0 true)] [v]:=by
    simp only [RVs,RV1,RW,and_true]
    exact ⟨none,cap,hv,hcap,rfl⟩
   refine (h1.2 w ω β #[v] hgl hr hobj hinj).mono ?_
   rintro e w' ⟨vv,ω',β',he,hrv,hrest⟩
   refine ⟨vv,ω',β',he,?_,hrest⟩
   simp only [RV,RV1,RW] at hrv
   subst hrv
   simp only [RV,RV1,RW,RD]
   exact ⟨⟨none,0,rfl,by simp,by simp [Zaw],by simp⟩,none,0,rfl⟩
  | some a =>
   have hr:RVs w ω β (Lof []) [.sc (.e0 false)] [v]:=by
    simp only [RVs,RV1,RW,and_true]
    exact ⟨some a,cap,hv,hcap,rfl⟩
   exact h2.2 w ω β #[v] hgl hr hobj hinj
theorem FnOk.owned {P:Program}{gl:Nat→List Cell}{f:FuncId}{args:List V}{s:Nat}(hs:0<s)(h:FnOk P gl f args [] (.sc (.full [])) []):FnOk P gl f args [] (.sc (.arr 0 0)) [.arr s [] 0]:=by
 refine ⟨h.1,fun w ω β cargs hgl hargs hobj hinj=>(h.2 w ω β cargs hgl hargs hobj hinj).mono ?_⟩
 rintro e w' ⟨vv,ω',β',he,hrv,_,_,hk,_,_⟩
 simp only [RV,RV1,RW,RD] at hrv
 obtain ⟨⟨base,cap,h2,_⟩,base',n,h3⟩:=hrv
 have hv:vv=.slice base' 0 0:=by
  rw [h3] at h2 ⊢
  simp only [Value.slice.injEq,List.length_nil] at h2
  rw [h2.2.1]
 refine ⟨vv,ω',fun _=>none,he,?_,?_,?_,hk,?_,?_⟩
 ·simp only [RV,RV1,RW]
  exact ⟨s,[],0,rfl,by simp,⟨_,_,_,hv⟩,fun _=>.inr ⟨rfl,rfl,base',hv⟩⟩
 ·intro k o hko
  cases k with
  | zero =>
   have:Obj.arr s [] 0=o:=by simpa [Lof] using hko
   subst this
   exact ⟨hs,by simp,by simp,.inr ⟨rfl,rfl⟩⟩
  | succ k=>simp [Lof] at hko
 ·intro j k b _ _ hj
  cases hj
 ·intro k b _ hb
  cases hb
 ·intro k
  simp [Tr,Lof]
namespace Tryz
theorem ok202 {gl:Nat→List Cell}{l:List UInt8}(hl:l.length≤281474976710656):FnOk Go.Proofs.Tryz.prog gl 233 [.sc (.c (.str l))] [] (.sc (.c (.str l))) []:=by
 refine ⟨⟨_,Go.Proofs.Tryz.func233,by kernel_rfl,by kernel_rfl⟩,fun w ω β cargs hgl hargs hobj hinj => ?_⟩
 obtain ⟨l'⟩:=cargs
 match l',hargs with
 | [],hargs=>simp [RVs] at hargs
 | v::_::_,hargs=>simp [RVs] at hargs
 | [v],hargs =>
  simp only [RVs,RV1,RW,RD,and_true] at hargs
  obtain ⟨a,rfl,ha⟩:=hargs
  refine (ZqD a w (by rw [Lib.size_eq,ha];exact hl)).mono ?_
  rintro e w' ⟨rfl,hb⟩
  refine ⟨_,ω,β,rfl,?_,fun k o hk=>by simp [Lof] at hk,fun j k b hj=>by simp [Lof] at hj,Zj1 hb,fun k b hk=>by simp [Lof] at hk,fun k=>by simp [Tr,Lof]⟩
  simp only [RV,RV1,RW,RD]
  exact ⟨a,rfl,ha⟩
theorem Zro:∀ (f:FuncId)(args:List V)(objs:List Obj)(rv:V)(objs':List Obj),(fun _ _ _=>none:Zac) f args objs=some (rv,objs')→FnOk Go.Proofs.Tryz.prog gl0 f args objs rv objs' :=
 fun _ _ _ _ _ h=>by cases h
theorem Zhi {n:Nat}{f:FuncId}{args:List V}{objs:List Obj}{rv:V}{objs':List Obj}(h:Zcx Tc (fun _ _ _=>none) gl0 n f args objs=some (rv,objs')):FnOk Go.Proofs.Tryz.prog gl0 f args objs rv objs' :=
 ZgW follows Tc_ok Zro n h
theorem ZiG {f:Nat}(h:Zew f=true):FnOk Go.Proofs.Tryz.prog gl0 f [.sc (.c (.sl []))] [] (.sc (.full [])) []:=by
 have hf:f=140∨f=133∨f=144∨f=95:=by
  simp only [Zew,Bool.or_eq_true,beq_iff_eq] at h
  omega
 rcases hf with rfl|rfl|rfl|rfl
 ·exact Zdu (Zhi (n:=3) (by kernel_rfl)) (Zhi (n:=3) (by kernel_rfl))
 ·exact Zdu (Zhi (n:=3) (by kernel_rfl)) (Zhi (n:=3) (by kernel_rfl))
 ·exact Zdu (Zhi (n:=3) (by kernel_rfl)) (Zhi (n:=3) (by kernel_rfl))
 ·exact Zdu (Zhi (n:=3) (by kernel_rfl)) (Zhi (n:=3) (by kernel_rfl))
theorem X_ok:∀ (f:FuncId)(args:List V)(objs:List Obj)(rv:V)(objs':List Obj),X f args objs=some (rv,objs')→FnOk Go.Proofs.Tryz.prog gl0 f args objs rv objs':=by
 intro f args objs rv objs' h
 unfold X at h
 split at h
 ·exact Zhi h
 ·split at h
  ·rename_i l
   cases hc:(f == 233 && Nat.ble l.length 281474976710656) with
   | false=>rw [hc] at h;cases h
   | true =>
    rw [hc] at h
    simp only [cond_true,Option.some.injEq,Prod.mk.injEq] at h
    simp only [Bool.and_eq_true,beq_iff_eq] at hc
    obtain ⟨rfl,rfl⟩:=h
    obtain ⟨rfl,hl⟩:=hc
    exact ok202 (Nat.le_of_ble_eq_true hl)
  ·cases hc:Zew f with
   | false=>rw [hc] at h;cases h
   | true =>
    rw [hc] at h
    simp only [cond_true,Option.some.injEq,Prod.mk.injEq] at h
    obtain ⟨rfl,rfl⟩:=h
    exact ZiG hc
  ·exact Zhi h
theorem Ze6 {n:Nat}{f:FuncId}{args:List V}{objs:List Obj}{rv:V}{objs':List Obj}(h:ev n f args objs=some (rv,objs')):FnOk Go.Proofs.Tryz.prog gl0 f args objs rv objs' :=
 ZgW follows T_ok X_ok n h
end Tryz
end Go.Vs
namespace Go.Vs.Tryz
open Go Go.Vs
def skip (f:Nat):Bool:=f == 19 || f == 12 || f == 71
def T2:FuncId→Option VFun:=fun f=>bif skip f then none else T f
theorem T2_ok:∀ f vf,T2 f=some vf→mFun Go.Proofs.Tryz.prog f vf=true:=by
 intro f vf h
 unfold T2 at h
 cases hs:skip f with
 | true=>rw [hs] at h;cases h
 | false=>rw [hs] at h;exact T_ok f vf h
def Zf6 (f:Nat):Nat:=bif f == 133 then 2 else bif f == 144 then 14 else 1
theorem Zju (f:Nat):0<Zf6 f:=by
 unfold Zf6
 cases f == 133<;>cases f == 144<;>decide
noncomputable def X1:Zac:=fun f args objs=>match objs with
 | _::_=>lim Tc (fun _ _ _=>none) gl0 f args objs
 | []=>match args with
  | [.sc (.c (.str l))]=>bif f == 233 && Nat.ble l.length 281474976710656 then some (.sc (.c (.str l)),[]) else none
  | [.sc (.c (.sl []))]=>bif f == 140 then some (.sc (.full []),[]) else bif Zew f then some (.sc (.arr 0 0),[.arr (Zf6 f) [] 0]) else none
  | _=>lim Tc (fun _ _ _=>none) gl0 f args objs
noncomputable def X2 (A:Zac):Zac:=fun f args objs=>bif skip f then A f args objs else X1 f args objs
theorem ZlR {f:FuncId}{args:List V}{objs:List Obj}{rv:V}{objs':List Obj}(h:lim Tc (fun _ _ _=>none) gl0 f args objs=some (rv,objs')):FnOk Go.Proofs.Tryz.prog gl0 f args objs rv objs':=by
 obtain ⟨n,h⟩:=ZkR h
 exact Zid follows Tc_ok Zro n h
theorem X2_ok {A:Zac}(hA:∀ f args objs rv objs',skip f=true→A f args objs=some (rv,objs')→FnOk Go.Proofs.Tryz.prog gl0 f args objs rv objs') :
 ∀ (f:FuncId) (args:List V) (objs:List Obj) (rv:V) (objs':List Obj),X2 A f args objs=some (rv,objs')→FnOk Go.Proofs.Tryz.prog gl0 f args objs rv objs':=by
 intro f args objs rv objs' h
 unfold X2 at h
 cases hs:skip f with
 | true=>rw [hs] at h;exact hA _ _ _ _ _ hs h
 | false =>
  rw [hs] at h
  simp only [cond_false] at h
  unfold X1 at h
  split at h
  ·exact ZlR h
  ·split at h
   ·rename_i l
    cases hc:(f == 233 && Nat.ble l.length 281474976710656) with
    | false=>rw [hc] at h;cases h
    | true =>
     rw [hc] at h
     simp only [cond_true,Option.some.injEq,Prod.mk.injEq] at h
     simp only [Bool.and_eq_true,beq_iff_eq] at hc
     obtain ⟨rfl,rfl⟩:=h
     obtain ⟨rfl,hl⟩:=hc
     exact ok202 (Nat.le_of_ble_eq_true hl)
   ·cases h140:f == 140 with
    | true =>
     rw [h140] at h
     simp only [cond_true,Option.some.injEq,Prod.mk.injEq] at h
     obtain ⟨rfl,rfl⟩:=h
     have:f=140:=by simpa using h140
     subst this
     exact ZiG rfl
    | false =>
     rw [h140] at h
     simp only [cond_false] at h
     cases hc:Zew f with
     | false=>rw [hc] at h;cases h
     | true =>
      rw [hc] at h
      simp only [cond_true,Option.some.injEq,Prod.mk.injEq] at h
      obtain ⟨rfl,rfl⟩:=h
      exact (ZiG hc).owned (Zju f)
   ·exact ZlR h
noncomputable def K (A:Zac):Ctx:=⟨lim T2 (X2 A) gl0,gl0⟩
noncomputable def Kc:Ctx:=⟨lim Tc (fun _ _ _=>none) gl0,gl0⟩
@[simp] theorem K_gl {A:Zac}:(K A).gl=gl0:=rfl
@[simp] theorem Kc_gl:Kc.gl=gl0:=rfl
theorem K_ok {A:Zac}(hA:∀ f args objs rv objs',skip f=true→A f args objs=some (rv,objs')→FnOk Go.Proofs.Tryz.prog gl0 f args objs rv objs')
 {f:FuncId} {args:List V} {objs:List Obj} {rv:V} {objs':List Obj} (h:(K A).call f args objs=some (rv,objs')):FnOk Go.Proofs.Tryz.prog gl0 f args objs rv objs':=by
 obtain ⟨n,h⟩:=ZkR h
 exact Zid follows T2_ok (X2_ok hA) n h
variable {A:Zac}
theorem Zan {f:FuncId}{vf:VFun}{args:List V}{objs:List Obj}{r:V × List Obj}(hT:T2 f=some vf)(hn:args.length=vf.nparams)(ho:objs.length≤64)
 (h:wp (K A) vf.body (Zg8 vf.keep objs.length vf.results r) ⟨Zba 0 args,Zba 0 (objs.map some)⟩):(K A).call f args objs=some r:=ZlU hT hn ho h
theorem ZiO {f:FuncId}{vf:VFun}{args:List V}{objs:List Obj}{r:V × List Obj}(hT:Tc f=some vf)(hn:args.length=vf.nparams)(ho:objs.length≤64)
 (h:wp Kc vf.body (Zg8 vf.keep objs.length vf.results r) ⟨Zba 0 args,Zba 0 (objs.map some)⟩):Kc.call f args objs=some r:=ZlU hT hn ho h
theorem Zfx {f:FuncId}(hs:skip f=false)(hT:T2 f=none){c:List Cell}{rows:List (List Cell)}:(K A).call f [.sc (.c (.sl (c::rows)))] []=Kc.call f [.sc (.c (.sl (c::rows)))] []:=by
 have h:X2 A f [.sc (.c (.sl (c::rows)))] []=Kc.call f [.sc (.c (.sl (c::rows)))] []:=by
  unfold X2
  rw [hs]
  rfl
 rw [←h]
 cases hx:X2 A f [.sc (.c (.sl (c::rows)))] [] with
 | some r=>exact ZnO hT hx
 | none =>
  cases hk:(K A).call f [.sc (.c (.sl (c::rows)))] [] with
  | none=>rfl
  | some r =>
   obtain ⟨n,hn⟩:=ZkR hk
   cases n with
   | zero=>cases hn
   | succ n =>
    simp only [ZbA,hT] at hn
    rw [hx] at hn
    cases hn
theorem ZoY:(K A).call 140 [.sc (.c (.sl []))] []=some (.sc (.full []),[]):=by
 refine ZnO (by kernel_rfl) ?_
 simp only [X2,X1,show skip 140=false from rfl,cond_false,show (140 == 140)=true from rfl,cond_true]
theorem ZjR {f:FuncId}(hs:skip f=false)(hT:T2 f=none)(h140:(f == 140)=false)(hf:Zew f=true):(K A).call f [.sc (.c (.sl []))] []=some (.sc (.arr 0 0),[.arr (Zf6 f) [] 0]):=by
 refine ZnO hT ?_
 simp only [X2,X1,hs,cond_false,h140,hf,cond_true]
theorem ZcE (e:Exp)(h:e.kids.length+e.arms.length≤4294967296):(K A).call 69 [.ag (wc e.row)] []=some (.sc (.arr 0 e.children.length),[.arr 11 (wr (Exp.rows e.children)) 0]):=by
 refine Zan (vf:=v69) (by kernel_rfl) rfl (by decide) ?_
 unfold v69
 simp (disch:=first|omega|(simp;done)|(simp;omega))
 refine Zaz (fun i=>⟨[(1,.sc (.ptr 64 0)),(3,.sc (.arr 320 (e.kids.length+i))),(4,.sc (.c (.int .i64 i)))],
  [(64,some (.box (wc e.row))),(320,some (.arr 11 (wr (Exp.rows (e.kids++(e.arms.map (·.2)).take i))) 0))]⟩) e.arms.length ?_ ?_ ?_
 ·simp
 ·intro i hi
  obtain ⟨x,hx⟩:=Zaa hi
  have hx':(e.arms.map (·.2))[i]?=some x.2:=by simp [hx]
  unfold ZrO
  simp (disch:=first|omega|(simp;done)|(simp;omega)) [hi,hx,Zat hx',Nat.add_assoc,-getElem?_pos]
 ·unfold ZrO
  have ht:(e.arms.map (·.2)).take e.arms.length=e.arms.map (·.2):=List.take_of_length_le (by simp)
  simp (disch:=first|omega|(simp;done)|(simp;omega)) [Exp.children,ht]
variable {A:Zac}
abbrev Za3 (l:List Str):V:=.sc (.c (.sl (Zag l)))
abbrev strV (s:Str):V:=.sc (.c (.str s))
abbrev intV (n:Int):V:=.sc (.c (.int .i64 n))
abbrev Zah (b:Bool):V:=.sc (.c (.bool b))
abbrev expV (e:Exp):V:=.ag (wc e.row)
@[simp] theorem wc_strRow (s:Str):wc (ZdG s)=[.c (.str s)]:=rfl
@[simp] theorem wc_intRow (n:Int):wc (ZhN n)=[.c (.int .i64 n)]:=rfl
def ZbM (l:List Str)(s:Str):Nat:=l.findIdx (· == s)
theorem ZiI {l:List Str}{s:Str}{i:Nat}(h:i<ZbM l s):∃ x,l[i]?=some x∧¬x=s:=by
 have hlt:i<l.length:=Nat.lt_of_lt_of_le h List.findIdx_le_length
 refine ⟨l[i],List.getElem?_eq_getElem hlt,?_⟩
 have:=List.not_of_lt_findIdx h
 simpa using this
theorem Zfi {l:List Str}{s:Str}(h:ZbM l s<l.length):l[ZbM l s]?=some s:=by
 have h1:=List.findIdx_getElem (w:=h)
 rw [List.getElem?_eq_getElem h]
 exact congrArg some (beq_iff_eq.1 h1)
theorem Zb6 {l:List Str}{s:Str}:ZbM l s<l.length↔s∈l:=by
 unfold ZbM
 rw [List.findIdx_lt_length]
 simp
theorem Zlo (l:List Str)(s:Str):ZbM l s≤l.length:=List.findIdx_le_length
theorem ZjV (l:List Str)(s:Str)(h:l.length≤4294967296):(K A).call 78 [Za3 l,strV s] []=some (Zah (decide (s∈l)),[]):=by
 refine Zan (vf:=v78) (by kernel_rfl) rfl (by decide) ?_
 unfold v78
 have hp:=Zlo l s
 simp (disch:=first|omega|(simp;done)|(simp;omega))
 refine Zaz (fun i=>⟨[(0,Za3 l),(1,strV s),(5,intV i)],[]⟩) (ZbM l s) ?_ ?_ ?_
 ·simp
 ·intro i hi
  obtain ⟨x,hx,hne⟩:=ZiI hi
  have hlt:i<l.length:=by omega
  unfold ZrV
  simp (disch:=first|omega|(simp;done)|(simp;omega)) [hx,hne,hlt,-getElem?_pos]
 ·unfold ZrV
  by_cases hm:ZbM l s<l.length
  ·have hx:=Zfi hm
   simp (disch:=first|omega|(simp;done)|(simp;omega)) [hx,hm,Zb6.1 hm,-getElem?_pos]
  ·have hn:s∉l:=fun h=>hm (Zb6.2 h)
   simp (disch:=first|omega|(simp;done)|(simp;omega)) [hm,hn,-getElem?_pos]
theorem Zsk (l:List Str)(s:Str)(h:l.length≤4294967296):(K A).call 107 [Za3 l,strV s] []=some (intV (if s∈l then (ZbM l s:Int) else -1),[]):=by
 refine Zan (vf:=v107) (by kernel_rfl) rfl (by decide) ?_
 unfold v107
 have hp:=Zlo l s
 simp (disch:=first|omega|(simp;done)|(simp;omega))
 refine Zaz (fun i=>⟨[(0,Za3 l),(1,strV s),(7,intV l.length),(8,intV i)],[]⟩) (ZbM l s) ?_ ?_ ?_
 ·simp
 ·intro i hi
  obtain ⟨x,hx,hne⟩:=ZiI hi
  have hlt:i<l.length:=by omega
  have hne':¬s=x:=fun h=>hne h.symm
  unfold Zne
  simp (disch:=first|omega|(simp;done)|(simp;omega)) [hx,hne',hlt,-getElem?_pos]
 ·unfold Zne
  by_cases hm:ZbM l s<l.length
  ·have hx:=Zfi hm
   simp (disch:=first|omega|(simp;done)|(simp;omega)) [hx,hm,Zb6.1 hm,-getElem?_pos]
  ·have hn:s∉l:=fun h=>hm (Zb6.2 h)
   simp (disch:=first|omega|(simp;done)|(simp;omega)) [hm,hn,-getElem?_pos]
theorem Zby (l:List Str)(s:Str)(h:l.length≤4294967296):(K A).call 81 [Za3 l,strV s] []=some (Zah (decide (s∈l)),[]):=by
 refine Zan (vf:=v81) (by kernel_rfl) rfl (by decide) ?_
 unfold v81
 have:=Zsk (A:=A) l s h
 simp [this]
 by_cases hn:s∈l<;>simp [hn]
theorem few8 (l:List Int):(K A).call 13 [.sc (.c (.sl (l.map ZhN)))] []=some (Zah (decide (l.length≤60)),[]):=by
 refine Zan (vf:=v13) (by kernel_rfl) rfl (by decide) ?_
 unfold v13
 simp
 omega
def ZbT:List Str→List Str→Nat
 | a::l,b::m=>if a=b then ZbT l m+1 else 0
 | _,_=>0
theorem Zjg:∀ {l m:List Str}{i:Nat},i<ZbT l m→∃ x,l[i]?=some x∧m[i]?=some x
 | [],_,_,h=>by simp [ZbT] at h
 | _::_,[],_,h=>by simp [ZbT] at h
 | a::l,b::m,i,h=>by
  simp only [ZbT] at h
  split at h
  ·rename_i hab
   subst hab
   cases i with
   | zero=>exact ⟨a,rfl,rfl⟩
   | succ i=>simpa using Zjg (l:=l) (m:=m) (i:=i) (by omega)
  ·omega
theorem Zje:∀ (l m:List Str),ZbT l m≤l.length
 | [],_=>by simp [ZbT]
 | _::_,[]=>by simp [ZbT]
 | a::l,b::m=>by
  simp only [ZbT]
  split
  ·have:=Zje l m
   simp only [List.length_cons];omega
  ·simp
theorem Zi6:∀ {l m:List Str},l.length=m.length→ZbT l m<l.length→∃ x y,l[ZbT l m]?=some x∧m[ZbT l m]?=some y∧x≠y
 | [],_,_,h=>by simp at h
 | _::_,[],h,_=>by simp at h
 | a::l,b::m,h,h2=>by
  simp only [ZbT] at h2 ⊢
  split
  ·rename_i hab
   rw [if_pos hab] at h2
   simpa using Zi6 (l:=l) (m:=m) (by simpa using h) (by simpa using h2)
  ·rename_i hab
   exact ⟨a,b,rfl,rfl,hab⟩
theorem Zgi:∀ {l m:List Str},l.length=m.length→(ZbT l m=l.length↔l=m)
 | [],[],_=>by simp [ZbT]
 | [],_::_,h=>by simp at h
 | _::_,[],h=>by simp at h
 | a::l,b::m,h=>by
  simp only [ZbT]
  split
  ·rename_i hab
   have:=Zgi (l:=l) (m:=m) (by simpa using h)
   simp [hab,this]
  ·rename_i hab
   simp [hab]
variable {A:Zac}
theorem ZmK {l:List Exp}(h:l≠[]):∃ c rows,Exp.rows l=c::rows:=by
 cases l with
 | nil=>exact absurd rfl h
 | cons e r=>exact ⟨e.row,Exp.rows r,by rw [Exp.rows]⟩
theorem ZmL (l:List Exp)(h:l≠[])(hl:l.length≤4294967296):(K A).call 140 [.sc (.c (.sl (Exp.rows l)))] []=some (.sc (.arr 0 l.length),[.arr 11 (wr (Exp.rows l)) 0]):=by
 obtain ⟨c,rows,hr⟩:=ZmK h
 have hlen:rows.length+1=l.length:=by
  have:=Exp.rows_len l
  rw [hr] at this
  simpa using this
 have hok:Za0 11 (wr (c::rows))=true:=hr▸okRows_exp l
 rw [hr,Zfx (by kernel_rfl) (by kernel_rfl)]
 refine ZiO (vf:=v140) (by kernel_rfl) rfl (by decide) ?_
 unfold v140
 rw [wr_cons] at hok
 simp (disch:=first|omega|(simp;done)|(simp;omega)) [hok]
 omega
theorem ZbU (e:Exp)(h1:e.kids=[])(h2:e.arms=[]):(K A).call 79 [expV e] []=some (.sc (.full []),[]):=by
 refine Zan (vf:=v79) (by kernel_rfl) rfl (by decide) ?_
 have hc:=ZoY (A:=A)
 have hn:Exp.rows []=[]:=by rw [Exp.rows]
 unfold v79
 simp [h1,hn,hc]
 refine Zaz (fun i=>⟨[(3,.sc (.full [])),(10,.sc (.c (.sl (Exp.armRows e.arms)))),(11,intV e.arms.length),(12,intV i)],[(64,some (.box (wc e.row)))]⟩) 0 ?_ ?_ ?_
 ·simp
 ·intro i hi;omega
 ·unfold ZqO
  simp [h2]
theorem ZbR (e:Exp)(h:e.kids≠[])(hl:e.weight≤1073741824):(K A).call 79 [expV e] []=some (.sc (.arr 0 e.children.length),[.arr 11 (wr (Exp.rows e.children)) 0]):=by
 refine Zan (vf:=v79) (by kernel_rfl) rfl (by decide) ?_
 have hk:=e.children_le
 rw [e.children_len] at hk
 have hc:=ZmL (A:=A) e.kids h (by omega)
 unfold v79
 simp [hc]
 refine Zaz (fun i=>⟨[(3,.sc (.arr 352 (e.kids.length+i))),(10,.sc (.c (.sl (Exp.armRows e.arms)))),(11,intV e.arms.length),(12,intV i)],
  [(64,some (.box (wc e.row))),(352,some (.arr 11 (wr (Exp.rows (e.kids++(e.arms.map (·.2)).take i))) 0))]⟩) e.arms.length ?_ ?_ ?_
 ·simp
 ·intro i hi
  obtain ⟨x,hx⟩:=Zaa hi
  have hx':(e.arms.map (·.2))[i]?=some x.2:=by simp [hx]
  unfold ZqO
  simp (disch:=first|omega|(simp;done)|(simp;omega)) [hi,hx,Zat hx',Nat.add_assoc,-getElem?_pos]
 ·unfold ZqO
  have ht:(e.arms.map (·.2)).take e.arms.length=e.arms.map (·.2):=List.take_of_length_le (by simp)
  simp (disch:=first|omega|(simp;done)|(simp;omega)) [Exp.children,ht]
abbrev Zik (i:Int):V:=.sc (.c (.sl [[.int .i64 i]]))
theorem at89 (e x:Exp)(i:Nat)(h:e.kids≠[])(hx:e.children[i]?=some x)(hl:e.weight≤1073741824):(K A).call 141 [expV e,Zik i] []=some (.tu [expV x,Zah true],[]):=by
 refine Zan (vf:=v141) (by kernel_rfl) rfl (by decide) ?_
 have hk:=e.children_le
 have hi:i<e.children.length:=(List.getElem?_eq_some_iff.1 hx).1
 have hi':¬(e.kids.length:Int)+e.arms.length≤i:=by rw [e.children_len] at hi;omega
 have hi2:¬(i:Int)<0:=by omega
 have hc:=ZbR (A:=A) e h hl
 rw [e.children_len] at hk hi
 unfold v141
 simp
 refine Zaz (fun j=>match j with
  | 0=>⟨[(2,.sc (.ptr 64 0)),(4,.sc (.ptr 128 0)),(9,Zik i),(10,intV 1),(11,intV 0)],[(64,some (.box (wc e.row))),(128,some (.box [zi,zi,zs,zi,.nil,.nil,zi,zs,zi,zi,.nil]))]⟩
  | _=>⟨[(2,.sc (.ptr 64 0)),(4,.sc (.ptr 128 0)),(9,Zik i),(10,intV 1),(11,intV 1)],[(64,some (.box (wc x.row))),(128,some (.box [zi,zi,zs,zi,.nil,.nil,zi,zs,zi,zi,.nil]))]⟩) 1 ?_ ?_ ?_
 ·simp
 ·intro j hj
  obtain rfl:j=0:=by omega
  unfold ZoK
  simp (disch:=first|omega|(simp;done)|(simp;omega)) [hc,hi',hi2,hx,-getElem?_pos,List.getElem?_cons_zero]
 ·unfold ZoK
  simp (disch:=first|omega|(simp;done)|(simp;omega))
theorem Zp3 (e:Exp)(i:Nat)(h:e.wf1)(hi:i<e.children.length)(hl:e.weight≤1073741824):(K A).call 203 [expV e,intV i] []=some (Za3 (e.bound i),[]):=by
 refine Zan (vf:=v203) (by kernel_rfl) rfl (by decide) ?_
 have hk:=e.children_le
 have hn:Zag []=[]:=rfl
 have h1:∀ s:Str,Zag [s]=[[.str s]]:=fun _=>rfl
 rw [e.children_len] at hk hi
 unfold v203
 by_cases h4:e.kind=4
 ·simp [h4,Exp.bound,h1]
 ·by_cases h7:e.kind=7
  ·simp [h7,Exp.bound,h1]
  ·by_cases h6:e.kind=6
   ·by_cases hi1:i=1
    ·simp [h6,hi1,Exp.bound,h1]
    ·have hi1':¬(i:Int)=1:=by omega
     simp [h6,hi1,hi1',Exp.bound,hn]
   ·by_cases h8:e.kind=8
    ·have hk1:=h.1 h8
     by_cases hi1:0<i
     ·obtain ⟨x,hx⟩:=Zaa (l:=e.arms) (i:=i-1) (by omega)
      have hi2:(1:Int)≤i:=by omega
      have hw:IntKind.i64.wrap ((i:Int)-1)=((i-1:Nat):Int):=by rw [Zgk _ (by omega)];omega
      simp (disch:=first|omega|(simp;done)|(simp;omega)) [h8,hi1,hi2,hk1,hw,hx,Exp.bound,-getElem?_pos]
     ·have hi2:¬(1:Int)≤i:=by omega
      simp [h8,hi1,hi2,hk1,Exp.bound,hn]
    ·simp [h4,h7,h6,h8,Exp.bound,hn]
theorem Zqy (s:Str):(K A).call 163 [.sc (.c (.sl [])),.sc (.clo 205 [true] [[.ptr 0 0]])] [.box [.c (.str s)]]=some (intV (-1),[.box [.c (.str s)]]):=by
 refine Zan (vf:=v163) (by kernel_rfl) rfl (by simp) ?_
 unfold v163
 simp
 refine Zaz (fun i=>⟨[(0,.sc (.c (.sl []))),(1,.sc (.clo 205 [true] [[.ptr 0 0]])),(7,intV 0),(8,intV i)],[(0,some (.box [.c (.str s)]))]⟩) 0 ?_ ?_ ?_
 ·simp
 ·intro i hi;omega
 ·unfold Zrg
  simp
theorem Znb (s:Str):(K A).call 204 [.sc (.arr 0 0),.sc (.clo 205 [true] [[.ptr 1 0]])] [.arr 1 [] 0,.box [.c (.str s)]]=some (.sc (.arr 0 0),[.arr 1 [] 0,.box [.c (.str s)]]):=by
 refine Zan (vf:=v204) (by kernel_rfl) rfl (by simp) ?_
 have h:=Zqy (A:=A) s
 unfold v204
 simp [h]
theorem Zsz (e:Exp)(i:Nat)(h:e.wf1)(hi:i<e.children.length)(hl:e.weight≤1073741824):(K A).call 126 [expV e,intV i] []=some (Za3 (e.bound i),[]):=by
 refine Zan (vf:=v126) (by kernel_rfl) rfl (by decide) ?_
 have hk:=e.children_le
 have hn:Zag []=[]:=rfl
 have h1:∀ s:Str,Zag [s]=[[.str s]]:=fun _=>rfl
 rw [e.children_len] at hk hi
 unfold v126
 by_cases h4:e.kind=4
 ·simp [h4,Exp.bound,h1]
 ·by_cases h7:e.kind=7
  ·simp [h7,Exp.bound,h1]
  ·by_cases h6:e.kind=6
   ·by_cases hi1:i=1
    ·simp [h6,hi1,Exp.bound,h1]
    ·have hi1':¬(i:Int)=1:=by omega
     simp [h6,hi1,hi1',Exp.bound,hn]
   ·by_cases h8:e.kind=8
    ·have hk1:=h.1 h8
     by_cases hi1:0<i
     ·obtain ⟨x,hx⟩:=Zaa (l:=e.arms) (i:=i-1) (by omega)
      have hi2:(0:Int)<i:=by omega
      have hw:IntKind.i64.wrap ((i:Int)-1)=((i-1:Nat):Int):=by rw [Zgk _ (by omega)];omega
      simp (disch:=first|omega|(simp;done)|(simp;omega)) [h8,hi1,hi2,hk1,hw,hx,Exp.bound,-getElem?_pos]
     ·have hi2:¬(0:Int)<i:=by omega
      simp [h8,hi1,hi2,hk1,Exp.bound,hn]
    ·simp [h4,h7,h6,h8,Exp.bound,hn]
variable {A:Zac}
theorem Zkh {e:Exp}{i:Nat}(h:¬(e.kind=8∧0<i)):e.bound i=[]∨∃ s,e.bound i=[s]:=by
 unfold Exp.bound
 rw [if_neg h]
 split
 ·exact .inr ⟨_,rfl⟩
 ·exact .inl rfl
theorem Zm4 {e:Exp}{i:Nat}(h:e.wf1)(hi:i<e.children.length):e.kids≠[]:=by
 intro hk
 rw [e.children_len,hk] at hi
 by_cases h8:e.kind=8
 ·have:=h.1 h8
  rw [hk] at this
  simp at this
 ·rw [h.2.1 h8] at hi
  simp at hi
theorem Zm9 (e x:Exp)(i:Nat)(h:e.wf1)(hb:¬(e.kind=8∧0<i))(hx:e.children[i]?=some x)(hl:e.weight≤1073741824):(K A).call 142 [expV e,Zik i] []=some (Za3 (e.bound i),[]):=by
 refine Zan (vf:=v142) (by kernel_rfl) rfl (by decide) ?_
 have hi:i<e.children.length:=(List.getElem?_eq_some_iff.1 hx).1
 have hk:=Zm4 h hi
 have h51:=ZbR (A:=A) e hk hl
 have h89:=at89 (A:=A) e x i hk hx hl
 have h135:=Zp3 (A:=A) e i h hi hl
 have hn:Zag []=[]:=rfl
 rw [e.children_len] at hi
 have hle:=e.children_le
 rw [e.children_len] at hle
 unfold v142
 simp (disch:=first|omega|(simp;done)|(simp;omega)) [h89]
 refine Zaz (fun j=>match j with
  | 0=>⟨[(2,.sc (.ptr 64 0)),(7,.sc (.arr 961 0)),(20,Zik i),(21,intV 1),(22,intV 0)],[(64,some (.box (wc e.row))),(961,some (.arr 1 [] 0))]⟩
  | _=>⟨[(2,.sc (.ptr 64 0)),(7,.sc (.arr 961 (e.bound i).length)),(20,Zik i),(21,intV 1),(22,intV 1)],[(64,some (.box (wc x.row))),(961,some (.arr 1 (wr (Zag (e.bound i))) 0))]⟩) 1 ?_ ?_ ?_
 ·simp
 ·intro j hj
  obtain rfl:j=0:=by omega
  unfold Zn2
  simp (disch:=first|omega|(simp;done)|(simp;omega)) [h135,-getElem?_pos,List.getElem?_cons_zero]
  rcases Zkh hb with h0|⟨s,h0⟩
  ·rw [h0]
   refine Zaz (fun j=>⟨[(2,.sc (.ptr 64 0)),(7,.sc (.arr 961 0)),(20,Zik i),(21,intV 1),(22,intV 0),(9,intV i),(28,Za3 []),(29,intV 0),(30,intV j)],[(64,some (.box (wc e.row))),(961,some (.arr 1 [] 0))]⟩) 0 ?_ ?_ ?_
   ·simp
   ·intro j hj;omega
   ·unfold ZkN
    simp (disch:=first|omega|(simp;done)|(simp;omega)) [h51,hx,hn,-getElem?_pos]
  ·rw [h0]
   have h1:Zag [s]=[[.str s]]:=rfl
   have h136:=Znb (A:=A) s
   refine Zaz (fun j=>match j with
    | 0=>⟨[(2,.sc (.ptr 64 0)),(7,.sc (.arr 961 0)),(20,Zik i),(21,intV 1),(22,intV 0),(9,intV i),(28,Za3 [s]),(29,intV 1),(30,intV 0)],[(64,some (.box (wc e.row))),(961,some (.arr 1 [] 0))]⟩
    | _=>⟨[(2,.sc (.ptr 64 0)),(7,.sc (.arr 961 1)),(20,Zik i),(21,intV 1),(22,intV 0),(9,intV i),(28,Za3 [s]),(29,intV 1),(30,intV 1)],[(64,some (.box (wc e.row))),(961,some (.arr 1 (wr (Zag [s])) 0))]⟩) 1 ?_ ?_ ?_
   ·simp
   ·intro j hj
    obtain rfl:j=0:=by omega
    unfold ZkN
    simp (disch:=first|omega|(simp;done)|(simp;omega)) [h136,h1,-getElem?_pos,List.getElem?_cons_zero]
   ·unfold ZkN
    simp (disch:=first|omega|(simp;done)|(simp;omega)) [h51,hx,-getElem?_pos]
 ·unfold Zn2
  simp (disch:=first|omega|(simp;done)|(simp;omega))
theorem Zgf (e:Exp)(i:Nat)(h:e.wf1)(hi:i<e.children.length)(hl:e.weight≤1073741824):(K A).call 80 [expV e,intV i] []=some (Za3 (e.bound i),[]):=by
 refine Zan (vf:=v80) (by kernel_rfl) rfl (by decide) ?_
 obtain ⟨x,hx⟩:=Zaa hi
 have hk:=Zm4 h hi
 have h89:=at89 (A:=A) e x i hk hx hl
 rw [e.children_len] at hi
 have hle:=e.children_le
 rw [e.children_len] at hle
 unfold v80
 by_cases hb:e.kind=8∧0<i
 ·have hk1:=h.1 hb.1
  obtain ⟨y,hy⟩:=Zaa (l:=e.arms) (i:=i-1) (by omega)
  have hi2:(1:Int)≤i:=by omega
  have hw:IntKind.i64.wrap ((i:Int)-1)=((i-1:Nat):Int):=by rw [Zgk _ (by omega)];omega
  simp (disch:=first|omega|(simp;done)|(simp;omega)) [h89,hb,hi2,hk1,hw,hy,Exp.bound,-getElem?_pos]
 ·have h90:=Zm9 (A:=A) e x i h hb hx hl
  by_cases h8:e.kind=8
  ·have hk1:=h.1 h8
   have hi2:¬(1:Int)≤i:=by omega
   simp (disch:=first|omega|(simp;done)|(simp;omega)) [h89,h8,hi2,hk1,h90,-getElem?_pos]
  ·simp (disch:=first|omega|(simp;done)|(simp;omega)) [h89,h8,h90,-getElem?_pos]
end Go.Vs.Tryz
