/- The tables. (Parts of one proof, put together.) -/
import Derived.Test.YtccmnfpbcmccpaaGreatDoorT1c
import Derived.Test.YtccmnfpbcmccpaaGreatDoorT2c
import Derived.Test.YtccmnfpbcmccpaaGreatDoorT3c
import Derived.Test.YtccmnfpbcmccpaaGreatDoorT4c
import Derived.Test.YtccmnfpbcmccpaaGreatDoorProg
import Derived.Test.YtccmnfpbcmccpaaGreatDoorM4c
import Derived.Lib.Strings
import Derived.Lib.Walk
import Derived.Lib.BufferWrite
import Derived.Lib.UnsafeStr
import Derived.Lib.Hide
import Derived.Laws.MakeOwn
import Derived.WalkKit
import Derived.KernelRfl
import Derived.Test.YtccmnfpbcmccpaaGreatDoorM6c
set_option linter.unusedSimpArgs false
set_option linter.unusedVariables false
set_option linter.deprecated false
set_option maxHeartbeats 4000000
set_option maxRecDepth 100000
namespace Go.Vs.Tryz
open Go Go.Vs
def tab:List (Nat × VFun):=[(5,v5),(25,v25),(12,v12),(26,v26),(27,v27),(28,v28),(18,v18),(34,v34),(31,v31),(29,v29),(30,v30),(60,v60),(61,v61),(49,v49),(51,v51),(52,v52),(53,v53),(46,v46),(54,v54),(72,v72),(33,v33),(42,v42),(62,v62),(63,v63),(45,v45),(66,v66),(65,v65),(64,v64),(44,v44),(67,v67),(68,v68),(69,v69),(112,v112),(43,v43),(113,v113),(99,v99),(102,v102),(106,v106),(107,v107),(74,v74),(75,v75),(120,v120),(121,v121),(122,v122),(123,v123),(16,v16),(71,v71),(19,v19),(81,v81),(115,v115),(90,v90),(85,v85),(83,v83),(84,v84),(82,v82),(86,v86),(87,v87),(88,v88),(89,v89),(116,v116),(117,v117),(118,v118),(119,v119),(124,v124),(125,v125),(126,v126),(129,v129),(128,v128),(170,v170),(171,v171),(172,v172),(127,v127),(173,v173),(76,v76),(174,v174),(78,v78),(79,v79),(47,v47),(48,v48),(135,v135),(136,v136),(137,v137),(138,v138),(139,v139),(140,v140),(167,v167),(168,v168),(169,v169),(175,v175),(176,v176),(177,v177),(178,v178),(179,v179),(180,v180),(181,v181),(182,v182),(131,v131),(132,v132),(133,v133),(134,v134),(92,v92),(93,v93),(95,v95),(98,v98),(100,v100),(101,v101),(184,v184),(185,v185),(186,v186),(188,v188),(187,v187),(189,v189),(190,v190),(191,v191),(192,v192),(193,v193),(194,v194),(195,v195),(209,v209),(183,v183),(141,v141),(146,v146),(147,v147),(148,v148),(150,v150),(153,v153),(154,v154),(156,v156),(158,v158),(210,v210),(212,v212),(211,v211),(213,v213),(214,v214),(215,v215),(216,v216),(217,v217),(198,v198),(199,v199),(197,v197),(200,v200),(151,v151),(155,v155),(230,v230),(231,v231),(232,v232),(233,v233),(234,v234),(235,v235),(236,v236),(218,v218),(219,v219),(201,v201),(202,v202),(251,v251),(252,v252),(253,v253),(254,v254),(220,v220),(221,v221),(222,v222),(281,v281),(283,v283),(237,v237),(238,v238),(239,v239),(240,v240),(275,v275),(297,v297),(255,v255),(256,v256),(302,v302)]
def T:FuncId→Option VFun:=get? tab
theorem T_ok:∀ f vf,T f=some vf→mFun Go.Proofs.Tryz.prog f vf=true:=AllT.get (l:=tab) ⟨m5,m25,m12,m26,m27,m28,m18,m34,m31,m29,m30,m60,m61,m49,m51,m52,m53,m46,m54,m72,m33,m42,m62,m63,m45,m66,m65,m64,m44,m67,m68,m69,m112,m43,m113,m99,m102,m106,m107,m74,m75,m120,m121,m122,m123,m16,m71,m19,m81,m115,m90,m85,m83,m84,m82,m86,m87,m88,m89,m116,m117,m118,m119,m124,m125,m126,m129,m128,m170,m171,m172,m127,m173,m76,m174,m78,m79,m47,m48,m135,m136,m137,m138,m139,m140,m167,m168,m169,m175,m176,m177,m178,m179,m180,m181,m182,m131,m132,m133,m134,m92,m93,m95,m98,m100,m101,m184,m185,m186,m188,m187,m189,m190,m191,m192,m193,m194,m195,m209,m183,m141,m146,m147,m148,m150,m153,m154,m156,m158,m210,m212,m211,m213,m214,m215,m216,m217,m198,m199,m197,m200,m151,m155,m230,m231,m232,m233,m234,m235,m236,m218,m219,m201,m202,m251,m252,m253,m254,m220,m221,m222,m281,m283,m237,m238,m239,m240,m275,m297,m255,m256,m302,trivial⟩
def cab:List (Nat × VFun):=[(149,v149),(223,v223),(244,v244)]
def Tc:FuncId→Option VFun:=get? cab
theorem Tc_ok:∀ f vf,Tc f=some vf→mFun Go.Proofs.Tryz.prog f vf=true:=AllT.get (l:=cab) ⟨m149,m223,m244,trivial⟩
theorem follows:Go.Proofs.Tryz.prog.follows .mixedOrders=true:=by kernel_rfl
end Go.Vs.Tryz
namespace Go.Vs.Tryz
open Go Go.RowKit Go.Proofs Go.Vs
theorem info5:(Go.Proofs.Tryz.prog.info? 5).map (fun i=>(i.zero,i.size,i.bytes))=some (some (Value.int IntKind.u8 0),1,1):=by kernel_rfl
theorem Zoq:∃ i0:TypeInfo,Go.Proofs.Tryz.prog.info? 5=some i0∧i0.zero=some (.int .u8 0)∧i0.size=1∧i0.bytes=1:=by
 have h:=info5
 cases hi:Go.Proofs.Tryz.prog.info? 5 with
 | none=>rw [hi] at h;cases h
 | some i =>
  rw [hi] at h
  simp only [Option.map_some,Option.some.injEq,Prod.mk.injEq] at h
  exact ⟨i,rfl,h.1,h.2.1,h.2.2⟩
theorem Zn1 (s:ByteArray)(w:World)(hlim:s.size≤281474976710656) :
 Calls Go.Proofs.Tryz.prog 284 #[.string s] w fun e w'=>e=.returned (.string s)∧Below w.heap.size w w':=by
 by_cases h0:s.size=0
 ·have hs:s=⟨#[]⟩:=by
   apply ByteArray.ext
   exact Array.eq_empty_of_size_eq_zero h0
  subst hs
  go_enter Go.Proofs.Tryz.func284,Go.Proofs.Tryz.ntmps284
  go_wp2
  go_ret
  exact ⟨rfl,Below.refl _ _⟩
 ·obtain ⟨i0,hi,hz0,hz1,hz2⟩:=Zoq
  have hinfo:(Go.Proofs.Tryz.prog.info? 5).map (·.size)=some 1:=by rw [hi];simp [hz1]
  have hco:Go.Proofs.Tryz.prog.cellsOf 5=1:=by simp [Program.cellsOf,hi,hz1]
  obtain ⟨M,hM⟩:∃ M,M=madeCells (Value.int .u8 0).cells (((s.size:Nat):Int).toNat*i0.size):=⟨_,rfl⟩
  have hMs:M.size=s.size:=by rw [hM,size_madeCells,hz1];simp
  have hmk:∀ W:World,(Instr.makeSlice 274 (.int .i64 (s.size:Int)) (.int .i64 (s.size:Int))).run Go.Proofs.Tryz.prog W=.ok (.slice (some ⟨W.heap.size,0,none⟩) s.size s.size) (W.alloc (.cells M 5)):=fun W=>by
   have h:=run_make (P:=Go.Proofs.Tryz.prog) W 274 5 i0 (.int .u8 0) Go.Proofs.Tryz.underlying274 hi hz0 .i64 .i64 (s.size:Int) (s.size:Int) (by omega) (by omega) (by rw [hz2];omega) (by omega)
   rw [←hM] at h
   simpa using h
  clear hM
  have hcp:=Lib.run_copy_row_string (P:=Go.Proofs.Tryz.prog) (w.alloc (.cells M 5)) 274 9 3 5 w.heap.size 0 s.size s.size s M 5 Go.Proofs.Tryz.underlying274 hinfo (heap_alloc_new w _) (Nat.le_refl _) (by omega)
  obtain ⟨Y,hY⟩:∃ Y,Y=(M.toList.take 0++Lib.byteCells s.data.toList++M.toList.drop (0+s.size)).toArray:=⟨_,rfl⟩
  rw [←hY] at hcp
  have hYl:Y.toList=Lib.byteCells s.data.toList:=by
   rw [hY,List.toList_toArray,List.take_zero,List.nil_append,List.drop_of_length_le (by rw [Array.length_toList];omega),List.append_nil]
  have hYs:Y.size=s.size:=by rw [←Array.length_toList,hYl,Lib.byteCells_length,←Lib.size_eq]
  have hgY:((w.alloc (.cells M 5)).setRow w.heap.size Y).heap[w.heap.size]?=some (.cells Y 5 (0,0)):=setRow_heap _ _ M _ 5 (0,0) (heap_alloc_new w _)
  have hne:s.data.toList≠[]:=fun e=>h0 (by rw [Lib.size_eq,e];rfl)
  have hUS:=Lib.run_unsafeString_row (P:=Go.Proofs.Tryz.prog) ((w.alloc (.cells M 5)).setRow w.heap.size Y) 310 3 9 5 Go.Proofs.Tryz.underlying310 hco w.heap.size Y.size (by unfold World.shape?;rw [hgY]) s.data.toList hne (by rw [←Lib.size_eq];omega) (by rw [←Lib.size_eq];omega)
   (fun j x hx=>Lib.cells_of_row hgY Y.size j _ (by rw [List.take_of_length_le (by rw [Array.length_toList];exact Nat.le_refl _),hYl];simp [Lib.byteCells,hx]))
  rw [←Lib.size_eq] at hUS
  clear hY
  go_enter Go.Proofs.Tryz.func284,Go.Proofs.Tryz.ntmps284
  go_wp2
  go_ret
  have hb1:Below w.heap.size w (w.alloc (.cells M 5)):=(Below.refl _ w).alloc (Nat.le_refl _) _
  have hb2:Below w.heap.size (w.alloc (.cells M 5)) ((w.alloc (.cells M 5)).setRow w.heap.size Y):=⟨rfl,rfl,rfl,by simp,fun k hk=>setRow_other _ _ _ _ (by omega)⟩
  exact ⟨rfl,Lib.below_freeze (hb1.trans hb2) (p:=⟨w.heap.size,0,none⟩) (Nat.le_refl _) _⟩
end Go.Vs.Tryz
namespace Go.Vs.Tryz
open Go Go.Vs Go.RowKit
def tabOf (k:IntKind)(l:List Int):List Cell:=l.map fun n=>.int k n
def pow10Tab:List Int:=[1,10,100,1000,10000,100000,1000000,10000000,100000000,1000000000,10000000000,100000000000,1000000000000,10000000000000,100000000000000,1000000000000000,10000000000000000,100000000000000000,1000000000000000000,10000000000000000000]
def Zqq:List Int:=[0,1,28,2,29,14,24,3,30,22,20,15,25,17,4,8,31,27,13,23,21,19,16,7,26,12,18,6,11,5,10,9]
def ZqX:List Int:=[0,1,56,2,57,49,28,3,61,58,42,50,38,29,17,4,62,47,59,36,45,43,51,22,53,39,33,30,24,18,12,5,63,55,48,27,60,41,37,16,46,35,44,21,52,32,23,11,54,26,40,15,34,20,31,10,25,14,19,9,13,8,7,6]
def errCell (s:List UInt8):Cell:=.ifc 311 true [.ro [.str s] 0]
def ZiU:List UInt8:=[105,110,118,97,108,105,100,32,115,121,110,116,97,120]
def Znx:List UInt8:=[118,97,108,117,101,32,111,117,116,32,111,102,32,114,97,110,103,101]
def gl5:Nat→List Cell
 | 0=>[errCell ZiU]
 | 1=>[errCell Znx]
 | 2=>tabOf .u64 pow10Tab
 | 3=>tabOf .u8 Zqq
 | 4=>tabOf .u8 ZqX
 | _=>[]
def gl0:Nat→List Cell
 | 0=>[errCell ZiU]
 | 1=>[errCell Znx]
 | 2=>tabOf .u64 pow10Tab
 | _=>[]
def Zeo (f:Nat):Bool:=f == 149 || f == 223 || f == 244
def X:Zac:=fun f args objs=>match objs with
 | _::_=>Zcb Tc (fun _ _ _=>none) gl0 3 f args objs
 | []=>match args with
  | [.sc (.c (.str l))]=>bif f == 284 && Nat.ble l.length 281474976710656 then some (.sc (.c (.str l)),[]) else none
  | [.sc (.c (.sl []))]=>bif Zeo f then some (.sc (.full []),[]) else none
  | _=>Zcb Tc (fun _ _ _=>none) gl0 3 f args objs
abbrev ev (n:Nat)(f:FuncId)(args:List V)(objs:List Obj):Option (V × List Obj):=Zcb T X gl0 n f args objs
end Go.Vs.Tryz
namespace Go.Vs
open Go Go.RowKit
theorem ZiO {w w':World}{ω:Nat→Nat}{S:Nat→Prop}(hb:Below w.heap.size w w'):Keeps w ω S w' ω :=
 ⟨⟨fun b i hi v hv=>by
   obtain ⟨cs,t,fr,h⟩:=Zc1 hv
   have h':w'.heap[b]?=some (.cells cs t fr):=(hb.block b (Array.getElem?_eq_some_iff.1 h).1).trans h
   refine ⟨?_,hi⟩
   rw [Zay h',←Zay h]
   exact hv⟩,hb.size,fun b hbl _=>⟨hb.block b hbl,rfl⟩,hb.os,hb.tape,hb.output⟩
theorem ZdE {P:Program}{gl:Nat→List Cell}{f:FuncId}(h1:FnOk P gl f [.sc (.e0 true)] [] (.sc .nil) [])(h2:FnOk P gl f [.sc (.e0 false)] [] (.sc (.full [])) []) :
 FnOk P gl f [.sc (.c (.sl []))] [] (.sc (.full [])) []:=by
 refine ⟨h1.1,fun w ω β cargs hgl hargs hobj hinj => ?_⟩
 obtain ⟨l⟩:=cargs
 match l,hargs with
 | [],hargs=>simp [RVs] at hargs
 | v::_::_,hargs=>simp [RVs] at hargs
 | [v],hargs =>
  simp only [RVs,RV1,RW,RD,and_true] at hargs
  obtain ⟨base,cap,hv,_,hcap,_⟩:=hargs
  simp only [List.length_nil] at hv
  cases base with
  | none =>
   have hr:RVs w ω β (Lof []) [.sc (.e0 true)] [v]:=by
    simp only [RVs,RV1,RW,and_true]
    exact ⟨none,cap,hv,hcap,rfl⟩
   refine (h1.2 w ω β #[v] hgl hr hobj hinj).mono ?_
   rintro e w' ⟨vv,ω',β',he,hrv,hrest⟩
   refine ⟨vv,ω',β',he,?_,hrest⟩
   simp only [RV,RV1,RW] at hrv
   subst hrv
   simp only [RV,RV1,RW,RD]
   exact ⟨⟨none,0,rfl,by simp,by simp [Zaw],by simp⟩,none,0,rfl⟩
  | some a =>
   have hr:RVs w ω β (Lof []) [.sc (.e0 false)] [v]:=by
    simp only [RVs,RV1,RW,and_true]
    exact ⟨some a,cap,hv,hcap,rfl⟩
   exact h2.2 w ω β #[v] hgl hr hobj hinj
theorem FnOk.owned {P:Program}{gl:Nat→List Cell}{f:FuncId}{args:List V}{s:Nat}(hs:0<s)(h:FnOk P gl f args [] (.sc (.full [])) []):FnOk P gl f args [] (.sc (.arr 0 0)) [.arr s [] 0]:=by
 refine ⟨h.1,fun w ω β cargs hgl hargs hobj hinj=>(h.2 w ω β cargs hgl hargs hobj hinj).mono ?_⟩
 rintro e w' ⟨vv,ω',β',he,hrv,_,_,hk,_,_⟩
 simp only [RV,RV1,RW,RD] at hrv
 obtain ⟨⟨base,cap,h2,_⟩,base',n,h3⟩:=hrv
 have hv:vv=.slice base' 0 0:=by
  rw [h3] at h2 ⊢
  simp only [Value.slice.injEq,List.length_nil] at h2
  rw [h2.2.1]
 refine ⟨vv,ω',fun _=>none,he,?_,?_,?_,hk,?_,?_⟩
 ·simp only [RV,RV1,RW]
  exact ⟨s,[],0,rfl,by simp,⟨_,_,_,hv⟩,fun _=>.inr ⟨rfl,rfl,base',hv⟩⟩
 ·intro k o hko
  cases k with
  | zero =>
   have:Obj.arr s [] 0=o:=by simpa [Lof] using hko
   subst this
   exact ⟨hs,by simp,by simp,.inr ⟨rfl,rfl⟩⟩
  | succ k=>simp [Lof] at hko
 ·intro j k b _ _ hj
  cases hj
 ·intro k b _ hb
  cases hb
 ·intro k
  simp [Tr,Lof]
namespace Tryz
theorem ok202 {gl:Nat→List Cell}{l:List UInt8}(hl:l.length≤281474976710656):FnOk Go.Proofs.Tryz.prog gl 284 [.sc (.c (.str l))] [] (.sc (.c (.str l))) []:=by
 refine ⟨⟨_,Go.Proofs.Tryz.func284,by kernel_rfl,by kernel_rfl⟩,fun w ω β cargs hgl hargs hobj hinj => ?_⟩
 obtain ⟨l'⟩:=cargs
 match l',hargs with
 | [],hargs=>simp [RVs] at hargs
 | v::_::_,hargs=>simp [RVs] at hargs
 | [v],hargs =>
  simp only [RVs,RV1,RW,RD,and_true] at hargs
  obtain ⟨a,rfl,ha⟩:=hargs
  refine (Zn1 a w (by rw [Lib.size_eq,ha];exact hl)).mono ?_
  rintro e w' ⟨rfl,hb⟩
  refine ⟨_,ω,β,rfl,?_,fun k o hk=>by simp [Lof] at hk,fun j k b hj=>by simp [Lof] at hj,ZiO hb,fun k b hk=>by simp [Lof] at hk,fun k=>by simp [Tr,Lof]⟩
  simp only [RV,RV1,RW,RD]
  exact ⟨a,rfl,ha⟩
theorem Zpp:∀ (f:FuncId)(args:List V)(objs:List Obj)(rv:V)(objs':List Obj),(fun _ _ _=>none:Zac) f args objs=some (rv,objs')→FnOk Go.Proofs.Tryz.prog gl0 f args objs rv objs' :=
 fun _ _ _ _ _ h=>by cases h
theorem ZhD {n:Nat}{f:FuncId}{args:List V}{objs:List Obj}{rv:V}{objs':List Obj}(h:Zcb Tc (fun _ _ _=>none) gl0 n f args objs=some (rv,objs')):FnOk Go.Proofs.Tryz.prog gl0 f args objs rv objs' :=
 Zfk follows Tc_ok Zpp n h
theorem ZgZ {f:Nat}(h:Zeo f=true):FnOk Go.Proofs.Tryz.prog gl0 f [.sc (.c (.sl []))] [] (.sc (.full [])) []:=by
 have hf:f=149∨f=223∨f=244:=by
  simp only [Zeo,Bool.or_eq_true,beq_iff_eq] at h
  omega
 rcases hf with rfl|rfl|rfl
 ·exact ZdE (ZhD (n:=3) (by kernel_rfl)) (ZhD (n:=3) (by kernel_rfl))
 ·exact ZdE (ZhD (n:=3) (by kernel_rfl)) (ZhD (n:=3) (by kernel_rfl))
 ·exact ZdE (ZhD (n:=3) (by kernel_rfl)) (ZhD (n:=3) (by kernel_rfl))
theorem X_ok:∀ (f:FuncId)(args:List V)(objs:List Obj)(rv:V)(objs':List Obj),X f args objs=some (rv,objs')→FnOk Go.Proofs.Tryz.prog gl0 f args objs rv objs':=by
 intro f args objs rv objs' h
 unfold X at h
 split at h
 ·exact ZhD h
 ·split at h
  ·rename_i l
   cases hc:(f == 284 && Nat.ble l.length 281474976710656) with
   | false=>rw [hc] at h;cases h
   | true =>
    rw [hc] at h
    simp only [cond_true,Option.some.injEq,Prod.mk.injEq] at h
    simp only [Bool.and_eq_true,beq_iff_eq] at hc
    obtain ⟨rfl,rfl⟩:=h
    obtain ⟨rfl,hl⟩:=hc
    exact ok202 (Nat.le_of_ble_eq_true hl)
  ·cases hc:Zeo f with
   | false=>rw [hc] at h;cases h
   | true =>
    rw [hc] at h
    simp only [cond_true,Option.some.injEq,Prod.mk.injEq] at h
    obtain ⟨rfl,rfl⟩:=h
    exact ZgZ hc
  ·exact ZhD h
theorem ev_ok {n:Nat}{f:FuncId}{args:List V}{objs:List Obj}{rv:V}{objs':List Obj}(h:ev n f args objs=some (rv,objs')):FnOk Go.Proofs.Tryz.prog gl0 f args objs rv objs' :=
 Zfk follows T_ok X_ok n h
end Tryz
end Go.Vs
namespace Go.Vs.Tryz
open Go Go.Vs
def skip (f:Nat):Bool:=f == 11 || f == 25 || f == 81
def T2:FuncId→Option VFun:=fun f=>bif skip f then none else T f
theorem T2_ok:∀ f vf,T2 f=some vf→mFun Go.Proofs.Tryz.prog f vf=true:=by
 intro f vf h
 unfold T2 at h
 cases hs:skip f with
 | true=>rw [hs] at h;cases h
 | false=>rw [hs] at h;exact T_ok f vf h
def ZgR (f:Nat):Nat:=bif f == 223 then 14 else 1
theorem ZhO (f:Nat):0<ZgR f:=by
 unfold ZgR
 cases f == 223<;>decide
noncomputable def X1:Zac:=fun f args objs=>match objs with
 | _::_=>lim Tc (fun _ _ _=>none) gl0 f args objs
 | []=>match args with
  | [.sc (.c (.str l))]=>bif f == 284 && Nat.ble l.length 281474976710656 then some (.sc (.c (.str l)),[]) else none
  | [.sc (.c (.sl []))]=>bif f == 149 then some (.sc (.full []),[]) else bif Zeo f then some (.sc (.arr 0 0),[.arr (ZgR f) [] 0]) else none
  | _=>lim Tc (fun _ _ _=>none) gl0 f args objs
noncomputable def X2 (A:Zac):Zac:=fun f args objs=>bif skip f then A f args objs else X1 f args objs
theorem Zjy {f:FuncId}{args:List V}{objs:List Obj}{rv:V}{objs':List Obj}(h:lim Tc (fun _ _ _=>none) gl0 f args objs=some (rv,objs')):FnOk Go.Proofs.Tryz.prog gl0 f args objs rv objs':=by
 obtain ⟨n,h⟩:=Zju h
 exact Zg2 follows Tc_ok Zpp n h
theorem X2_ok {A:Zac}(hA:∀ f args objs rv objs',skip f=true→A f args objs=some (rv,objs')→FnOk Go.Proofs.Tryz.prog gl0 f args objs rv objs') :
 ∀ (f:FuncId) (args:List V) (objs:List Obj) (rv:V) (objs':List Obj),X2 A f args objs=some (rv,objs')→FnOk Go.Proofs.Tryz.prog gl0 f args objs rv objs':=by
 intro f args objs rv objs' h
 unfold X2 at h
 cases hs:skip f with
 | true=>rw [hs] at h;exact hA _ _ _ _ _ hs h
 | false =>
  rw [hs] at h
  simp only [cond_false] at h
  unfold X1 at h
  split at h
  ·exact Zjy h
  ·split at h
   ·rename_i l
    cases hc:(f == 284 && Nat.ble l.length 281474976710656) with
    | false=>rw [hc] at h;cases h
    | true =>
     rw [hc] at h
     simp only [cond_true,Option.some.injEq,Prod.mk.injEq] at h
     simp only [Bool.and_eq_true,beq_iff_eq] at hc
     obtain ⟨rfl,rfl⟩:=h
     obtain ⟨rfl,hl⟩:=hc
     exact ok202 (Nat.le_of_ble_eq_true hl)
   ·cases h140:f == 149 with
    | true =>
     rw [h140] at h
     simp only [cond_true,Option.some.injEq,Prod.mk.injEq] at h
     obtain ⟨rfl,rfl⟩:=h
     have:f=149:=by simpa using h140
     subst this
     exact ZgZ rfl
    | false =>
     rw [h140] at h
     simp only [cond_false] at h
     cases hc:Zeo f with
     | false=>rw [hc] at h;cases h
     | true =>
      rw [hc] at h
      simp only [cond_true,Option.some.injEq,Prod.mk.injEq] at h
      obtain ⟨rfl,rfl⟩:=h
      exact (ZgZ hc).owned (ZhO f)
   ·exact Zjy h
noncomputable def K (A:Zac):Ctx:=⟨lim T2 (X2 A) gl0,gl0⟩
noncomputable def Kc:Ctx:=⟨lim Tc (fun _ _ _=>none) gl0,gl0⟩
@[simp] theorem K_gl {A:Zac}:(K A).gl=gl0:=rfl
@[simp] theorem Kc_gl:Kc.gl=gl0:=rfl
theorem K_ok {A:Zac}(hA:∀ f args objs rv objs',skip f=true→A f args objs=some (rv,objs')→FnOk Go.Proofs.Tryz.prog gl0 f args objs rv objs')
 {f:FuncId} {args:List V} {objs:List Obj} {rv:V} {objs':List Obj} (h:(K A).call f args objs=some (rv,objs')):FnOk Go.Proofs.Tryz.prog gl0 f args objs rv objs':=by
 obtain ⟨n,h⟩:=Zju h
 exact Zg2 follows T2_ok (X2_ok hA) n h
variable {A:Zac}
theorem ZaW {f:FuncId}{vf:VFun}{args:List V}{objs:List Obj}{r:V × List Obj}(hT:T2 f=some vf)(hn:args.length=vf.nparams)(ho:objs.length≤64)
 (h:wp (K A) vf.body (ZeV vf.keep objs.length vf.results r) ⟨Za5 0 args,Za5 0 (objs.map some)⟩):(K A).call f args objs=some r:=ZjC hT hn ho h
theorem ZoW {f:FuncId}{vf:VFun}{args:List V}{objs:List Obj}{r:V × List Obj}(hT:Tc f=some vf)(hn:args.length=vf.nparams)(ho:objs.length≤64)
 (h:wp Kc vf.body (ZeV vf.keep objs.length vf.results r) ⟨Za5 0 args,Za5 0 (objs.map some)⟩):Kc.call f args objs=some r:=ZjC hT hn ho h
theorem Zkq {f:FuncId}(hs:skip f=false)(hT:T2 f=none){c:List Cell}{rows:List (List Cell)}:(K A).call f [.sc (.c (.sl (c::rows)))] []=Kc.call f [.sc (.c (.sl (c::rows)))] []:=by
 have h:X2 A f [.sc (.c (.sl (c::rows)))] []=Kc.call f [.sc (.c (.sl (c::rows)))] []:=by
  unfold X2
  rw [hs]
  rfl
 rw [←h]
 cases hx:X2 A f [.sc (.c (.sl (c::rows)))] [] with
 | some r=>exact Zof hT hx
 | none =>
  cases hk:(K A).call f [.sc (.c (.sl (c::rows)))] [] with
  | none=>rfl
  | some r =>
   obtain ⟨n,hn⟩:=Zju hk
   cases n with
   | zero=>cases hn
   | succ n =>
    simp only [ZbI,hT] at hn
    rw [hx] at hn
    cases hn
theorem Zm4:(K A).call 149 [.sc (.c (.sl []))] []=some (.sc (.full []),[]):=by
 refine Zof (by kernel_rfl) ?_
 simp only [X2,X1,show skip 149=false from rfl,cond_false,show (149 == 149)=true from rfl,cond_true]
theorem Zch (e:Exp)(h:e.kids.length+e.arms.length≤4294967296):(K A).call 46 [.ag (wc e.row)] []=some (.sc (.arr 0 e.children.length),[.arr 11 (wr (Exp.rows e.children)) 0]):=by
 refine ZaW (vf:=v46) (by kernel_rfl) rfl (by decide) ?_
 unfold v46
 simp (disch:=first|omega|(simp;done)|(simp;omega))
 refine ZaV (fun i=>⟨[(1,.sc (.ptr 64 0)),(3,.sc (.arr 320 (e.kids.length+i))),(4,.sc (.c (.int .i64 i)))],
  [(64,some (.box (wc e.row))),(320,some (.arr 11 (wr (Exp.rows (e.kids++(e.arms.map (·.2)).take i))) 0))]⟩) e.arms.length ?_ ?_ ?_
 ·simp
 ·intro i hi
  obtain ⟨x,hx⟩:=Zaa hi
  have hx':(e.arms.map (·.2))[i]?=some x.2:=by simp [hx]
  unfold ZrI
  simp (disch:=first|omega|(simp;done)|(simp;omega)) [hi,hx,ZaQ hx',Nat.add_assoc,-getElem?_pos]
 ·unfold ZrI
  have ht:(e.arms.map (·.2)).take e.arms.length=e.arms.map (·.2):=List.take_of_length_le (by simp)
  simp (disch:=first|omega|(simp;done)|(simp;omega)) [Exp.children,ht]
variable {A:Zac}
abbrev Zdo (l:List Str):V:=.sc (.c (.sl (Zaz l)))
abbrev strV (s:Str):V:=.sc (.c (.str s))
abbrev intV (n:Int):V:=.sc (.c (.int .i64 n))
abbrev ZaG (b:Bool):V:=.sc (.c (.bool b))
abbrev expV (e:Exp):V:=.ag (wc e.row)
@[simp] theorem wc_strRow (s:Str):wc (Zgg s)=[.c (.str s)]:=rfl
@[simp] theorem wc_intRow (n:Int):wc (ZcJ n)=[.c (.int .i64 n)]:=rfl
def Zbx (l:List Str)(s:Str):Nat:=l.findIdx (· == s)
theorem Zjl {l:List Str}{s:Str}{i:Nat}(h:i<Zbx l s):∃ x,l[i]?=some x∧¬x=s:=by
 have hlt:i<l.length:=Nat.lt_of_lt_of_le h List.findIdx_le_length
 refine ⟨l[i],List.getElem?_eq_getElem hlt,?_⟩
 have:=List.not_of_lt_findIdx h
 simpa using this
theorem Ze1 {l:List Str}{s:Str}(h:Zbx l s<l.length):l[Zbx l s]?=some s:=by
 have h1:=List.findIdx_getElem (w:=h)
 rw [List.getElem?_eq_getElem h]
 exact congrArg some (beq_iff_eq.1 h1)
theorem Zcm {l:List Str}{s:Str}:Zbx l s<l.length↔s∈l:=by
 unfold Zbx
 rw [List.findIdx_lt_length]
 simp
theorem ZoK (l:List Str)(s:Str):Zbx l s≤l.length:=List.findIdx_le_length
theorem few8 (l:List Int):(K A).call 12 [.sc (.c (.sl (l.map ZcJ)))] []=some (ZaG (decide (l.length≤60)),[]):=by
 refine ZaW (vf:=v12) (by kernel_rfl) rfl (by decide) ?_
 unfold v12
 simp
 omega
def ZbR:List Str→List Str→Nat
 | a::l,b::m=>if a=b then ZbR l m+1 else 0
 | _,_=>0
theorem Zid:∀ {l m:List Str}{i:Nat},i<ZbR l m→∃ x,l[i]?=some x∧m[i]?=some x
 | [],_,_,h=>by simp [ZbR] at h
 | _::_,[],_,h=>by simp [ZbR] at h
 | a::l,b::m,i,h=>by
  simp only [ZbR] at h
  split at h
  ·rename_i hab
   subst hab
   cases i with
   | zero=>exact ⟨a,rfl,rfl⟩
   | succ i=>simpa using Zid (l:=l) (m:=m) (i:=i) (by omega)
  ·omega
theorem ZhC:∀ (l m:List Str),ZbR l m≤l.length
 | [],_=>by simp [ZbR]
 | _::_,[]=>by simp [ZbR]
 | a::l,b::m=>by
  simp only [ZbR]
  split
  ·have:=ZhC l m
   simp only [List.length_cons];omega
  ·simp
theorem Zhz:∀ {l m:List Str},l.length=m.length→ZbR l m<l.length→∃ x y,l[ZbR l m]?=some x∧m[ZbR l m]?=some y∧x≠y
 | [],_,_,h=>by simp at h
 | _::_,[],h,_=>by simp at h
 | a::l,b::m,h,h2=>by
  simp only [ZbR] at h2 ⊢
  split
  ·rename_i hab
   rw [if_pos hab] at h2
   simpa using Zhz (l:=l) (m:=m) (by simpa using h) (by simpa using h2)
  ·rename_i hab
   exact ⟨a,b,rfl,rfl,hab⟩
theorem Ze8:∀ {l m:List Str},l.length=m.length→(ZbR l m=l.length↔l=m)
 | [],[],_=>by simp [ZbR]
 | [],_::_,h=>by simp at h
 | _::_,[],h=>by simp at h
 | a::l,b::m,h=>by
  simp only [ZbR]
  split
  ·rename_i hab
   have:=Ze8 (l:=l) (m:=m) (by simpa using h)
   simp [hab,this]
  ·rename_i hab
   simp [hab]
variable {A:Zac}
theorem ZlT {l:List Exp}(h:l≠[]):∃ c rows,Exp.rows l=c::rows:=by
 cases l with
 | nil=>exact absurd rfl h
 | cons e r=>exact ⟨e.row,Exp.rows r,by rw [Exp.rows]⟩
theorem ZqM (l:List Exp)(h:l≠[])(hl:l.length≤4294967296):(K A).call 149 [.sc (.c (.sl (Exp.rows l)))] []=some (.sc (.arr 0 l.length),[.arr 11 (wr (Exp.rows l)) 0]):=by
 obtain ⟨c,rows,hr⟩:=ZlT h
 have hlen:rows.length+1=l.length:=by
  have:=Exp.rows_len l
  rw [hr] at this
  simpa using this
 have hok:ZaM 11 (wr (c::rows))=true:=hr▸okRows_exp l
 rw [hr,Zkq (by kernel_rfl) (by kernel_rfl)]
 refine ZoW (vf:=v149) (by kernel_rfl) rfl (by decide) ?_
 unfold v149
 rw [wr_cons] at hok
 simp (disch:=first|omega|(simp;done)|(simp;omega)) [hok]
 omega
theorem ZfR (e:Exp)(h1:e.kids=[])(h2:e.arms=[]):(K A).call 99 [expV e] []=some (.sc (.full []),[]):=by
 refine ZaW (vf:=v99) (by kernel_rfl) rfl (by decide) ?_
 have hc:=Zm4 (A:=A)
 have hn:Exp.rows []=[]:=by rw [Exp.rows]
 unfold v99
 simp [h1,hn,hc]
 refine ZaV (fun i=>⟨[(3,.sc (.full [])),(10,.sc (.c (.sl (Exp.armRows e.arms)))),(11,intV e.arms.length),(12,intV i)],[(64,some (.box (wc e.row)))]⟩) 0 ?_ ?_ ?_
 ·simp
 ·intro i hi;omega
 ·unfold ZoT
  simp [h2]
theorem Zkx (e:Exp)(h:e.kids≠[])(hl:e.weight≤1073741824):(K A).call 99 [expV e] []=some (.sc (.arr 0 e.children.length),[.arr 11 (wr (Exp.rows e.children)) 0]):=by
 refine ZaW (vf:=v99) (by kernel_rfl) rfl (by decide) ?_
 have hk:=e.children_le
 rw [e.children_len] at hk
 have hc:=ZqM (A:=A) e.kids h (by omega)
 unfold v99
 simp [hc]
 refine ZaV (fun i=>⟨[(3,.sc (.arr 352 (e.kids.length+i))),(10,.sc (.c (.sl (Exp.armRows e.arms)))),(11,intV e.arms.length),(12,intV i)],
  [(64,some (.box (wc e.row))),(352,some (.arr 11 (wr (Exp.rows (e.kids++(e.arms.map (·.2)).take i))) 0))]⟩) e.arms.length ?_ ?_ ?_
 ·simp
 ·intro i hi
  obtain ⟨x,hx⟩:=Zaa hi
  have hx':(e.arms.map (·.2))[i]?=some x.2:=by simp [hx]
  unfold ZoT
  simp (disch:=first|omega|(simp;done)|(simp;omega)) [hi,hx,ZaQ hx',Nat.add_assoc,-getElem?_pos]
 ·unfold ZoT
  have ht:(e.arms.map (·.2)).take e.arms.length=e.arms.map (·.2):=List.take_of_length_le (by simp)
  simp (disch:=first|omega|(simp;done)|(simp;omega)) [Exp.children,ht]
abbrev pathV (i:Int):V:=.sc (.c (.sl [[.int .i64 i]]))
variable {A:Zac}
variable {A:Zac}
def ZhF (hidden out:List Str)(s:Str):List Str:=if s∈hidden∨s∈out then out else out++[s]
def ZjW (e:Exp)(out:List Str)(p:List Str × Nat):List Str:=p.1.foldl (ZhF (e.bound p.2)) out
def Zbw (e:Exp):List Str:=e.fold fun e l=>if e.kind=1 then [e.name] else l.zipIdx.foldl (ZjW e) []
theorem Ze3 (e:Exp):Zbw e=if e.kind=1 then [e.name] else (e.children.map Zbw).zipIdx.foldl (ZjW e) []:=Exp.fold_eq _ e
theorem Zdq {l:List Nat}{i:Nat}:(l.take i).sum≤l.sum:=by
 have:l.sum=(l.take i).sum+(l.drop i).sum:=by rw [←List.sum_append,List.take_append_drop]
 omega
theorem Zio {α:Type}{f g:α→Nat}:∀ {l:List α},(∀ x∈l,f x≤g x)→(l.map f).sum≤(l.map g).sum
 | [],_=>by simp
 | a::l,h=>by
  have h1:=h a (by simp)
  have h2:=Zio (l:=l) fun x hx=>h x (by simp [hx])
  simp only [List.map_cons,List.sum_cons]
  omega
def outP (e:Exp)(i:Nat):List Str:=((e.children.map Zbw).zipIdx.take i).foldl (ZjW e) []
theorem Zib {e x:Exp}{i:Nat}(hx:e.children[i]?=some x):outP e (i+1)=(Zbw x).foldl (ZhF (e.bound i)) (outP e i):=by
 have h:(e.children.map Zbw).zipIdx[i]?=some (Zbw x,i):=by simp [List.getElem?_zipIdx,hx]
 unfold outP
 rw [ZaQ h,List.foldl_append]
 rfl
theorem Zjv (e:Exp):outP e e.children.length=(e.children.map Zbw).zipIdx.foldl (ZjW e) []:=by
 unfold outP
 rw [List.take_of_length_le (by simp)]
variable {A:Zac}
def Zpu (e:Exp)(bound out:List Str):List Str:=if e.kind=1∧e.name∉bound∧e.name∉out then out++[e.name] else out
def stepR (e:Exp)(bound:List Str)(out:List Str)(p:(List Str→List Str→List Str) × Nat):List Str:=p.1 (bound++e.bound p.2) out
def freeR (e:Exp):List Str→List Str→List Str:=e.fold fun e l bound out=>l.zipIdx.foldl (stepR e bound) (Zpu e bound out)
def outR (e:Exp)(bound out:List Str)(i:Nat):List Str:=((e.children.map freeR).zipIdx.take i).foldl (stepR e bound) (Zpu e bound out)
theorem Zkz {b out:List Str}{s t:Str}:t∈ZhF b out s↔t∈out∨(t=s∧s∉b):=by
 unfold ZhF
 split
 ·rename_i h
  constructor
  ·exact .inl
  ·rintro (h1|⟨rfl,h1⟩)
   ·exact h1
   ·exact h.resolve_left h1
 ·rename_i h
  have:s∉b:=fun h1=>h (.inl h1)
  simp [this]
theorem ZdF {b:List Str}:∀ {l out:List Str}{t:Str},t∈l.foldl (ZhF b) out↔t∈out∨(t∈l∧t∉b)
 | [],out,t=>by simp
 | s::l,out,t=>by
  rw [List.foldl_cons,ZdF,Zkz,List.mem_cons]
  constructor
  ·rintro ((h|⟨rfl,h⟩)|⟨h1,h2⟩)
   ·exact .inl h
   ·exact .inr ⟨.inl rfl,h⟩
   ·exact .inr ⟨.inr h1,h2⟩
  ·rintro (h|⟨rfl|h1,h2⟩)
   ·exact .inl (.inl h)
   ·exact .inl (.inr ⟨rfl,h2⟩)
   ·exact .inr ⟨h1,h2⟩
variable {A:Zac}
theorem Zap {f:FuncId}{vf:VFun}{args:List V}{objs:List Obj}(P:V × List Obj→Prop)(hT:T2 f=some vf)(hn:args.length=vf.nparams)(ho:objs.length≤64)
 (h:wp (K A) vf.body (Zdy vf.keep objs.length vf.results P) ⟨Za5 0 args,Za5 0 (objs.map some)⟩):∃ r,P r∧(K A).call f args objs=some r:=Zp1 P hT hn ho h
def Zao (l:List Int):List (List Cell):=l.map ZcJ
@[simp] theorem intRows_len (l:List Int):(Zao l).length=l.length:=by simp [Zao]
@[simp] theorem intRows_get (l:List Int) (i:Nat):(Zao l)[i]?=(l[i]?).map ZcJ:=by simp [Zao]
@[simp] theorem cut_i (n:Int):cut (ZcJ n) 0 1=some [.int .i64 n]:=rfl
abbrev Zan (L:List Int)(I:Nat):Obj:=.box [.c (.sl (Zao L)),.c (.int .i64 I)]
abbrev Zal (ds:List DataD):V:=.sc (.c (.sl (Zah ds)))
abbrev tyV (t:Ty):V:=.ag (wc t.row)
theorem mod10 (a m:Int)(hm:0<m)(hb:m≤1073741824):∃ k:Nat,(k:Int)<m∧(K A).call 30 [intV a,intV m] []=some (intV k,[]):=by
 have h1:¬m<1:=by omega
 have h0:m≠0:=by omega
 have hlt:a.tmod m<m:=Int.tmod_lt_of_pos a (by omega)
 have hgt:-m<a.tmod m:=Int.lt_tmod_of_pos a (by omega)
 by_cases hneg:a.tmod m<0
 ·refine ⟨(a.tmod m+m).toNat,by omega,?_⟩
  have hw:((a.tmod m+m).toNat:Int)=a.tmod m+m:=by omega
  rw [hw]
  refine ZaW (vf:=v30) (by kernel_rfl) rfl (by simp) ?_
  unfold v30
  simp (disch:=first|omega|(simp;done)|(simp;omega)) [h1,h0,hneg]
 ·refine ⟨(a.tmod m).toNat,by omega,?_⟩
  have hw:((a.tmod m).toNat:Int)=a.tmod m:=by omega
  rw [hw]
  refine ZaW (vf:=v30) (by kernel_rfl) rfl (by simp) ?_
  unfold v30
  simp (disch:=first|omega|(simp;done)|(simp;omega)) [h1,h0,hneg]
theorem ZaL (L:List Int)(I:Nat)(n:Int)(hI:I≤L.length)(hL:L.length≤1073741824)(hn:0<n)(hb:n≤1073741824) :
 ∃ k J:Nat,(k:Int)<n∧J≤L.length∧(K A).call 62 [.sc (.ptr 0 0),intV n] [Zan L I]=some (intV k,[Zan L J]):=by
 by_cases h:I<L.length
 ·obtain ⟨a,ha⟩:=Zaa h
  obtain ⟨k,hk,hc⟩:=mod10 (A:=A) a n hn hb
  refine ⟨k,I+1,hk,h,?_⟩
  refine ZaW (vf:=v62) (by kernel_rfl) rfl (by simp) ?_
  have h1:¬L.length≤I:=by omega
  unfold v62
  simp (disch:=first|omega|(simp;done)|(simp;omega)) [h1,ha,hc,-getElem?_pos]
 ·refine ⟨0,I,hn,hI,?_⟩
  refine ZaW (vf:=v62) (by kernel_rfl) rfl (by simp) ?_
  have h1:L.length≤I:=by omega
  unfold v62
  simp (disch:=first|omega|(simp;done)|(simp;omega)) [h1,-getElem?_pos]
def Zbe:List Str:=[[120],[121],[122],[102],[103],[118,49],[118,50],[105,100]]
theorem ZbG (L:List Int)(I:Nat)(hI:I≤L.length)(hL:L.length≤1073741824) :
 ∃ s J,s∈Zbe∧J≤L.length∧(K A).call 82 [.sc (.ptr 0 0)] [Zan L I]=some (strV s,[Zan L J]):=by
 obtain ⟨k,J,hk,hJ,hc⟩:=ZaL (A:=A) L I 8 hI hL (by omega) (by omega)
 obtain ⟨s,hs⟩:=Zaa (l:=Zbe) (i:=k) (by simp only [Zbe,List.length_cons,List.length_nil];omega)
 refine ⟨s,J,List.mem_of_getElem? hs,hJ,?_⟩
 refine ZaW (vf:=v82) (by kernel_rfl) rfl (by simp) ?_
 have hr:(wr (Zaz Zbe))[k]?=some [.c (.str s)]:=by simp [hs]
 have hw:wr (Zaz Zbe)=[[.c (.str [120])],[.c (.str [121])],[.c (.str [122])],[.c (.str [102])],[.c (.str [103])],[.c (.str [118,49])],[.c (.str [118,50])],[.c (.str [105,100])]]:=rfl
 rw [hw] at hr
 unfold v82
 simp (disch:=first|omega|(simp;done)|(simp;omega)) [hc,hr,-getElem?_pos]
theorem ZiP (s:Str)(l:List Ty)(hl:l.length≤1073741824):(K A).call 90 [strV s,.sc (.c (.sl (Ty.rows l)))] []=some (tyV (.mk 4 s 0 0 l),[]):=by
 refine ZaW (vf:=v90) (by kernel_rfl) rfl (by simp) ?_
 unfold v90
 cases l with
 | nil =>
  have hn:Ty.rows []=[]:=by rw [Ty.rows]
  simp (disch:=first|omega|(simp;done)|(simp;omega)) [hn,Ty.row]
 | cons t l =>
  have hn:Ty.rows (t::l)=t.row::Ty.rows l:=by rw [Ty.rows]
  have hok:=okRows_ty (t::l)
  rw [hn,wr_cons] at hok
  simp only [List.length_cons] at hl
  simp (disch:=first|omega|(simp;done)|(simp;omega)) [hn,hok,Ty.row]
theorem Zf2:(K A).call 69 [] []=some (tyV (.mk 4 [73,110,116] 0 0 []),[]):=by
 refine ZaW (vf:=v69) (by kernel_rfl) rfl (by simp) ?_
 have hn:Ty.rows []=[]:=by rw [Ty.rows]
 have h:=ZiP (A:=A) [73,110,116] [] (by simp)
 simp [hn] at h
 unfold v69
 simp (disch:=first|omega|(simp;done)|(simp;omega)) [h]
theorem Zep (a b:Ty):(K A).call 85 [tyV a,tyV b] []=some (tyV (.mk 4 [45,62] 0 0 [a,b]),[]):=by
 refine ZaW (vf:=v85) (by kernel_rfl) rfl (by simp) ?_
 have hn:Ty.rows [a,b]=[a.row,b.row]:=by simp [Ty.rows]
 have h:=ZiP (A:=A) [45,62] [a,b] (by simp)
 rw [hn] at h
 unfold v85
 simp (disch:=first|omega|(simp;done)|(simp;omega)) [h]
def Zko (d:DataD):Prop:=d.params.length≤4∧1≤d.cons.length∧d.cons.length≤6∧∀ c∈d.cons,c.fields.length≤4
def Zdz (ds:List DataD):Prop:=ds.length≤100∧∀ d∈ds,Zko d
def TypeP (L:List Int)(r:V × List Obj):Prop:=∃ t J,J≤L.length∧r=(tyV t,[Zan L J])
def TypeI (L:List Int)(ds:List DataD)(dd:DataD)(d i:Nat)(s:St):Prop:=∃ tys J,tys.length=i∧J≤L.length ∧
 s=⟨[(0,.sc (.ptr 0 0)),(1,Zal ds),(2,.sc (.c (.sl []))),(3,intV (d+1)),(8,.sc (.ptr 64 0)),(10,.sc (.ptr 3392 0)),(11,.sc (.arr 3521 i)),(12,intV i)],
  [(0,some (Zan L J)),(64,some (.box [zi,zs,zi,zi,.nil])),(3392,some (.box (wc (Zau dd)))),(3521,some (.arr 5 (wr (Ty.rows tys)) 0))]⟩
variable {A:Zac}
def tz:Ty:=.mk 0 [] 0 0 []
@[simp] theorem strRows0:Zaz []=[]:=rfl
@[simp] theorem rows0:Exp.rows []=[]:=by rw [Exp.rows]
@[simp] theorem rows1 (x:Exp):Exp.rows [x]=[x.row]:=by rw [Exp.rows,Exp.rows]
@[simp] theorem rows2 (x y:Exp):Exp.rows [x,y]=[x.row,y.row]:=by rw [Exp.rows,Exp.rows,Exp.rows]
@[simp] theorem armRows0:Exp.armRows []=[]:=by rw [Exp.armRows]
@[simp] theorem tyRows0:Ty.rows []=[]:=by rw [Ty.rows]
def RawP (L:List Int)(B:Nat)(r:V × List Obj):Prop:=∃ e J,e.wf∧e.weight≤B∧J≤L.length∧r=(expV e,[Zan L J])
theorem ZaX (k p n m ks l t):(Exp.mk k p n m ks l t).weight=1+(l.map fun a=>a.1.vars.length).sum+((ks.map Exp.weight).sum+(l.map fun a=>a.2.weight).sum):=by
 rw [Exp.weight_eq]
 simp [Exp.children,Exp.arms,Exp.kids,List.map_map,Function.comp_def]
def ArmI (L:List Int)(ds:List DataD)(dd:DataD)(x:Exp)(B d i:Nat)(s:St):Prop:=∃ arms J,arms.length=i∧J≤L.length∧(∀ a∈arms,a.2.wf∧a.2.weight≤B∧a.1.vars.length≤4) ∧
 s=⟨[(0,.sc (.ptr 0 0)),(1,Zal ds),(2,intV (d+1)),(6,.sc (.ptr 64 0)),(13,.sc (.ptr 10176 0)),(14,.sc (.ptr 10752 0)),(15,intV i)],
  [(0,some (Zan L J)),(64,some (.box [zi,zi,zs,zi,.nil,.nil,zi,zs,zi,zi,.nil])),(10176,some (.box (wc (Zau dd)))),(10624,some (.arr 11 [wc x.row] 0)),
    (10752,some (.box [.c (.int .i64 8),zi,zs,zi,.arr 10624 1,.arr 10822 i,zi,zs,zi,zi,.nil])),(10822,some (.arr 14 (wr (Exp.armRows arms)) 0))]⟩
def VarI (L:List Int)(ds:List DataD)(dd:DataD)(x:Exp)(arms:List (ArmH × Exp))(con:Str)(d i j:Nat)(s:St):Prop:=∃ vars J,vars.length=j∧J≤L.length ∧
 s=⟨[(0,.sc (.ptr 0 0)),(1,Zal ds),(2,intV (d+1)),(6,.sc (.ptr 64 0)),(13,.sc (.ptr 10176 0)),(14,.sc (.ptr 10752 0)),(15,intV i),(16,.sc (.ptr 11712 0)),(17,intV j)],
  [(0,some (Zan L J)),(64,some (.box [zi,zi,zs,zi,.nil,.nil,zi,zs,zi,zi,.nil])),(10176,some (.box (wc (Zau dd)))),(10624,some (.arr 11 [wc x.row] 0)),
    (10752,some (.box [.c (.int .i64 8),zi,zs,zi,.arr 10624 1,.arr 10822 i,zi,zs,zi,zi,.nil])),(10822,some (.arr 14 (wr (Exp.armRows arms)) 0)),
    (11712,some (.box [zi,.c (.str con),.arr 11779 j,zi,zi,zs,zi,.nil,.nil,zi,zs,zi,zi,.nil])),(11779,some (.arr 1 (wr (Zaz vars)) 0))]⟩
theorem Zna {C:Ctx}{a b c:VCode}{Q:Ex→St→Prop}{s:St}(s1:St)(h1:wp C a (fun e s=>e=.normal∧s=s1) s)(h2:wp C (.seq b c) Q s1):wp C (.seq (.seq a b) c) Q s:=by
 rw [wp_seq,wp_seq]
 refine wp_mono h1 ?_
 rintro e s' ⟨rfl,rfl⟩
 simp only [Zcv]
 rw [wp_seq] at h2
 exact h2
end Go.Vs.Tryz
