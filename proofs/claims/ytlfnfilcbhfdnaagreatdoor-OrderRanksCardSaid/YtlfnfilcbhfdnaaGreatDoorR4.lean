/- The tables. (Parts of one proof, put together.) -/
import Derived.Test.YtlfnfilcbhfdnaaGreatDoorB1
import Derived.Test.YtlfnfilcbhfdnaaGreatDoorR2
import Derived.Test.YtlfnfilcbhfdnaaGreatDoorR3
import Derived.Test.YtlfnfilcbhfdnaaGreatDoorProg
import Derived.Test.YtlfnfilcbhfdnaaGreatDoorM3
import Derived.Lib.Strings
import Derived.Lib.Walk
import Derived.Lib.BufferWrite
import Derived.Lib.UnsafeStr
import Derived.Lib.Hide
import Derived.Laws.MakeOwn
import Derived.WalkKit
import Derived.KernelRfl
set_option linter.unusedSimpArgs false
set_option linter.unusedVariables false
set_option linter.deprecated false

/- The tables. -/
namespace Go.Vs.Tryz
open Go Go.Vs

def tab : List (Nat × VFun) := [(3, v3), (4, v4), (5, v5), (6, v6), (7, v7), (8, v8), (9, v9), (10, v10), (11, v11), (12, v12), (13, v13), (14, v14), (15, v15), (16, v16), (17, v17), (19, v19), (20, v20), (18, v18), (21, v21), (22, v22), (23, v23), (24, v24), (25, v25), (26, v26), (27, v27), (29, v29), (28, v28), (30, v30), (31, v31), (32, v32), (33, v33), (34, v34), (36, v36), (37, v37), (35, v35), (38, v38), (39, v39), (40, v40), (41, v41), (42, v42), (43, v43), (44, v44), (45, v45), (46, v46), (48, v48), (47, v47), (49, v49), (50, v50), (51, v51), (52, v52), (53, v53), (54, v54), (55, v55), (56, v56), (57, v57), (58, v58), (59, v59), (60, v60), (61, v61), (62, v62), (63, v63), (64, v64), (65, v65), (66, v66), (68, v68), (69, v69), (74, v74), (73, v73), (75, v75), (77, v77), (76, v76), (78, v78), (79, v79), (80, v80), (81, v81), (82, v82), (84, v84), (83, v83), (85, v85), (86, v86), (87, v87), (89, v89), (90, v90), (91, v91), (92, v92), (93, v93), (95, v95), (94, v94), (97, v97), (99, v99), (98, v98), (100, v100), (101, v101), (102, v102), (103, v103), (105, v105), (104, v104), (67, v67), (71, v71), (70, v70), (72, v72), (108, v108), (109, v109), (110, v110), (111, v111), (112, v112), (113, v113), (114, v114), (115, v115), (116, v116), (107, v107), (121, v121), (117, v117), (118, v118), (119, v119), (120, v120), (123, v123), (122, v122), (128, v128), (129, v129), (130, v130), (131, v131), (132, v132), (133, v133), (124, v124), (126, v126), (127, v127), (134, v134), (135, v135), (137, v137), (136, v136), (138, v138), (139, v139), (140, v140), (141, v141), (142, v142), (143, v143), (144, v144), (146, v146), (147, v147), (148, v148), (149, v149), (150, v150), (151, v151), (152, v152), (153, v153), (154, v154), (155, v155), (156, v156), (157, v157), (158, v158), (168, v168), (169, v169), (159, v159), (160, v160), (161, v161), (162, v162), (163, v163), (164, v164), (165, v165), (166, v166), (167, v167), (106, v106), (170, v170), (171, v171), (172, v172), (173, v173), (174, v174), (175, v175), (176, v176), (177, v177), (178, v178), (179, v179), (185, v185), (186, v186), (187, v187), (188, v188), (189, v189), (190, v190), (191, v191), (192, v192), (193, v193), (194, v194), (195, v195), (180, v180), (182, v182), (181, v181), (183, v183), (196, v196), (197, v197), (198, v198), (199, v199), (200, v200), (201, v201), (145, v145), (204, v204), (203, v203), (205, v205), (206, v206), (207, v207), (208, v208), (209, v209), (210, v210), (211, v211), (212, v212), (213, v213), (214, v214), (215, v215), (216, v216), (217, v217), (219, v219), (220, v220), (221, v221), (222, v222), (223, v223), (224, v224), (225, v225), (226, v226), (227, v227), (218, v218), (228, v228), (229, v229), (230, v230), (231, v231), (232, v232), (233, v233), (234, v234), (235, v235)]
def T : FuncId → Option VFun := get? tab

theorem T_ok : ∀ f vf, T f = some vf → mFun Go.Proofs.Tryz.prog f vf = true := AllT.get (l := tab) ⟨m3, m4, m5, m6, m7, m8, m9, m10, m11, m12, m13, m14, m15, m16, m17, m19, m20, m18, m21, m22, m23, m24, m25, m26, m27, m29, m28, m30, m31, m32, m33, m34, m36, m37, m35, m38, m39, m40, m41, m42, m43, m44, m45, m46, m48, m47, m49, m50, m51, m52, m53, m54, m55, m56, m57, m58, m59, m60, m61, m62, m63, m64, m65, m66, m68, m69, m74, m73, m75, m77, m76, m78, m79, m80, m81, m82, m84, m83, m85, m86, m87, m89, m90, m91, m92, m93, m95, m94, m97, m99, m98, m100, m101, m102, m103, m105, m104, m67, m71, m70, m72, m108, m109, m110, m111, m112, m113, m114, m115, m116, m107, m121, m117, m118, m119, m120, m123, m122, m128, m129, m130, m131, m132, m133, m124, m126, m127, m134, m135, m137, m136, m138, m139, m140, m141, m142, m143, m144, m146, m147, m148, m149, m150, m151, m152, m153, m154, m155, m156, m157, m158, m168, m169, m159, m160, m161, m162, m163, m164, m165, m166, m167, m106, m170, m171, m172, m173, m174, m175, m176, m177, m178, m179, m185, m186, m187, m188, m189, m190, m191, m192, m193, m194, m195, m180, m182, m181, m183, m196, m197, m198, m199, m200, m201, m145, m204, m203, m205, m206, m207, m208, m209, m210, m211, m212, m213, m214, m215, m216, m217, m219, m220, m221, m222, m223, m224, m225, m226, m227, m218, m228, m229, m230, m231, m232, m233, m234, m235, trivial⟩

def cab : List (Nat × VFun) := [(88, v88), (96, v96), (125, v125), (184, v184)]
def Tc : FuncId → Option VFun := get? cab

theorem Tc_ok : ∀ f vf, Tc f = some vf → mFun Go.Proofs.Tryz.prog f vf = true := AllT.get (l := cab) ⟨m88, m96, m125, m184, trivial⟩

theorem follows : Go.Proofs.Tryz.prog.follows .mixedOrders = true := by kernel_rfl

end Go.Vs.Tryz

/- The library's Clone of a string at this program: its contract, by a walk (lines of a worked proof of the kit, turned to this program). -/
namespace Go.Vs.Tryz
open Go Go.RowKit Go.Proofs Go.Vs

theorem info5 : (Go.Proofs.Tryz.prog.info? 5).map (fun i => (i.zero, i.size, i.bytes)) = some (some (Value.int IntKind.u8 0), 1, 1) := by kernel_rfl

theorem info_of5 : ∃ i0 : TypeInfo, Go.Proofs.Tryz.prog.info? 5 = some i0 ∧ i0.zero = some (.int .u8 0) ∧ i0.size = 1 ∧ i0.bytes = 1 := by
  have h := info5
  cases hi : Go.Proofs.Tryz.prog.info? 5 with
  | none => rw [hi] at h; cases h
  | some i =>
    rw [hi] at h
    simp only [Option.map_some, Option.some.injEq, Prod.mk.injEq] at h
    exact ⟨i, rfl, h.1, h.2.1, h.2.2⟩

set_option maxHeartbeats 4000000 in
set_option maxRecDepth 100000 in
theorem clone202 (s : ByteArray) (w : World) (hlim : s.size ≤ 281474976710656) :
    Calls Go.Proofs.Tryz.prog 202 #[.string s] w fun e w' => e = .returned (.string s) ∧ Below w.heap.size w w' := by
  by_cases h0 : s.size = 0
  · have hs : s = ⟨#[]⟩ := by
      apply ByteArray.ext
      exact Array.eq_empty_of_size_eq_zero h0
    subst hs
    go_enter Go.Proofs.Tryz.func202, Go.Proofs.Tryz.ntmps202
    go_wp2
    go_ret
    exact ⟨rfl, Below.refl _ _⟩
  · obtain ⟨i0, hi, hz0, hz1, hz2⟩ := info_of5
    have hinfo : (Go.Proofs.Tryz.prog.info? 5).map (·.size) = some 1 := by rw [hi]; simp [hz1]
    have hco : Go.Proofs.Tryz.prog.cellsOf 5 = 1 := by simp [Program.cellsOf, hi, hz1]
    obtain ⟨M, hM⟩ : ∃ M, M = madeCells (Value.int .u8 0).cells (((s.size : Nat) : Int).toNat * i0.size) := ⟨_, rfl⟩
    have hMs : M.size = s.size := by rw [hM, size_madeCells, hz1]; simp
    have hmk : ∀ W : World, (Instr.makeSlice 198 (.int .i64 (s.size : Int)) (.int .i64 (s.size : Int))).run Go.Proofs.Tryz.prog W = .ok (.slice (some ⟨W.heap.size, 0, none⟩) s.size s.size) (W.alloc (.cells M 5)) := fun W => by
      have h := run_make (P := Go.Proofs.Tryz.prog) W 198 5 i0 (.int .u8 0) Go.Proofs.Tryz.underlying198 hi hz0 .i64 .i64 (s.size : Int) (s.size : Int) (by omega) (by omega) (by rw [hz2]; omega) (by omega)
      rw [← hM] at h
      simpa using h
    clear hM
    have hcp := Lib.run_copy_row_string (P := Go.Proofs.Tryz.prog) (w.alloc (.cells M 5)) 198 9 3 5 w.heap.size 0 s.size s.size s M 5 Go.Proofs.Tryz.underlying198 hinfo (heap_alloc_new w _) (Nat.le_refl _) (by omega)
    obtain ⟨Y, hY⟩ : ∃ Y, Y = (M.toList.take 0 ++ Lib.byteCells s.data.toList ++ M.toList.drop (0 + s.size)).toArray := ⟨_, rfl⟩
    rw [← hY] at hcp
    have hYl : Y.toList = Lib.byteCells s.data.toList := by
      rw [hY, List.toList_toArray, List.take_zero, List.nil_append, List.drop_of_length_le (by rw [Array.length_toList]; omega), List.append_nil]
    have hYs : Y.size = s.size := by rw [← Array.length_toList, hYl, Lib.byteCells_length, ← Lib.size_eq]
    have hgY : ((w.alloc (.cells M 5)).setRow w.heap.size Y).heap[w.heap.size]? = some (.cells Y 5 (0, 0)) := setRow_heap _ _ M _ 5 (0, 0) (heap_alloc_new w _)
    have hne : s.data.toList ≠ [] := fun e => h0 (by rw [Lib.size_eq, e]; rfl)
    have hUS := Lib.run_unsafeString_row (P := Go.Proofs.Tryz.prog) ((w.alloc (.cells M 5)).setRow w.heap.size Y) 256 3 9 5 Go.Proofs.Tryz.underlying256 hco w.heap.size Y.size (by unfold World.shape?; rw [hgY]) s.data.toList hne (by rw [← Lib.size_eq]; omega) (by rw [← Lib.size_eq]; omega)
      (fun j x hx => Lib.cells_of_row hgY Y.size j _ (by rw [List.take_of_length_le (by rw [Array.length_toList]; exact Nat.le_refl _), hYl]; simp [Lib.byteCells, hx]))
    rw [← Lib.size_eq] at hUS
    clear hY
    go_enter Go.Proofs.Tryz.func202, Go.Proofs.Tryz.ntmps202
    go_wp2
    go_ret
    have hb1 : Below w.heap.size w (w.alloc (.cells M 5)) := (Below.refl _ w).alloc (Nat.le_refl _) _
    have hb2 : Below w.heap.size (w.alloc (.cells M 5)) ((w.alloc (.cells M 5)).setRow w.heap.size Y) := ⟨rfl, rfl, rfl, by simp, fun k hk => setRow_other _ _ _ _ (by omega)⟩
    exact ⟨rfl, Lib.below_freeze (hb1.trans hb2) (p := ⟨w.heap.size, 0, none⟩) (Nat.le_refl _) _⟩
end Go.Vs.Tryz

/- The oracle beside the tables: the library's Clone of strings, and Clone of empty slices; the package-level variables; the examples of the two chapters. -/
namespace Go.Vs.Tryz
open Go Go.Vs Go.RowKit

def tabOf (k : IntKind) (l : List Int) : List Cell := l.map fun n => .int k n
def pow10Tab : List Int := [1, 10, 100, 1000, 10000, 100000, 1000000, 10000000, 100000000, 1000000000, 10000000000, 100000000000, 1000000000000, 10000000000000, 100000000000000, 1000000000000000, 10000000000000000, 100000000000000000, 1000000000000000000, 10000000000000000000]
def de32Tab : List Int := [0, 1, 28, 2, 29, 14, 24, 3, 30, 22, 20, 15, 25, 17, 4, 8, 31, 27, 13, 23, 21, 19, 16, 7, 26, 12, 18, 6, 11, 5, 10, 9]
def de64Tab : List Int := [0, 1, 56, 2, 57, 49, 28, 3, 61, 58, 42, 50, 38, 29, 17, 4, 62, 47, 59, 36, 45, 43, 51, 22, 53, 39, 33, 30, 24, 18, 12, 5, 63, 55, 48, 27, 60, 41, 37, 16, 46, 35, 44, 21, 52, 32, 23, 11, 54, 26, 40, 15, 34, 20, 31, 10, 25, 14, 19, 9, 13, 8, 7, 6]
def errCell (s : List UInt8) : Cell := .ifc 257 true [.ro [.str s] 0]
def synText : List UInt8 := [105, 110, 118, 97, 108, 105, 100, 32, 115, 121, 110, 116, 97, 120]
def rngText : List UInt8 := [118, 97, 108, 117, 101, 32, 111, 117, 116, 32, 111, 102, 32, 114, 97, 110, 103, 101]

/-- What the package-level variables hold. -/
def gl5 : Nat → List Cell
  | 0 => [errCell synText]
  | 1 => [errCell rngText]
  | 2 => tabOf .u64 pow10Tab
  | 3 => tabOf .u8 de32Tab
  | 4 => tabOf .u8 de64Tab
  | _ => []
/-- Those of them that are read. -/
def gl0 : Nat → List Cell
  | 0 => [errCell synText]
  | 1 => [errCell rngText]
  | _ => []

def isClone (f : Nat) : Bool := f == 88 || f == 96
def isClone2 (f : Nat) : Bool := f == 125 || f == 184

def X : Oracle := fun f args objs => match objs with
  | _ :: _ => evalFn Tc (fun _ _ _ => none) gl0 3 f args objs
  | [] => match args with
    | [.sc (.c (.str l))] => bif f == 202 && Nat.ble l.length 281474976710656 then some (.sc (.c (.str l)), []) else none
    | [.sc (.c (.sl []))] => bif isClone f then some (.sc (.full []), []) else bif isClone2 f then some (.sc (.c (.sl [])), []) else none
    | _ => evalFn Tc (fun _ _ _ => none) gl0 3 f args objs

abbrev ev (n : Nat) (f : FuncId) (args : List V) (objs : List Obj) : Option (V × List Obj) := evalFn T X gl0 n f args objs

end Go.Vs.Tryz

/- The oracle beside the tables is sound. -/
namespace Go.Vs
open Go Go.RowKit

theorem keeps_below {w w' : World} {ω : Nat → Nat} {S : Nat → Prop} (hb : Below w.heap.size w w') : Keeps w ω S w' ω :=
  ⟨⟨fun b i hi v hv => by
    obtain ⟨cs, t, fr, h⟩ := cells_of_at hv
    have h' : w'.heap[b]? = some (.cells cs t fr) := (hb.block b (Array.getElem?_eq_some_iff.1 h).1).trans h
    refine ⟨?_, hi⟩
    rw [at?_block h', ← at?_block h]
    exact hv⟩, hb.size, fun b hbl _ => ⟨hb.block b hbl, rfl⟩, hb.os, hb.tape, hb.output⟩

theorem clone_empty {P : Program} {gl : Nat → List Cell} {f : FuncId} (h1 : FnOk P gl f [.sc (.e0 true)] [] (.sc .nil) []) (h2 : FnOk P gl f [.sc (.e0 false)] [] (.sc (.full [])) []) :
    FnOk P gl f [.sc (.c (.sl []))] [] (.sc (.full [])) [] := by
  refine ⟨h1.1, fun w ω β cargs hgl hargs hobj hinj => ?_⟩
  obtain ⟨l⟩ := cargs
  match l, hargs with
  | [], hargs => simp [RVs] at hargs
  | v :: _ :: _, hargs => simp [RVs] at hargs
  | [v], hargs =>
    simp only [RVs, RV1, RW, RD, and_true] at hargs
    obtain ⟨base, cap, hv, _, hcap, _⟩ := hargs
    simp only [List.length_nil] at hv
    cases base with
    | none =>
      have hr : RVs w ω β (Lof []) [.sc (.e0 true)] [v] := by
        simp only [RVs, RV1, RW, and_true]
        exact ⟨none, cap, hv, hcap, rfl⟩
      refine (h1.2 w ω β #[v] hgl hr hobj hinj).mono ?_
      rintro e w' ⟨vv, ω', β', he, hrv, hrest⟩
      refine ⟨vv, ω', β', he, ?_, hrest⟩
      simp only [RV, RV1, RW] at hrv
      subst hrv
      simp only [RV, RV1, RW, RD]
      exact ⟨⟨none, 0, rfl, by simp, by simp [maxRows], by simp⟩, none, 0, rfl⟩
    | some a =>
      have hr : RVs w ω β (Lof []) [.sc (.e0 false)] [v] := by
        simp only [RVs, RV1, RW, and_true]
        exact ⟨some a, cap, hv, hcap, rfl⟩
      exact h2.2 w ω β #[v] hgl hr hobj hinj

theorem clone_both {P : Program} {gl : Nat → List Cell} {f : FuncId} (h1 : FnOk P gl f [.sc (.e0 true)] [] (.sc (.c (.sl []))) []) (h2 : FnOk P gl f [.sc (.e0 false)] [] (.sc (.full [])) []) :
    FnOk P gl f [.sc (.c (.sl []))] [] (.sc (.c (.sl []))) [] := by
  refine ⟨h1.1, fun w ω β cargs hgl hargs hobj hinj => ?_⟩
  obtain ⟨l⟩ := cargs
  match l, hargs with
  | [], hargs => simp [RVs] at hargs
  | v :: _ :: _, hargs => simp [RVs] at hargs
  | [v], hargs =>
    simp only [RVs, RV1, RW, RD, and_true] at hargs
    obtain ⟨base, cap, hv, _, hcap, _⟩ := hargs
    simp only [List.length_nil] at hv
    cases base with
    | none =>
      have hr : RVs w ω β (Lof []) [.sc (.e0 true)] [v] := by
        simp only [RVs, RV1, RW, and_true]
        exact ⟨none, cap, hv, hcap, rfl⟩
      exact h1.2 w ω β #[v] hgl hr hobj hinj
    | some a =>
      have hr : RVs w ω β (Lof []) [.sc (.e0 false)] [v] := by
        simp only [RVs, RV1, RW, and_true]
        exact ⟨some a, cap, hv, hcap, rfl⟩
      refine (h2.2 w ω β #[v] hgl hr hobj hinj).mono ?_
      rintro e w' ⟨vv, ω', β', he, hrv, hrest⟩
      refine ⟨vv, ω', β', he, ?_, hrest⟩
      simp only [RV, RV1, RW] at hrv ⊢
      exact hrv.1

namespace Tryz

theorem ok202 {gl : Nat → List Cell} {l : List UInt8} (hl : l.length ≤ 281474976710656) : FnOk Go.Proofs.Tryz.prog gl 202 [.sc (.c (.str l))] [] (.sc (.c (.str l))) [] := by
  refine ⟨⟨_, Go.Proofs.Tryz.func202, by kernel_rfl, by kernel_rfl⟩, fun w ω β cargs hgl hargs hobj hinj => ?_⟩
  obtain ⟨l'⟩ := cargs
  match l', hargs with
  | [], hargs => simp [RVs] at hargs
  | v :: _ :: _, hargs => simp [RVs] at hargs
  | [v], hargs =>
    simp only [RVs, RV1, RW, RD, and_true] at hargs
    obtain ⟨a, rfl, ha⟩ := hargs
    refine (clone202 a w (by rw [Lib.size_eq, ha]; exact hl)).mono ?_
    rintro e w' ⟨rfl, hb⟩
    refine ⟨_, ω, β, rfl, ?_, fun k o hk => by simp [Lof] at hk, fun j k b hj => by simp [Lof] at hj, keeps_below hb, fun k b hk => by simp [Lof] at hk, fun k => by simp [Tr, Lof]⟩
    simp only [RV, RV1, RW, RD]
    exact ⟨a, rfl, ha⟩

theorem X_none : ∀ (f : FuncId) (args : List V) (objs : List Obj) (rv : V) (objs' : List Obj), (fun _ _ _ => none : Oracle) f args objs = some (rv, objs') → FnOk Go.Proofs.Tryz.prog gl0 f args objs rv objs' :=
  fun _ _ _ _ _ h => by cases h

theorem Tc_fn {n : Nat} {f : FuncId} {args : List V} {objs : List Obj} {rv : V} {objs' : List Obj} (h : evalFn Tc (fun _ _ _ => none) gl0 n f args objs = some (rv, objs')) : FnOk Go.Proofs.Tryz.prog gl0 f args objs rv objs' :=
  evalFn_ok follows Tc_ok X_none n h

theorem clone_of {f : Nat} (h : isClone f = true) : FnOk Go.Proofs.Tryz.prog gl0 f [.sc (.c (.sl []))] [] (.sc (.full [])) [] := by
  have hf : f = 88 ∨ f = 96 := by
    simp only [isClone, Bool.or_eq_true, beq_iff_eq] at h
    omega
  rcases hf with rfl | rfl
  · exact clone_empty (Tc_fn (n := 3) (by kernel_rfl)) (Tc_fn (n := 3) (by kernel_rfl))
  · exact clone_empty (Tc_fn (n := 3) (by kernel_rfl)) (Tc_fn (n := 3) (by kernel_rfl))

theorem clone2_of {f : Nat} (h : isClone2 f = true) : FnOk Go.Proofs.Tryz.prog gl0 f [.sc (.c (.sl []))] [] (.sc (.c (.sl []))) [] := by
  have hf : f = 125 ∨ f = 184 := by
    simp only [isClone2, Bool.or_eq_true, beq_iff_eq] at h
    omega
  rcases hf with rfl | rfl
  · exact clone_both (Tc_fn (n := 3) (by kernel_rfl)) (Tc_fn (n := 3) (by kernel_rfl))
  · exact clone_both (Tc_fn (n := 3) (by kernel_rfl)) (Tc_fn (n := 3) (by kernel_rfl))

theorem X_ok : ∀ (f : FuncId) (args : List V) (objs : List Obj) (rv : V) (objs' : List Obj), X f args objs = some (rv, objs') → FnOk Go.Proofs.Tryz.prog gl0 f args objs rv objs' := by
  intro f args objs rv objs' h
  unfold X at h
  split at h
  · exact Tc_fn h
  · split at h
    · rename_i l
      cases hc : (f == 202 && Nat.ble l.length 281474976710656) with
      | false => rw [hc] at h; cases h
      | true =>
        rw [hc] at h
        simp only [cond_true, Option.some.injEq, Prod.mk.injEq] at h
        simp only [Bool.and_eq_true, beq_iff_eq] at hc
        obtain ⟨rfl, rfl⟩ := h
        obtain ⟨rfl, hl⟩ := hc
        exact ok202 (Nat.le_of_ble_eq_true hl)
    · cases hc : isClone f with
      | false =>
        rw [hc] at h
        simp only [cond_false] at h
        cases hc2 : isClone2 f with
        | false => rw [hc2] at h; cases h
        | true =>
          rw [hc2] at h
          simp only [cond_true, Option.some.injEq, Prod.mk.injEq] at h
          obtain ⟨rfl, rfl⟩ := h
          exact clone2_of hc2
      | true =>
        rw [hc] at h
        simp only [cond_true, Option.some.injEq, Prod.mk.injEq] at h
        obtain ⟨rfl, rfl⟩ := h
        exact clone_of hc
    · exact Tc_fn h

/-- What the evaluator says, the program does. -/
theorem ev_ok {n : Nat} {f : FuncId} {args : List V} {objs : List Obj} {rv : V} {objs' : List Obj} (h : ev n f args objs = some (rv, objs')) : FnOk Go.Proofs.Tryz.prog gl0 f args objs rv objs' :=
  evalFn_ok follows T_ok X_ok n h
end Tryz
end Go.Vs
