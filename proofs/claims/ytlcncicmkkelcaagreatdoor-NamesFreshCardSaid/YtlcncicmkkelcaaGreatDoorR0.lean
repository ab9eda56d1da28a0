/- The tables. (Parts of one proof, put together.) -/
import Derived.Test.YtlcncicmkkelcaaGreatDoorT1
import Derived.Test.YtlcncicmkkelcaaGreatDoorT2
import Derived.Test.YtlcncicmkkelcaaGreatDoorT3
import Derived.Test.YtlcncicmkkelcaaGreatDoorProg
import Derived.Test.YtlcncicmkkelcaaGreatDoorM4
import Derived.Lib.Strings
import Derived.Lib.Walk
import Derived.Lib.BufferWrite
import Derived.Lib.UnsafeStr
import Derived.Lib.Hide
import Derived.Laws.MakeOwn
import Derived.WalkKit
import Derived.KernelRfl
import Derived.Test.YtlcncicmkkelcaaGreatDoorM6
set_option linter.unusedSimpArgs false
set_option linter.unusedVariables false
set_option linter.deprecated false

/- The tables. -/
namespace Go.Vs.Tryz
open Go Go.Vs

def tab : List (Nat × VFun) := [(6, v6), (19, v19), (27, v27), (26, v26), (28, v28), (29, v29), (67, v67), (31, v31), (24, v24), (35, v35), (30, v30), (68, v68), (73, v73), (74, v74), (75, v75), (76, v76), (77, v77), (78, v78), (127, v127), (82, v82), (72, v72), (84, v84), (69, v69), (86, v86), (79, v79), (80, v80), (81, v81), (134, v134), (135, v135), (136, v136), (137, v137), (139, v139), (138, v138), (167, v167), (168, v168), (169, v169), (171, v171), (172, v172), (143, v143), (146, v146), (130, v130), (132, v132), (131, v131), (147, v147), (141, v141), (142, v142), (107, v107), (181, v181), (182, v182), (184, v184), (185, v185), (188, v188), (189, v189), (190, v190), (202, v202), (192, v192), (193, v193), (194, v194), (195, v195), (196, v196), (197, v197), (198, v198), (199, v199), (200, v200), (217, v217), (218, v218), (219, v219), (220, v220), (221, v221), (222, v222), (224, v224), (225, v225), (226, v226), (227, v227), (206, v206), (208, v208), (207, v207), (209, v209), (149, v149), (114, v114), (177, v177), (180, v180), (203, v203), (204, v204), (236, v236), (237, v237), (240, v240), (241, v241), (242, v242), (243, v243), (244, v244), (245, v245), (249, v249), (250, v250), (251, v251), (252, v252), (253, v253), (254, v254), (255, v255), (256, v256), (173, v173), (228, v228), (231, v231), (232, v232), (246, v246), (117, v117), (162, v162), (163, v163), (262, v262), (263, v263), (100, v100), (229, v229), (230, v230), (128, v128), (164, v164), (55, v55), (215, v215), (59, v59), (216, v216), (258, v258), (105, v105), (248, v248)]
def T : FuncId → Option VFun := get? tab

set_option maxRecDepth 100000 in
theorem T_ok : ∀ f vf, T f = some vf → mFun Go.Proofs.Tryz.prog f vf = true := AllT.get (l := tab) ⟨m6, m19, m27, m26, m28, m29, m67, m31, m24, m35, m30, m68, m73, m74, m75, m76, m77, m78, m127, m82, m72, m84, m69, m86, m79, m80, m81, m134, m135, m136, m137, m139, m138, m167, m168, m169, m171, m172, m143, m146, m130, m132, m131, m147, m141, m142, m107, m181, m182, m184, m185, m188, m189, m190, m202, m192, m193, m194, m195, m196, m197, m198, m199, m200, m217, m218, m219, m220, m221, m222, m224, m225, m226, m227, m206, m208, m207, m209, m149, m114, m177, m180, m203, m204, m236, m237, m240, m241, m242, m243, m244, m245, m249, m250, m251, m252, m253, m254, m255, m256, m173, m228, m231, m232, m246, m117, m162, m163, m262, m263, m100, m229, m230, m128, m164, m55, m215, m59, m216, m258, m105, m248, trivial⟩

def cab : List (Nat × VFun) := [(133, v133), (144, v144), (95, v95), (140, v140)]
def Tc : FuncId → Option VFun := get? cab

set_option maxRecDepth 100000 in
theorem Tc_ok : ∀ f vf, Tc f = some vf → mFun Go.Proofs.Tryz.prog f vf = true := AllT.get (l := cab) ⟨m133, m144, m95, m140, trivial⟩

theorem follows : Go.Proofs.Tryz.prog.follows .mixedOrders = true := by kernel_rfl

end Go.Vs.Tryz

/- The library's Clone of a string at this program: its contract, by a walk (lines of a worked proof of the kit, turned to this program). -/
namespace Go.Vs.Tryz
open Go Go.RowKit Go.Proofs Go.Vs

theorem info5 : (Go.Proofs.Tryz.prog.info? 5).map (fun i => (i.zero, i.size, i.bytes)) = some (some (Value.int IntKind.u8 0), 1, 1) := by kernel_rfl

theorem info_of5 : ∃ i0 : TypeInfo, Go.Proofs.Tryz.prog.info? 5 = some i0 ∧ i0.zero = some (.int .u8 0) ∧ i0.size = 1 ∧ i0.bytes = 1 := by
  have h := info5
  cases hi : Go.Proofs.Tryz.prog.info? 5 with
  | none => rw [hi] at h; cases h
  | some i =>
    rw [hi] at h
    simp only [Option.map_some, Option.some.injEq, Prod.mk.injEq] at h
    exact ⟨i, rfl, h.1, h.2.1, h.2.2⟩

set_option maxHeartbeats 4000000 in
set_option maxRecDepth 100000 in
theorem clone202 (s : ByteArray) (w : World) (hlim : s.size ≤ 281474976710656) :
    Calls Go.Proofs.Tryz.prog 233 #[.string s] w fun e w' => e = .returned (.string s) ∧ Below w.heap.size w w' := by
  by_cases h0 : s.size = 0
  · have hs : s = ⟨#[]⟩ := by
      apply ByteArray.ext
      exact Array.eq_empty_of_size_eq_zero h0
    subst hs
    go_enter Go.Proofs.Tryz.func233, Go.Proofs.Tryz.ntmps233
    go_wp2
    go_ret
    exact ⟨rfl, Below.refl _ _⟩
  · obtain ⟨i0, hi, hz0, hz1, hz2⟩ := info_of5
    have hinfo : (Go.Proofs.Tryz.prog.info? 5).map (·.size) = some 1 := by rw [hi]; simp [hz1]
    have hco : Go.Proofs.Tryz.prog.cellsOf 5 = 1 := by simp [Program.cellsOf, hi, hz1]
    obtain ⟨M, hM⟩ : ∃ M, M = madeCells (Value.int .u8 0).cells (((s.size : Nat) : Int).toNat * i0.size) := ⟨_, rfl⟩
    have hMs : M.size = s.size := by rw [hM, size_madeCells, hz1]; simp
    have hmk : ∀ W : World, (Instr.makeSlice 211 (.int .i64 (s.size : Int)) (.int .i64 (s.size : Int))).run Go.Proofs.Tryz.prog W = .ok (.slice (some ⟨W.heap.size, 0, none⟩) s.size s.size) (W.alloc (.cells M 5)) := fun W => by
      have h := run_make (P := Go.Proofs.Tryz.prog) W 211 5 i0 (.int .u8 0) Go.Proofs.Tryz.underlying211 hi hz0 .i64 .i64 (s.size : Int) (s.size : Int) (by omega) (by omega) (by rw [hz2]; omega) (by omega)
      rw [← hM] at h
      simpa using h
    clear hM
    have hcp := Lib.run_copy_row_string (P := Go.Proofs.Tryz.prog) (w.alloc (.cells M 5)) 211 9 3 5 w.heap.size 0 s.size s.size s M 5 Go.Proofs.Tryz.underlying211 hinfo (heap_alloc_new w _) (Nat.le_refl _) (by omega)
    obtain ⟨Y, hY⟩ : ∃ Y, Y = (M.toList.take 0 ++ Lib.byteCells s.data.toList ++ M.toList.drop (0 + s.size)).toArray := ⟨_, rfl⟩
    rw [← hY] at hcp
    have hYl : Y.toList = Lib.byteCells s.data.toList := by
      rw [hY, List.toList_toArray, List.take_zero, List.nil_append, List.drop_of_length_le (by rw [Array.length_toList]; omega), List.append_nil]
    have hYs : Y.size = s.size := by rw [← Array.length_toList, hYl, Lib.byteCells_length, ← Lib.size_eq]
    have hgY : ((w.alloc (.cells M 5)).setRow w.heap.size Y).heap[w.heap.size]? = some (.cells Y 5 (0, 0)) := setRow_heap _ _ M _ 5 (0, 0) (heap_alloc_new w _)
    have hne : s.data.toList ≠ [] := fun e => h0 (by rw [Lib.size_eq, e]; rfl)
    have hUS := Lib.run_unsafeString_row (P := Go.Proofs.Tryz.prog) ((w.alloc (.cells M 5)).setRow w.heap.size Y) 265 3 9 5 Go.Proofs.Tryz.underlying265 hco w.heap.size Y.size (by unfold World.shape?; rw [hgY]) s.data.toList hne (by rw [← Lib.size_eq]; omega) (by rw [← Lib.size_eq]; omega)
      (fun j x hx => Lib.cells_of_row hgY Y.size j _ (by rw [List.take_of_length_le (by rw [Array.length_toList]; exact Nat.le_refl _), hYl]; simp [Lib.byteCells, hx]))
    rw [← Lib.size_eq] at hUS
    clear hY
    go_enter Go.Proofs.Tryz.func233, Go.Proofs.Tryz.ntmps233
    go_wp2
    go_ret
    have hb1 : Below w.heap.size w (w.alloc (.cells M 5)) := (Below.refl _ w).alloc (Nat.le_refl _) _
    have hb2 : Below w.heap.size (w.alloc (.cells M 5)) ((w.alloc (.cells M 5)).setRow w.heap.size Y) := ⟨rfl, rfl, rfl, by simp, fun k hk => setRow_other _ _ _ _ (by omega)⟩
    exact ⟨rfl, Lib.below_freeze (hb1.trans hb2) (p := ⟨w.heap.size, 0, none⟩) (Nat.le_refl _) _⟩
end Go.Vs.Tryz

/- The oracle beside the tables: the library's Clone of strings, and Clone of empty slices; the package-level variables; the examples of the two chapters. -/
namespace Go.Vs.Tryz
open Go Go.Vs Go.RowKit

def tabOf (k : IntKind) (l : List Int) : List Cell := l.map fun n => .int k n
def pow10Tab : List Int := [1, 10, 100, 1000, 10000, 100000, 1000000, 10000000, 100000000, 1000000000, 10000000000, 100000000000, 1000000000000, 10000000000000, 100000000000000, 1000000000000000, 10000000000000000, 100000000000000000, 1000000000000000000, 10000000000000000000]
def de32Tab : List Int := [0, 1, 28, 2, 29, 14, 24, 3, 30, 22, 20, 15, 25, 17, 4, 8, 31, 27, 13, 23, 21, 19, 16, 7, 26, 12, 18, 6, 11, 5, 10, 9]
def de64Tab : List Int := [0, 1, 56, 2, 57, 49, 28, 3, 61, 58, 42, 50, 38, 29, 17, 4, 62, 47, 59, 36, 45, 43, 51, 22, 53, 39, 33, 30, 24, 18, 12, 5, 63, 55, 48, 27, 60, 41, 37, 16, 46, 35, 44, 21, 52, 32, 23, 11, 54, 26, 40, 15, 34, 20, 31, 10, 25, 14, 19, 9, 13, 8, 7, 6]
def errCell (s : List UInt8) : Cell := .ifc 266 true [.ro [.str s] 0]
def synText : List UInt8 := [105, 110, 118, 97, 108, 105, 100, 32, 115, 121, 110, 116, 97, 120]
def rngText : List UInt8 := [118, 97, 108, 117, 101, 32, 111, 117, 116, 32, 111, 102, 32, 114, 97, 110, 103, 101]

/-- What the package-level variables hold. -/
def gl5 : Nat → List Cell
  | 0 => [errCell synText]
  | 1 => [errCell rngText]
  | 2 => tabOf .u64 pow10Tab
  | 3 => tabOf .u8 de32Tab
  | 4 => tabOf .u8 de64Tab
  | _ => []
/-- Those of them that are read. -/
def gl0 : Nat → List Cell
  | 0 => [errCell synText]
  | 1 => [errCell rngText]
  | 2 => tabOf .u64 pow10Tab
  | _ => []

def isClone (f : Nat) : Bool := f == 140 || f == 133 || f == 144 || f == 95

def X : Oracle := fun f args objs => match objs with
  | _ :: _ => evalFn Tc (fun _ _ _ => none) gl0 3 f args objs
  | [] => match args with
    | [.sc (.c (.str l))] => bif f == 233 && Nat.ble l.length 281474976710656 then some (.sc (.c (.str l)), []) else none
    | [.sc (.c (.sl []))] => bif isClone f then some (.sc (.full []), []) else none
    | _ => evalFn Tc (fun _ _ _ => none) gl0 3 f args objs

abbrev ev (n : Nat) (f : FuncId) (args : List V) (objs : List Obj) : Option (V × List Obj) := evalFn T X gl0 n f args objs

end Go.Vs.Tryz

/- The oracle beside the tables is sound. -/
namespace Go.Vs
open Go Go.RowKit

theorem keeps_below {w w' : World} {ω : Nat → Nat} {S : Nat → Prop} (hb : Below w.heap.size w w') : Keeps w ω S w' ω :=
  ⟨⟨fun b i hi v hv => by
    obtain ⟨cs, t, fr, h⟩ := cells_of_at hv
    have h' : w'.heap[b]? = some (.cells cs t fr) := (hb.block b (Array.getElem?_eq_some_iff.1 h).1).trans h
    refine ⟨?_, hi⟩
    rw [at?_block h', ← at?_block h]
    exact hv⟩, hb.size, fun b hbl _ => ⟨hb.block b hbl, rfl⟩, hb.os, hb.tape, hb.output⟩

theorem clone_empty {P : Program} {gl : Nat → List Cell} {f : FuncId} (h1 : FnOk P gl f [.sc (.e0 true)] [] (.sc .nil) []) (h2 : FnOk P gl f [.sc (.e0 false)] [] (.sc (.full [])) []) :
    FnOk P gl f [.sc (.c (.sl []))] [] (.sc (.full [])) [] := by
  refine ⟨h1.1, fun w ω β cargs hgl hargs hobj hinj => ?_⟩
  obtain ⟨l⟩ := cargs
  match l, hargs with
  | [], hargs => simp [RVs] at hargs
  | v :: _ :: _, hargs => simp [RVs] at hargs
  | [v], hargs =>
    simp only [RVs, RV1, RW, RD, and_true] at hargs
    obtain ⟨base, cap, hv, _, hcap, _⟩ := hargs
    simp only [List.length_nil] at hv
    cases base with
    | none =>
      have hr : RVs w ω β (Lof []) [.sc (.e0 true)] [v] := by
        simp only [RVs, RV1, RW, and_true]
        exact ⟨none, cap, hv, hcap, rfl⟩
      refine (h1.2 w ω β #[v] hgl hr hobj hinj).mono ?_
      rintro e w' ⟨vv, ω', β', he, hrv, hrest⟩
      refine ⟨vv, ω', β', he, ?_, hrest⟩
      simp only [RV, RV1, RW] at hrv
      subst hrv
      simp only [RV, RV1, RW, RD]
      exact ⟨⟨none, 0, rfl, by simp, by simp [maxRows], by simp⟩, none, 0, rfl⟩
    | some a =>
      have hr : RVs w ω β (Lof []) [.sc (.e0 false)] [v] := by
        simp only [RVs, RV1, RW, and_true]
        exact ⟨some a, cap, hv, hcap, rfl⟩
      exact h2.2 w ω β #[v] hgl hr hobj hinj

/-- An empty slice without room is an array of one's own. -/
theorem FnOk.owned {P : Program} {gl : Nat → List Cell} {f : FuncId} {args : List V} {s : Nat} (hs : 0 < s) (h : FnOk P gl f args [] (.sc (.full [])) []) : FnOk P gl f args [] (.sc (.arr 0 0)) [.arr s [] 0] := by
  refine ⟨h.1, fun w ω β cargs hgl hargs hobj hinj => (h.2 w ω β cargs hgl hargs hobj hinj).mono ?_⟩
  rintro e w' ⟨vv, ω', β', he, hrv, _, _, hk, _, _⟩
  simp only [RV, RV1, RW, RD] at hrv
  obtain ⟨⟨base, cap, h2, _⟩, base', n, h3⟩ := hrv
  have hv : vv = .slice base' 0 0 := by
    rw [h3] at h2 ⊢
    simp only [Value.slice.injEq, List.length_nil] at h2
    rw [h2.2.1]
  refine ⟨vv, ω', fun _ => none, he, ?_, ?_, ?_, hk, ?_, ?_⟩
  · simp only [RV, RV1, RW]
    exact ⟨s, [], 0, rfl, by simp, ⟨_, _, _, hv⟩, fun _ => .inr ⟨rfl, rfl, base', hv⟩⟩
  · intro k o hko
    cases k with
    | zero =>
      have : Obj.arr s [] 0 = o := by simpa [Lof] using hko
      subst this
      exact ⟨hs, by simp, by simp, .inr ⟨rfl, rfl⟩⟩
    | succ k => simp [Lof] at hko
  · intro j k b _ _ hj
    cases hj
  · intro k b _ hb
    cases hb
  · intro k
    simp [Tr, Lof]

namespace Tryz

theorem ok202 {gl : Nat → List Cell} {l : List UInt8} (hl : l.length ≤ 281474976710656) : FnOk Go.Proofs.Tryz.prog gl 233 [.sc (.c (.str l))] [] (.sc (.c (.str l))) [] := by
  refine ⟨⟨_, Go.Proofs.Tryz.func233, by kernel_rfl, by kernel_rfl⟩, fun w ω β cargs hgl hargs hobj hinj => ?_⟩
  obtain ⟨l'⟩ := cargs
  match l', hargs with
  | [], hargs => simp [RVs] at hargs
  | v :: _ :: _, hargs => simp [RVs] at hargs
  | [v], hargs =>
    simp only [RVs, RV1, RW, RD, and_true] at hargs
    obtain ⟨a, rfl, ha⟩ := hargs
    refine (clone202 a w (by rw [Lib.size_eq, ha]; exact hl)).mono ?_
    rintro e w' ⟨rfl, hb⟩
    refine ⟨_, ω, β, rfl, ?_, fun k o hk => by simp [Lof] at hk, fun j k b hj => by simp [Lof] at hj, keeps_below hb, fun k b hk => by simp [Lof] at hk, fun k => by simp [Tr, Lof]⟩
    simp only [RV, RV1, RW, RD]
    exact ⟨a, rfl, ha⟩

theorem X_none : ∀ (f : FuncId) (args : List V) (objs : List Obj) (rv : V) (objs' : List Obj), (fun _ _ _ => none : Oracle) f args objs = some (rv, objs') → FnOk Go.Proofs.Tryz.prog gl0 f args objs rv objs' :=
  fun _ _ _ _ _ h => by cases h

theorem Tc_fn {n : Nat} {f : FuncId} {args : List V} {objs : List Obj} {rv : V} {objs' : List Obj} (h : evalFn Tc (fun _ _ _ => none) gl0 n f args objs = some (rv, objs')) : FnOk Go.Proofs.Tryz.prog gl0 f args objs rv objs' :=
  evalFn_ok follows Tc_ok X_none n h

theorem clone_of {f : Nat} (h : isClone f = true) : FnOk Go.Proofs.Tryz.prog gl0 f [.sc (.c (.sl []))] [] (.sc (.full [])) [] := by
  have hf : f = 140 ∨ f = 133 ∨ f = 144 ∨ f = 95 := by
    simp only [isClone, Bool.or_eq_true, beq_iff_eq] at h
    omega
  rcases hf with rfl | rfl | rfl | rfl
  · exact clone_empty (Tc_fn (n := 3) (by kernel_rfl)) (Tc_fn (n := 3) (by kernel_rfl))
  · exact clone_empty (Tc_fn (n := 3) (by kernel_rfl)) (Tc_fn (n := 3) (by kernel_rfl))
  · exact clone_empty (Tc_fn (n := 3) (by kernel_rfl)) (Tc_fn (n := 3) (by kernel_rfl))
  · exact clone_empty (Tc_fn (n := 3) (by kernel_rfl)) (Tc_fn (n := 3) (by kernel_rfl))

theorem X_ok : ∀ (f : FuncId) (args : List V) (objs : List Obj) (rv : V) (objs' : List Obj), X f args objs = some (rv, objs') → FnOk Go.Proofs.Tryz.prog gl0 f args objs rv objs' := by
  intro f args objs rv objs' h
  unfold X at h
  split at h
  · exact Tc_fn h
  · split at h
    · rename_i l
      cases hc : (f == 233 && Nat.ble l.length 281474976710656) with
      | false => rw [hc] at h; cases h
      | true =>
        rw [hc] at h
        simp only [cond_true, Option.some.injEq, Prod.mk.injEq] at h
        simp only [Bool.and_eq_true, beq_iff_eq] at hc
        obtain ⟨rfl, rfl⟩ := h
        obtain ⟨rfl, hl⟩ := hc
        exact ok202 (Nat.le_of_ble_eq_true hl)
    · cases hc : isClone f with
      | false => rw [hc] at h; cases h
      | true =>
        rw [hc] at h
        simp only [cond_true, Option.some.injEq, Prod.mk.injEq] at h
        obtain ⟨rfl, rfl⟩ := h
        exact clone_of hc
    · exact Tc_fn h

/-- What the evaluator says, the program does. -/
theorem ev_ok {n : Nat} {f : FuncId} {args : List V} {objs : List Obj} {rv : V} {objs' : List Obj} (h : ev n f args objs = some (rv, objs')) : FnOk Go.Proofs.Tryz.prog gl0 f args objs rv objs' :=
  evalFn_ok follows T_ok X_ok n h
end Tryz
end Go.Vs

/- Chapters 4 and 11, walked: children. -/
namespace Go.Vs.Tryz
open Go Go.Vs

/-- The functions whose answers are given: the examples, and all data declarations. -/
def skip (f : Nat) : Bool := f == 19 || f == 12 || f == 71
def T2 : FuncId → Option VFun := fun f => bif skip f then none else T f
theorem T2_ok : ∀ f vf, T2 f = some vf → mFun Go.Proofs.Tryz.prog f vf = true := by
  intro f vf h
  unfold T2 at h
  cases hs : skip f with
  | true => rw [hs] at h; cases h
  | false => rw [hs] at h; exact T_ok f vf h

/-- The sizes of the elements of the slices that are copied. -/
def cloneRow (f : Nat) : Nat := bif f == 133 then 2 else bif f == 144 then 14 else 1
theorem cloneRow_pos (f : Nat) : 0 < cloneRow f := by
  unfold cloneRow
  cases f == 133 <;> cases f == 144 <;> decide
/-- The copies of slices and strings. -/
noncomputable def X1 : Oracle := fun f args objs => match objs with
  | _ :: _ => lim Tc (fun _ _ _ => none) gl0 f args objs
  | [] => match args with
    | [.sc (.c (.str l))] => bif f == 233 && Nat.ble l.length 281474976710656 then some (.sc (.c (.str l)), []) else none
    | [.sc (.c (.sl []))] => bif f == 140 then some (.sc (.full []), []) else bif isClone f then some (.sc (.arr 0 0), [.arr (cloneRow f) [] 0]) else none
    | _ => lim Tc (fun _ _ _ => none) gl0 f args objs
noncomputable def X2 (A : Oracle) : Oracle := fun f args objs => bif skip f then A f args objs else X1 f args objs

theorem limTc_ok {f : FuncId} {args : List V} {objs : List Obj} {rv : V} {objs' : List Obj} (h : lim Tc (fun _ _ _ => none) gl0 f args objs = some (rv, objs')) : FnOk Go.Proofs.Tryz.prog gl0 f args objs rv objs' := by
  obtain ⟨n, h⟩ := lim_ex h
  exact evalN_ok follows Tc_ok X_none n h

theorem X2_ok {A : Oracle} (hA : ∀ f args objs rv objs', skip f = true → A f args objs = some (rv, objs') → FnOk Go.Proofs.Tryz.prog gl0 f args objs rv objs') :
    ∀ (f : FuncId) (args : List V) (objs : List Obj) (rv : V) (objs' : List Obj), X2 A f args objs = some (rv, objs') → FnOk Go.Proofs.Tryz.prog gl0 f args objs rv objs' := by
  intro f args objs rv objs' h
  unfold X2 at h
  cases hs : skip f with
  | true => rw [hs] at h; exact hA _ _ _ _ _ hs h
  | false =>
    rw [hs] at h
    simp only [cond_false] at h
    unfold X1 at h
    split at h
    · exact limTc_ok h
    · split at h
      · rename_i l
        cases hc : (f == 233 && Nat.ble l.length 281474976710656) with
        | false => rw [hc] at h; cases h
        | true =>
          rw [hc] at h
          simp only [cond_true, Option.some.injEq, Prod.mk.injEq] at h
          simp only [Bool.and_eq_true, beq_iff_eq] at hc
          obtain ⟨rfl, rfl⟩ := h
          obtain ⟨rfl, hl⟩ := hc
          exact ok202 (Nat.le_of_ble_eq_true hl)
      · cases h140 : f == 140 with
        | true =>
          rw [h140] at h
          simp only [cond_true, Option.some.injEq, Prod.mk.injEq] at h
          obtain ⟨rfl, rfl⟩ := h
          have : f = 140 := by simpa using h140
          subst this
          exact clone_of rfl
        | false =>
          rw [h140] at h
          simp only [cond_false] at h
          cases hc : isClone f with
          | false => rw [hc] at h; cases h
          | true =>
            rw [hc] at h
            simp only [cond_true, Option.some.injEq, Prod.mk.injEq] at h
            obtain ⟨rfl, rfl⟩ := h
            exact (clone_of hc).owned (cloneRow_pos f)
      · exact limTc_ok h

noncomputable def K (A : Oracle) : Ctx := ⟨lim T2 (X2 A) gl0, gl0⟩
noncomputable def Kc : Ctx := ⟨lim Tc (fun _ _ _ => none) gl0, gl0⟩
@[simp] theorem K_gl {A : Oracle} : (K A).gl = gl0 := rfl
@[simp] theorem Kc_gl : Kc.gl = gl0 := rfl

/-- What the functions say, the program does. -/
theorem K_ok {A : Oracle} (hA : ∀ f args objs rv objs', skip f = true → A f args objs = some (rv, objs') → FnOk Go.Proofs.Tryz.prog gl0 f args objs rv objs')
    {f : FuncId} {args : List V} {objs : List Obj} {rv : V} {objs' : List Obj} (h : (K A).call f args objs = some (rv, objs')) : FnOk Go.Proofs.Tryz.prog gl0 f args objs rv objs' := by
  obtain ⟨n, h⟩ := lim_ex h
  exact evalN_ok follows T2_ok (X2_ok hA) n h

variable {A : Oracle}
/-- A function of the table, from its body. -/
theorem fn_of {f : FuncId} {vf : VFun} {args : List V} {objs : List Obj} {r : V × List Obj} (hT : T2 f = some vf) (hn : args.length = vf.nparams) (ho : objs.length ≤ 64)
    (h : wp (K A) vf.body (doneQ vf.keep objs.length vf.results r) ⟨enumF 0 args, enumF 0 (objs.map some)⟩) : (K A).call f args objs = some r := lim_wp hT hn ho h

end Go.Vs.Tryz

/- Lists of names, walked: has, Contains, Index, same, Few. -/
namespace Go.Vs.Tryz
open Go Go.Vs

variable {A : Oracle}
abbrev strsV (l : List Str) : V := .sc (.c (.sl (strRows l)))
abbrev strV (s : Str) : V := .sc (.c (.str s))
abbrev intV (n : Int) : V := .sc (.c (.int .i64 n))
abbrev boolV (b : Bool) : V := .sc (.c (.bool b))
abbrev expV (e : Exp) : V := .ag (wc e.row)

@[simp] theorem wc_strRow (s : Str) : wc (strRow s) = [.c (.str s)] := rfl
@[simp] theorem wc_intRow (n : Int) : wc (intRow n) = [.c (.int .i64 n)] := rfl

/-- The first place of a name. -/
def place (l : List Str) (s : Str) : Nat := l.findIdx (· == s)
theorem place_lt {l : List Str} {s : Str} {i : Nat} (h : i < place l s) : ∃ x, l[i]? = some x ∧ ¬ x = s := by
  have hlt : i < l.length := Nat.lt_of_lt_of_le h List.findIdx_le_length
  refine ⟨l[i], List.getElem?_eq_getElem hlt, ?_⟩
  have := List.not_of_lt_findIdx h
  simpa using this
theorem place_at {l : List Str} {s : Str} (h : place l s < l.length) : l[place l s]? = some s := by
  have h1 := List.findIdx_getElem (w := h)
  rw [List.getElem?_eq_getElem h]
  exact congrArg some (beq_iff_eq.1 h1)
theorem place_mem {l : List Str} {s : Str} : place l s < l.length ↔ s ∈ l := by
  unfold place
  rw [List.findIdx_lt_length]
  simp
theorem place_le (l : List Str) (s : Str) : place l s ≤ l.length := List.findIdx_le_length

theorem has64 (l : List Str) (s : Str) (h : l.length ≤ 4294967296) : (K A).call 78 [strsV l, strV s] [] = some (boolV (decide (s ∈ l)), []) := by
  refine fn_of (vf := v78) (by kernel_rfl) rfl (by decide) ?_
  unfold v78
  have hp := place_le l s
  simp (disch := first | omega | (simp; done) | (simp; omega))
  refine wp_loop (fun i => ⟨[(0, strsV l), (1, strV s), (5, intV i)], []⟩) (place l s) ?_ ?_ ?_
  · simp
  · intro i hi
    obtain ⟨x, hx, hne⟩ := place_lt hi
    have hlt : i < l.length := by omega
    unfold l78_0
    simp (disch := first | omega | (simp; done) | (simp; omega)) [hx, hne, hlt, -getElem?_pos]
  · unfold l78_0
    by_cases hm : place l s < l.length
    · have hx := place_at hm
      simp (disch := first | omega | (simp; done) | (simp; omega)) [hx, hm, place_mem.1 hm, -getElem?_pos]
    · have hn : s ∉ l := fun h => hm (place_mem.2 h)
      simp (disch := first | omega | (simp; done) | (simp; omega)) [hm, hn, -getElem?_pos]

/-- The first place where two lists of names differ. -/
def differ : List Str → List Str → Nat
  | a :: l, b :: m => if a = b then differ l m + 1 else 0
  | _, _ => 0

end Go.Vs.Tryz

/- The children of an expression, and the names that it binds in them, walked. -/
namespace Go.Vs.Tryz
open Go Go.Vs
variable {A : Oracle}

abbrev pathV (i : Int) : V := .sc (.c (.sl [[.int .i64 i]]))

end Go.Vs.Tryz

/- The visible names, and the free variables, walked. -/
namespace Go.Vs.Tryz
open Go Go.Vs
variable {A : Oracle}

end Go.Vs.Tryz

/- The free variables by the program, walked. -/
namespace Go.Vs.Tryz
open Go Go.Vs
variable {A : Oracle}

/-- One more name, if it is new and not hidden. -/
def addNew (hidden out : List Str) (s : Str) : List Str := if s ∈ hidden ∨ s ∈ out then out else out ++ [s]
def addAll (e : Exp) (out : List Str) (p : List Str × Nat) : List Str := p.1.foldl (addNew (e.bound p.2)) out
/-- The free variables, in the program's way. -/
def freeP (e : Exp) : List Str := e.fold fun e l => if e.kind = 1 then [e.name] else l.zipIdx.foldl (addAll e) []

/-- The list ahead of the i-th child. -/
def outP (e : Exp) (i : Nat) : List Str := ((e.children.map freeP).zipIdx.take i).foldl (addAll e) []

end Go.Vs.Tryz

/- The free variables by the reference, walked. -/
namespace Go.Vs.Tryz
open Go Go.Vs
variable {A : Oracle}

/-- A variable that is free here. -/
def seeVar (e : Exp) (bound out : List Str) : List Str := if e.kind = 1 ∧ e.name ∉ bound ∧ e.name ∉ out then out ++ [e.name] else out
def stepR (e : Exp) (bound : List Str) (out : List Str) (p : (List Str → List Str → List Str) × Nat) : List Str := p.1 (bound ++ e.bound p.2) out
/-- The free variables, in the reference's way. -/
def freeR (e : Exp) : List Str → List Str → List Str := e.fold fun e l bound out => l.zipIdx.foldl (stepR e bound) (seeVar e bound out)
/-- The list ahead of the i-th child. -/
def outR (e : Exp) (bound out : List Str) (i : Nat) : List Str := ((e.children.map freeR).zipIdx.take i).foldl (stepR e bound) (seeVar e bound out)

end Go.Vs.Tryz

/- The plain law of the free variables: the program's list is the reference's. -/
namespace Go.Vs.Tryz
open Go Go.Vs

end Go.Vs.Tryz

/- Making things from plain numbers, walked: Mod, Next, Variable, Type. -/
namespace Go.Vs.Tryz
open Go Go.Vs
variable {A : Oracle}

theorem fn_ofE {f : FuncId} {vf : VFun} {args : List V} {objs : List Obj} (P : V × List Obj → Prop) (hT : T2 f = some vf) (hn : args.length = vf.nparams) (ho : objs.length ≤ 64)
    (h : wp (K A) vf.body (endsQ vf.keep objs.length vf.results P) ⟨enumF 0 args, enumF 0 (objs.map some)⟩) : ∃ r, P r ∧ (K A).call f args objs = some r := lim_wpE P hT hn ho h

def intRows (l : List Int) : List (List Cell) := l.map intRow
@[simp] theorem intRows_len (l : List Int) : (intRows l).length = l.length := by simp [intRows]
@[simp] theorem intRows_get (l : List Int) (i : Nat) : (intRows l)[i]? = (l[i]?).map intRow := by simp [intRows]
@[simp] theorem cut_i (n : Int) : cut (intRow n) 0 1 = some [.int .i64 n] := rfl
/-- A tape: its list, and how many of its choices are read. -/
abbrev tapeO (L : List Int) (I : Nat) : Obj := .box [.c (.sl (intRows L)), .c (.int .i64 I)]
abbrev datasV (ds : List DataD) : V := .sc (.c (.sl (dataRows ds)))
abbrev tyV (t : Ty) : V := .ag (wc t.row)

theorem mod10 (a m : Int) (hm : 0 < m) (hb : m ≤ 1073741824) : ∃ k : Nat, (k : Int) < m ∧ (K A).call 27 [intV a, intV m] [] = some (intV k, []) := by
  have h1 : ¬ m < 1 := by omega
  have h0 : m ≠ 0 := by omega
  have hlt : a.tmod m < m := Int.tmod_lt_of_pos a (by omega)
  have hgt : -m < a.tmod m := Int.lt_tmod_of_pos a (by omega)
  by_cases hneg : a.tmod m < 0
  · refine ⟨(a.tmod m + m).toNat, by omega, ?_⟩
    have hw : ((a.tmod m + m).toNat : Int) = a.tmod m + m := by omega
    rw [hw]
    refine fn_of (vf := v27) (by kernel_rfl) rfl (by simp) ?_
    unfold v27
    simp (disch := first | omega | (simp; done) | (simp; omega)) [h1, h0, hneg]
  · refine ⟨(a.tmod m).toNat, by omega, ?_⟩
    have hw : ((a.tmod m).toNat : Int) = a.tmod m := by omega
    rw [hw]
    refine fn_of (vf := v27) (by kernel_rfl) rfl (by simp) ?_
    unfold v27
    simp (disch := first | omega | (simp; done) | (simp; omega)) [h1, h0, hneg]

def varNames : List Str := [[120], [121], [122], [102], [103], [118, 49], [118, 50], [105, 100]]

/-- Declarations that something can be made of. -/
def goodD (d : DataD) : Prop := d.params.length ≤ 4 ∧ 1 ≤ d.cons.length ∧ d.cons.length ≤ 6 ∧ ∀ c ∈ d.cons, c.fields.length ≤ 4
def goodDs (ds : List DataD) : Prop := ds.length ≤ 100 ∧ ∀ d ∈ ds, goodD d

def TypeP (L : List Int) (r : V × List Obj) : Prop := ∃ t J, J ≤ L.length ∧ r = (tyV t, [tapeO L J])

/-- Ahead of the i-th argument of a type. -/
def TypeI (L : List Int) (ds : List DataD) (dd : DataD) (d i : Nat) (s : St) : Prop := ∃ tys J, tys.length = i ∧ J ≤ L.length ∧
  s = ⟨[(0, .sc (.ptr 0 0)), (1, datasV ds), (2, .sc (.c (.sl []))), (3, intV (d + 1)), (8, .sc (.ptr 64 0)), (10, .sc (.ptr 3392 0)), (11, .sc (.arr 3521 i)), (12, intV i)],
    [(0, some (tapeO L J)), (64, some (.box [zi, zs, zi, zi, .nil])), (3392, some (.box (wc (dataRow dd)))), (3521, some (.arr 5 (wr (Ty.rows tys)) 0))]⟩

end Go.Vs.Tryz

/- Raw expressions, walked. -/
namespace Go.Vs.Tryz
open Go Go.Vs
variable {A : Oracle}

def tz : Ty := .mk 0 [] 0 0 []
@[simp] theorem strRows0 : strRows [] = [] := rfl
@[simp] theorem rows0 : Exp.rows [] = [] := by rw [Exp.rows]
@[simp] theorem rows1 (x : Exp) : Exp.rows [x] = [x.row] := by rw [Exp.rows, Exp.rows]
@[simp] theorem rows2 (x y : Exp) : Exp.rows [x, y] = [x.row, y.row] := by rw [Exp.rows, Exp.rows, Exp.rows]
@[simp] theorem armRows0 : Exp.armRows [] = [] := by rw [Exp.armRows]
@[simp] theorem tyRows0 : Ty.rows [] = [] := by rw [Ty.rows]

/-- A made expression: well formed, of bounded weight; the tape read on. -/
def RawP (L : List Int) (B : Nat) (r : V × List Obj) : Prop := ∃ e J, e.wf ∧ e.weight ≤ B ∧ J ≤ L.length ∧ r = (expV e, [tapeO L J])

/-- Ahead of the i-th arm. -/
def ArmI (L : List Int) (ds : List DataD) (dd : DataD) (x : Exp) (B d i : Nat) (s : St) : Prop := ∃ arms J, arms.length = i ∧ J ≤ L.length ∧ (∀ a ∈ arms, a.2.wf ∧ a.2.weight ≤ B ∧ a.1.vars.length ≤ 4) ∧
  s = ⟨[(0, .sc (.ptr 0 0)), (1, datasV ds), (2, intV (d + 1)), (6, .sc (.ptr 64 0)), (13, .sc (.ptr 10176 0)), (14, .sc (.ptr 10752 0)), (15, intV i)],
    [(0, some (tapeO L J)), (64, some (.box [zi, zi, zs, zi, .nil, .nil, zi, zs, zi, zi, .nil])), (10176, some (.box (wc (dataRow dd)))), (10624, some (.arr 11 [wc x.row] 0)),
      (10752, some (.box [.c (.int .i64 8), zi, zs, zi, .arr 10624 1, .arr 10822 i, zi, zs, zi, zi, .nil])), (10822, some (.arr 14 (wr (Exp.armRows arms)) 0))]⟩
/-- Ahead of the j-th variable of the i-th arm. -/
def VarI (L : List Int) (ds : List DataD) (dd : DataD) (x : Exp) (arms : List (ArmH × Exp)) (con : Str) (d i j : Nat) (s : St) : Prop := ∃ vars J, vars.length = j ∧ J ≤ L.length ∧
  s = ⟨[(0, .sc (.ptr 0 0)), (1, datasV ds), (2, intV (d + 1)), (6, .sc (.ptr 64 0)), (13, .sc (.ptr 10176 0)), (14, .sc (.ptr 10752 0)), (15, intV i), (16, .sc (.ptr 11712 0)), (17, intV j)],
    [(0, some (tapeO L J)), (64, some (.box [zi, zi, zs, zi, .nil, .nil, zi, zs, zi, zi, .nil])), (10176, some (.box (wc (dataRow dd)))), (10624, some (.arr 11 [wc x.row] 0)),
      (10752, some (.box [.c (.int .i64 8), zi, zs, zi, .arr 10624 1, .arr 10822 i, zi, zs, zi, zi, .nil])), (10822, some (.arr 14 (wr (Exp.armRows arms)) 0)),
      (11712, some (.box [zi, .c (.str con), .arr 11779 j, zi, zi, zs, zi, .nil, .nil, zi, zs, zi, zi, .nil])), (11779, some (.arr 1 (wr (strRows vars)) 0))]⟩

end Go.Vs.Tryz

/- Declarations chosen by bits, two made expressions, and Proper, walked. -/
namespace Go.Vs.Tryz
open Go Go.Vs
variable {A : Oracle}

def DatasP (ds7 : List DataD) (r : V × List Obj) : Prop := ∃ ds, (∀ d ∈ ds, d ∈ ds7) ∧ goodDs ds ∧ r = (datasV ds, [])
def DatasI (bits : Int) (ds7 : List DataD) (i : Nat) (s : St) : Prop := ∃ ds : List DataD, ds.length ≤ i + 1 ∧ (∀ d ∈ ds, d ∈ ds7 ∧ goodD d) ∧
  s = ⟨[(0, intV bits), (3, datasV ds7), (4, .sc (.arr 257 ds.length)), (5, intV i)], [(257, some (.arr 4 (wr (dataRows ds)) 0))]⟩
@[simp] theorem dataRows0 : dataRows [] = [] := rfl
@[simp] theorem dataRows1 (d : DataD) : wr (dataRows [d]) = [wc (dataRow d)] := rfl

def MadeP (L : List Int) (r : V × List Obj) : Prop := ∃ a b J, a.wf ∧ a.weight ≤ 32 ^ 4 ∧ b.wf ∧ b.weight ≤ 32 ^ 3 ∧ J ≤ L.length ∧ r = (.tu [expV a, expV b, .sc (.ptr 0 0)], [tapeO L J])

def BoolP (r : V × List Obj) : Prop := ∃ b, r = (boolV b, [])

end Go.Vs.Tryz

/- The given answer of a law that needs no declarations: a chapter's example. -/
namespace Go.Vs.Tryz
open Go Go.Vs
def A1 (k : Nat) : Oracle := fun f args objs => match args, objs with
  | [], [] => bif f == k then some (boolV true, []) else none
  | _, _ => none
theorem A1_ok (k : Nat) (hk : FnOk Go.Proofs.Tryz.prog gl0 k [] [] (boolV true) []) : ∀ f args objs rv objs', skip f = true → A1 k f args objs = some (rv, objs') → FnOk Go.Proofs.Tryz.prog gl0 f args objs rv objs' := by
  intro f args objs rv objs' _ h
  unfold A1 at h
  split at h
  · cases h15 : f == k with
    | true =>
      rw [h15] at h
      simp only [cond_true, Option.some.injEq, Prod.mk.injEq] at h
      obtain ⟨rfl, rfl⟩ := h
      obtain rfl : f = k := by simpa using h15
      exact hk
    | false =>
      rw [h15] at h
      cases h
  · cases h
theorem A1_at (k : Nat) (hs : skip k = true) : X2 (A1 k) k [] [] = some (boolV true, []) := by
  simp [X2, hs, A1]
end Go.Vs.Tryz

/- Contexts and ranks: their functions, walked. -/
namespace Go.Vs
open Go
structure EntD where
  name : Str
  count : Int
  ty : Ty
def entRow (e : EntD) : List Cell := .str e.name :: .int .i64 e.count :: e.ty.row
def entRows (l : List EntD) : List (List Cell) := l.map entRow
@[simp] theorem entRow_len (e : EntD) : (entRow e).length = 7 := by simp [entRow]
@[simp] theorem entRows_len (l : List EntD) : (entRows l).length = l.length := by simp [entRows]
@[simp] theorem entRows_get (l : List EntD) (i : Nat) : (entRows l)[i]? = (l[i]?).map entRow := by simp [entRows]
@[simp] theorem okRows_ent (l : List EntD) : okRows 7 (wr (entRows l)) = true := okRows_of l entRow_len
@[simp] theorem entRows_snoc (l : List EntD) (x : EntD) : wr (entRows l) ++ [wc (entRow x)] = wr (entRows (l ++ [x])) := by simp [entRows, wr]
@[simp] theorem entRows0 : entRows [] = [] := rfl
/-- A scheme's cells. -/
def schRow (c : Int) (t : Ty) : List Cell := .int .i64 c :: t.row
@[simp] theorem schRow_len (c : Int) (t : Ty) : (schRow c t).length = 6 := by simp [schRow]
section
variable (e : EntD) (c : Int) (t : Ty)
@[simp] theorem cut_n0 : cut (entRow e) 0 1 = some [.str e.name] := by simp [entRow]
@[simp] theorem cut_n1 : cut (entRow e) 1 6 = some (schRow e.count e.ty) := by rw [entRow, schRow, Ty.row_eq]; rfl
@[simp] theorem cut_n : cut (entRow e) 0 7 = some (entRow e) := by rw [entRow, Ty.row_eq]; rfl
@[simp] theorem cutw_n0 : cut (wc (entRow e)) 0 1 = some [.c (.str e.name)] := by rw [entRow, Ty.row_eq]; rfl
@[simp] theorem cutw_n1 : cut (wc (entRow e)) 1 6 = some (wc (schRow e.count e.ty)) := by rw [entRow, schRow, Ty.row_eq]; rfl
@[simp] theorem cutw_n : cut (wc (entRow e)) 0 7 = some (wc (entRow e)) := by rw [entRow, Ty.row_eq]; rfl
@[simp] theorem cutw_sch : cut (wc (schRow c t)) 0 6 = some (wc (schRow c t)) := by rw [schRow, Ty.row_eq]; rfl
@[simp] theorem flat_sch : (wc (schRow c t)).all flatW = false := by rw [schRow, Ty.row_eq]; simp [wc, flatW]
@[simp] theorem flat_ent : (wc (entRow e)).all flatW = false := by rw [entRow, Ty.row_eq]; simp [wc, flatW]
end
section
variable {C : Ctx} {E : Nat → Option V} {L : Nat → Option Obj} {oid : Nat}
@[simp] theorem x_sl {s : Nat} {x : Opd} {lo hi mx : Option Opd} : exec1 C E L oid (.sl s x lo hi mx) = slice1 L s (x.val C E) (lo.map (·.val C E)) (hi.map (·.val C E)) (mx.map (·.val C E)) := rfl
theorem fit_map {α : Type} {f : α → List Cell} {k : Nat} (h : ∀ a, (f a).length = k) (l : List α) : rowsFit k (l.map f) = true := by
  cases l with
  | nil => rfl
  | cons a r => simp [rowsFit, h a]
@[simp] theorem fit_ent (l : List EntD) : rowsFit 7 (entRows l) = true := fit_map entRow_len l
@[simp] theorem fit_data (l : List DataD) : rowsFit 4 (dataRows l) = true := fit_map dataRow_len l
@[simp] theorem slice_from {s n : Nat} {k : IntKind} {rows : List (List Cell)} (h : n ≤ rows.length) : slice1 L s (.sc (.c (.sl rows))) (some (.sc (.c (.int k (n : Int))))) none none = bif rowsFit s rows then some (.sc (.c (.sl (rows.drop n))), []) else none := by
  simp [slice1, boundOr, natBelow_nat, blt_dec, Nat.lt_succ_of_le h]
@[simp] theorem slice_from1 {s n : Nat} {k : IntKind} {rows : List (List Cell)} (h : n + 1 ≤ rows.length) : slice1 L s (.sc (.c (.sl rows))) (some (.sc (.c (.int k ((n : Int) + 1))))) none none = bif rowsFit s rows then some (.sc (.c (.sl (rows.drop (n + 1)))), []) else none := slice_from (n := n + 1) h
@[simp] theorem slice_to {s n : Nat} {k : IntKind} {rows : List (List Cell)} (h : n ≤ rows.length) : slice1 L s (.sc (.c (.sl rows))) none (some (.sc (.c (.int k (n : Int))))) none = bif rowsFit s rows then some (.sc (.c (.sl (rows.take n))), []) else none := by
  simp [slice1, boundOr, natBelow_nat, blt_dec, Nat.lt_succ_of_le h]
@[simp] theorem entRows_drop (l : List EntD) (n : Nat) : (entRows l).drop n = entRows (l.drop n) := by simp [entRows]
@[simp] theorem dataRows_take (l : List DataD) (n : Nat) : (dataRows l).take n = dataRows (l.take n) := by simp [dataRows]
@[simp] theorem call1_clo {call : Oracle} {f : FuncId} {w : W} {args : List (Bool × V)} : call1 call L oid (.sc (.clo f [true] [[w]])) args = callA call L oid f (argsOf L (args ++ [(true, .sc w)])) := by
  rw [call1_eq]
  rfl
end
end Go.Vs

namespace Go.Vs.Tryz
open Go Go.Vs
variable {A : Oracle}

abbrev entsV (l : List EntD) : V := .sc (.c (.sl (entRows l)))
def names (l : List EntD) : List Str := l.map (·.name)
@[simp] theorem names_len (l : List EntD) : (names l).length = l.length := by simp [names]
@[simp] theorem names_get (l : List EntD) (i : Nat) : (names l)[i]? = (l[i]?).map (·.name) := by simp [names]

/-- The entries that are not hidden, among the first i. -/
def seenTo (l : List EntD) : Nat → List EntD
  | 0 => []
  | i + 1 => match l[i]? with
    | none => seenTo l i
    | some e => if e.name ∈ names (l.drop (i + 1)) then seenTo l i else seenTo l i ++ [e]

end Go.Vs.Tryz

/- Contexts and ranks by the reference, walked; constructors found. -/
namespace Go.Vs.Tryz
open Go Go.Vs
variable {A : Oracle}

/-- The last place of a name, or -1. -/
def rlast (l : List Str) (s : Str) : Int := if s ∈ l then (l.length : Int) - 1 - place l.reverse s else -1

def LookP (b : Bool) (r : V × List Obj) : Prop := ∃ c t, r = (.tu [.ag (wc (schRow c t)), boolV b], [])

/- constructors -/
def cnames (d : DataD) : List Str := d.cons.map (·.name)
@[simp] theorem cnames_len (d : DataD) : (cnames d).length = d.cons.length := by simp [cnames]
@[simp] theorem cnames_get (d : DataD) (i : Nat) : (cnames d)[i]? = (d.cons[i]?).map (·.name) := by simp [cnames]
def dataOf (ds : List DataD) (c : Str) : Nat := ds.findIdx fun d => decide (c ∈ cnames d)
/-- The place of a constructor. -/
def findM (ds : List DataD) (c : Str) : Int × Int × Bool := match ds[dataOf ds c]? with
  | some d => (dataOf ds c, place (cnames d) c, true)
  | none => (0, 0, false)
abbrev findV (r : Int × Int × Bool) : V := .tu [intV r.1, intV r.2.1, boolV r.2.2]

end Go.Vs.Tryz

/- Ranks, walked; the program's rank is the reference's. -/
namespace Go.Vs
open Go
section
variable {C : Ctx}
theorem scrubD_eq (ks : List Nat) (s : St) : scrubD ks s = s.scrub ks := by
  cases ks with
  | cons _ _ => rfl
  | nil =>
    obtain ⟨E, O⟩ := s
    unfold scrubD St.scrub
    have : (O.any fun x => x.2.isSome && List.contains [] x.1) = false := by
      rw [List.any_eq_false]
      intro x _
      simp
    simp only [this, cond_false]

/-- A range over slices.Backward's function: I i holds where i rows are left. -/
theorem wp_rangeB {x : Opd} {f s p q k : Nat} {ag : Bool} {asg body : VCode} {Q : Ex → St → Prop} {st : St} {rows : List (List Cell)} (hx : x.val C (get? st.env) = .sc (.clo f [true] [[.ptr k 0]])) (hk : 64 ≤ k)
    (hL : look st.objs k = some (.box [.c (.sl rows)])) (hn : rows.length ≤ 4294967296) (I : Nat → St → Prop) (h0 : I rows.length (scrubD [k] st))
    (round : ∀ i st' row, I (i + 1) st' → rows[i]? = some row → row.length = s ∧ ∃ v, asV ag (wc row) = some v ∧
      wp C asg (fun e s1 => e = .normal ∧ ((dropsOf body).all fun k => (look s1.objs k).isNone) = true ∧
        wp C body (fun e s2 => (e = .normal ∧ I i ⟨(scrubD (dropsOf asg ++ dropsOf body) st').env, s2.objs⟩) ∨ (e ≠ .normal ∧ Q e ⟨(scrubD (dropsOf asg ++ dropsOf body) st').env, s2.objs⟩)) s1)
        ⟨put (put (scrubD (dropsOf asg ++ dropsOf body) st').env p (.sc (.c (.int .i64 i)))) q v, (scrubD (dropsOf asg ++ dropsOf body) st').objs⟩)
    (fin : ∀ st', I 0 st' → Q .normal st') : wp C (.rangeB x f s ag p q asg body) Q st := by
  have key : ∀ i, i ≤ rows.length → ∀ st', I i st' → ∃ n e s', (∀ n', n ≤ n' → rounds (run C n' asg) (run C n' body) (dropsOf asg ++ dropsOf body) (dropsOf body) s ag p q rows i st' = some (e, s')) ∧ Q e s' := by
    intro i
    induction i with
    | zero => exact fun _ st' h => ⟨0, .normal, st', fun _ _ => rfl, fin st' h⟩
    | succ i ih =>
      intro hi st' h
      obtain ⟨row, hrow⟩ : ∃ row, rows[i]? = some row := ⟨rows[i], List.getElem?_eq_getElem (by omega)⟩
      obtain ⟨hlen, v, hv, n1, e1, s1, h1, rfl, h2, n2, e2, s2, h3, h4⟩ := round i st' row h hrow
      rw [scrubD_eq] at h1 h4
      have hl : (row.length == s) = true := by simp [hlen]
      have r1 : ∀ n', n1 ≤ n' → run C n' asg ⟨put (put (st'.scrub (dropsOf asg ++ dropsOf body)).env p (.sc (.c (.int .i64 i)))) q v, (st'.scrub (dropsOf asg ++ dropsOf body)).objs⟩ = some (.normal, s1) := fun n' hn => run_mono (gl := C.gl) (c := C.call) (Le.refl _) hn h1
      have r2 : ∀ n', n2 ≤ n' → run C n' body s1 = some (e2, s2) := fun n' hn => run_mono (gl := C.gl) (c := C.call) (Le.refl _) hn h3
      have hv' : asV ag (row.map W.c) = some v := hv
      rcases h4 with ⟨rfl, h4⟩ | ⟨hne, h4⟩
      · obtain ⟨n3, e3, s3, h5, h6⟩ := ih (by omega) _ h4
        refine ⟨max n1 (max n2 n3), e3, s3, fun n' hn' => ?_, h6⟩
        have ha := r1 n' (by omega)
        have hb := r2 n' (by omega)
        simp only [rounds, hrow, hl, cond_true, hv', ha, h2, hb]
        exact h5 n' (by omega)
      · refine ⟨max n1 n2, e2, _, fun n' hn' => ?_, h4⟩
        have ha := r1 n' (by omega)
        have hb := r2 n' (by omega)
        simp only [rounds, hrow, hl, cond_true, hv', ha, h2, hb]
        cases e2 with
        | normal => exact absurd rfl hne
        | exit _ => rfl
        | ret => rfl
  obtain ⟨n, e, s', h1, h2⟩ := key rows.length (Nat.le_refl _) _ h0
  refine ⟨n, e, s', ?_, h2⟩
  have hb : (f == f && Nat.ble 64 k) = true := by
    simp only [beq_self_eq_true, Bool.true_and]
    exact Nat.ble_eq_true_of_le hk
  have hb2 : Nat.ble rows.length maxRows2 = true := Nat.ble_eq_true_of_le (by unfold maxRows2; omega)
  rw [scrubD_eq] at h1
  simp only [run, hx, hb, cond_true, hL, hb2]
  exact h1 n (Nat.le_refl n)
attribute [simp] dropsOf
end
end Go.Vs

namespace Go.Vs.Tryz
open Go Go.Vs
variable {A : Oracle}

/-- How many constructors the first declarations have. -/
def consTo (ds : List DataD) (i : Nat) : Nat := ((ds.take i).map fun d => d.cons.length).sum

/-- The rank of a head. -/
def rankM (ds : List DataD) (seen bound : List Str) (e : Exp) : Int :=
  if e.kind = 1 then (if e.name ∈ bound then seen.length + rlast bound e.name else rlast seen e.name)
  else if e.kind = 2 then match findM ds e.name with
    | (i, k, true) => seen.length + bound.length + k + consTo ds i.toNat
    | _ => -1
  else -1

end Go.Vs.Tryz

/- The rank of a head, by the program and by the reference, walked. -/
namespace Go.Vs.Tryz
open Go Go.Vs
variable {A : Oracle}

/-- The names that are seen. -/
def seenN (ctx : List EntD) : List Str := names (seenTo ctx ctx.length)

end Go.Vs.Tryz

/- The program's rank is the reference's. -/
namespace Go.Vs.Tryz
open Go Go.Vs
variable {A : Oracle}

end Go.Vs.Tryz
