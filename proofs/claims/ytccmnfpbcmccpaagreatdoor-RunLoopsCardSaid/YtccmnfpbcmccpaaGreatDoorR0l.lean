/- The tables. (Parts of one proof, put together.) -/
import Derived.Test.YtccmnfpbcmccpaaGreatDoorT1l
import Derived.Test.YtccmnfpbcmccpaaGreatDoorT2l
import Derived.Test.YtccmnfpbcmccpaaGreatDoorProg
import Derived.Test.YtccmnfpbcmccpaaGreatDoorM4l
import Derived.Lib.Strings
import Derived.Lib.Walk
import Derived.Lib.BufferWrite
import Derived.Lib.UnsafeStr
import Derived.Lib.Hide
import Derived.Laws.MakeOwn
import Derived.WalkKit
import Derived.KernelRfl
import Derived.Test.YtccmnfpbcmccpaaGreatDoorM6l
set_option linter.unusedSimpArgs false
set_option linter.unusedVariables false
set_option linter.deprecated false

/- The tables. -/
namespace Go.Vs.Tryz
open Go Go.Vs

def tab : List (Nat × VFun) := [(8, v8), (25, v25), (34, v34), (30, v30), (31, v31), (18, v18), (27, v27), (72, v72), (33, v33), (52, v52), (46, v46), (54, v54), (61, v61), (49, v49), (74, v74), (75, v75), (120, v120), (122, v122), (123, v123), (16, v16), (71, v71), (19, v19), (107, v107), (99, v99), (102, v102), (124, v124), (125, v125), (126, v126), (129, v129), (128, v128), (170, v170), (127, v127), (76, v76), (78, v78), (79, v79), (47, v47), (48, v48), (55, v55), (175, v175), (176, v176), (177, v177), (178, v178), (179, v179), (180, v180), (181, v181), (182, v182), (131, v131), (132, v132), (133, v133), (134, v134), (92, v92), (93, v93), (95, v95), (98, v98), (100, v100), (101, v101), (41, v41), (209, v209), (183, v183), (141, v141), (146, v146), (147, v147), (148, v148), (150, v150), (153, v153), (154, v154), (156, v156), (157, v157), (158, v158), (80, v80), (198, v198), (199, v199), (197, v197), (200, v200), (151, v151), (155, v155), (218, v218), (219, v219), (201, v201), (202, v202), (220, v220), (221, v221), (222, v222), (237, v237), (238, v238), (239, v239), (240, v240), (255, v255), (256, v256)]
def T : FuncId → Option VFun := get? tab

set_option maxRecDepth 100000 in
theorem T_ok : ∀ f vf, T f = some vf → mFun Go.Proofs.Tryz.prog f vf = true := AllT.get (l := tab) ⟨m8, m25, m34, m30, m31, m18, m27, m72, m33, m52, m46, m54, m61, m49, m74, m75, m120, m122, m123, m16, m71, m19, m107, m99, m102, m124, m125, m126, m129, m128, m170, m127, m76, m78, m79, m47, m48, m55, m175, m176, m177, m178, m179, m180, m181, m182, m131, m132, m133, m134, m92, m93, m95, m98, m100, m101, m41, m209, m183, m141, m146, m147, m148, m150, m153, m154, m156, m157, m158, m80, m198, m199, m197, m200, m151, m155, m218, m219, m201, m202, m220, m221, m222, m237, m238, m239, m240, m255, m256, trivial⟩

def cab : List (Nat × VFun) := [(149, v149), (223, v223), (244, v244)]
def Tc : FuncId → Option VFun := get? cab

set_option maxRecDepth 100000 in
theorem Tc_ok : ∀ f vf, Tc f = some vf → mFun Go.Proofs.Tryz.prog f vf = true := AllT.get (l := cab) ⟨m149, m223, m244, trivial⟩

theorem follows : Go.Proofs.Tryz.prog.follows .mixedOrders = true := by kernel_rfl

end Go.Vs.Tryz

/- The library's Clone of a string at this program: its contract, by a walk (lines of a worked proof of the kit, turned to this program). -/
namespace Go.Vs.Tryz
open Go Go.RowKit Go.Proofs Go.Vs

theorem info5 : (Go.Proofs.Tryz.prog.info? 5).map (fun i => (i.zero, i.size, i.bytes)) = some (some (Value.int IntKind.u8 0), 1, 1) := by kernel_rfl

theorem info_of5 : ∃ i0 : TypeInfo, Go.Proofs.Tryz.prog.info? 5 = some i0 ∧ i0.zero = some (.int .u8 0) ∧ i0.size = 1 ∧ i0.bytes = 1 := by
  have h := info5
  cases hi : Go.Proofs.Tryz.prog.info? 5 with
  | none => rw [hi] at h; cases h
  | some i =>
    rw [hi] at h
    simp only [Option.map_some, Option.some.injEq, Prod.mk.injEq] at h
    exact ⟨i, rfl, h.1, h.2.1, h.2.2⟩

set_option maxHeartbeats 4000000 in
set_option maxRecDepth 100000 in
theorem clone202 (s : ByteArray) (w : World) (hlim : s.size ≤ 281474976710656) :
    Calls Go.Proofs.Tryz.prog 284 #[.string s] w fun e w' => e = .returned (.string s) ∧ Below w.heap.size w w' := by
  by_cases h0 : s.size = 0
  · have hs : s = ⟨#[]⟩ := by
      apply ByteArray.ext
      exact Array.eq_empty_of_size_eq_zero h0
    subst hs
    go_enter Go.Proofs.Tryz.func284, Go.Proofs.Tryz.ntmps284
    go_wp2
    go_ret
    exact ⟨rfl, Below.refl _ _⟩
  · obtain ⟨i0, hi, hz0, hz1, hz2⟩ := info_of5
    have hinfo : (Go.Proofs.Tryz.prog.info? 5).map (·.size) = some 1 := by rw [hi]; simp [hz1]
    have hco : Go.Proofs.Tryz.prog.cellsOf 5 = 1 := by simp [Program.cellsOf, hi, hz1]
    obtain ⟨M, hM⟩ : ∃ M, M = madeCells (Value.int .u8 0).cells (((s.size : Nat) : Int).toNat * i0.size) := ⟨_, rfl⟩
    have hMs : M.size = s.size := by rw [hM, size_madeCells, hz1]; simp
    have hmk : ∀ W : World, (Instr.makeSlice 274 (.int .i64 (s.size : Int)) (.int .i64 (s.size : Int))).run Go.Proofs.Tryz.prog W = .ok (.slice (some ⟨W.heap.size, 0, none⟩) s.size s.size) (W.alloc (.cells M 5)) := fun W => by
      have h := run_make (P := Go.Proofs.Tryz.prog) W 274 5 i0 (.int .u8 0) Go.Proofs.Tryz.underlying274 hi hz0 .i64 .i64 (s.size : Int) (s.size : Int) (by omega) (by omega) (by rw [hz2]; omega) (by omega)
      rw [← hM] at h
      simpa using h
    clear hM
    have hcp := Lib.run_copy_row_string (P := Go.Proofs.Tryz.prog) (w.alloc (.cells M 5)) 274 9 3 5 w.heap.size 0 s.size s.size s M 5 Go.Proofs.Tryz.underlying274 hinfo (heap_alloc_new w _) (Nat.le_refl _) (by omega)
    obtain ⟨Y, hY⟩ : ∃ Y, Y = (M.toList.take 0 ++ Lib.byteCells s.data.toList ++ M.toList.drop (0 + s.size)).toArray := ⟨_, rfl⟩
    rw [← hY] at hcp
    have hYl : Y.toList = Lib.byteCells s.data.toList := by
      rw [hY, List.toList_toArray, List.take_zero, List.nil_append, List.drop_of_length_le (by rw [Array.length_toList]; omega), List.append_nil]
    have hYs : Y.size = s.size := by rw [← Array.length_toList, hYl, Lib.byteCells_length, ← Lib.size_eq]
    have hgY : ((w.alloc (.cells M 5)).setRow w.heap.size Y).heap[w.heap.size]? = some (.cells Y 5 (0, 0)) := setRow_heap _ _ M _ 5 (0, 0) (heap_alloc_new w _)
    have hne : s.data.toList ≠ [] := fun e => h0 (by rw [Lib.size_eq, e]; rfl)
    have hUS := Lib.run_unsafeString_row (P := Go.Proofs.Tryz.prog) ((w.alloc (.cells M 5)).setRow w.heap.size Y) 310 3 9 5 Go.Proofs.Tryz.underlying310 hco w.heap.size Y.size (by unfold World.shape?; rw [hgY]) s.data.toList hne (by rw [← Lib.size_eq]; omega) (by rw [← Lib.size_eq]; omega)
      (fun j x hx => Lib.cells_of_row hgY Y.size j _ (by rw [List.take_of_length_le (by rw [Array.length_toList]; exact Nat.le_refl _), hYl]; simp [Lib.byteCells, hx]))
    rw [← Lib.size_eq] at hUS
    clear hY
    go_enter Go.Proofs.Tryz.func284, Go.Proofs.Tryz.ntmps284
    go_wp2
    go_ret
    have hb1 : Below w.heap.size w (w.alloc (.cells M 5)) := (Below.refl _ w).alloc (Nat.le_refl _) _
    have hb2 : Below w.heap.size (w.alloc (.cells M 5)) ((w.alloc (.cells M 5)).setRow w.heap.size Y) := ⟨rfl, rfl, rfl, by simp, fun k hk => setRow_other _ _ _ _ (by omega)⟩
    exact ⟨rfl, Lib.below_freeze (hb1.trans hb2) (p := ⟨w.heap.size, 0, none⟩) (Nat.le_refl _) _⟩
end Go.Vs.Tryz

/- The oracle beside the tables: the library's Clone of strings, and Clone of empty slices; the package-level variables; the examples of the two chapters. -/
namespace Go.Vs.Tryz
open Go Go.Vs Go.RowKit

def tabOf (k : IntKind) (l : List Int) : List Cell := l.map fun n => .int k n
def pow10Tab : List Int := [1, 10, 100, 1000, 10000, 100000, 1000000, 10000000, 100000000, 1000000000, 10000000000, 100000000000, 1000000000000, 10000000000000, 100000000000000, 1000000000000000, 10000000000000000, 100000000000000000, 1000000000000000000, 10000000000000000000]
def de32Tab : List Int := [0, 1, 28, 2, 29, 14, 24, 3, 30, 22, 20, 15, 25, 17, 4, 8, 31, 27, 13, 23, 21, 19, 16, 7, 26, 12, 18, 6, 11, 5, 10, 9]
def de64Tab : List Int := [0, 1, 56, 2, 57, 49, 28, 3, 61, 58, 42, 50, 38, 29, 17, 4, 62, 47, 59, 36, 45, 43, 51, 22, 53, 39, 33, 30, 24, 18, 12, 5, 63, 55, 48, 27, 60, 41, 37, 16, 46, 35, 44, 21, 52, 32, 23, 11, 54, 26, 40, 15, 34, 20, 31, 10, 25, 14, 19, 9, 13, 8, 7, 6]
def errCell (s : List UInt8) : Cell := .ifc 311 true [.ro [.str s] 0]
def synText : List UInt8 := [105, 110, 118, 97, 108, 105, 100, 32, 115, 121, 110, 116, 97, 120]
def rngText : List UInt8 := [118, 97, 108, 117, 101, 32, 111, 117, 116, 32, 111, 102, 32, 114, 97, 110, 103, 101]

/-- What the package-level variables hold. -/
def gl5 : Nat → List Cell
  | 0 => [errCell synText]
  | 1 => [errCell rngText]
  | 2 => tabOf .u64 pow10Tab
  | 3 => tabOf .u8 de32Tab
  | 4 => tabOf .u8 de64Tab
  | _ => []
/-- Those of them that are read. -/
def gl0 : Nat → List Cell
  | 0 => [errCell synText]
  | 1 => [errCell rngText]
  | 2 => tabOf .u64 pow10Tab
  | _ => []

def isClone (f : Nat) : Bool := f == 149 || f == 223 || f == 244

def X : Oracle := fun f args objs => match objs with
  | _ :: _ => evalFn Tc (fun _ _ _ => none) gl0 3 f args objs
  | [] => match args with
    | [.sc (.c (.str l))] => bif f == 284 && Nat.ble l.length 281474976710656 then some (.sc (.c (.str l)), []) else none
    | [.sc (.c (.sl []))] => bif isClone f then some (.sc (.full []), []) else none
    | _ => evalFn Tc (fun _ _ _ => none) gl0 3 f args objs

abbrev ev (n : Nat) (f : FuncId) (args : List V) (objs : List Obj) : Option (V × List Obj) := evalFn T X gl0 n f args objs

end Go.Vs.Tryz

/- The oracle beside the tables is sound. -/
namespace Go.Vs
open Go Go.RowKit

theorem keeps_below {w w' : World} {ω : Nat → Nat} {S : Nat → Prop} (hb : Below w.heap.size w w') : Keeps w ω S w' ω :=
  ⟨⟨fun b i hi v hv => by
    obtain ⟨cs, t, fr, h⟩ := cells_of_at hv
    have h' : w'.heap[b]? = some (.cells cs t fr) := (hb.block b (Array.getElem?_eq_some_iff.1 h).1).trans h
    refine ⟨?_, hi⟩
    rw [at?_block h', ← at?_block h]
    exact hv⟩, hb.size, fun b hbl _ => ⟨hb.block b hbl, rfl⟩, hb.os, hb.tape, hb.output⟩

theorem clone_empty {P : Program} {gl : Nat → List Cell} {f : FuncId} (h1 : FnOk P gl f [.sc (.e0 true)] [] (.sc .nil) []) (h2 : FnOk P gl f [.sc (.e0 false)] [] (.sc (.full [])) []) :
    FnOk P gl f [.sc (.c (.sl []))] [] (.sc (.full [])) [] := by
  refine ⟨h1.1, fun w ω β cargs hgl hargs hobj hinj => ?_⟩
  obtain ⟨l⟩ := cargs
  match l, hargs with
  | [], hargs => simp [RVs] at hargs
  | v :: _ :: _, hargs => simp [RVs] at hargs
  | [v], hargs =>
    simp only [RVs, RV1, RW, RD, and_true] at hargs
    obtain ⟨base, cap, hv, _, hcap, _⟩ := hargs
    simp only [List.length_nil] at hv
    cases base with
    | none =>
      have hr : RVs w ω β (Lof []) [.sc (.e0 true)] [v] := by
        simp only [RVs, RV1, RW, and_true]
        exact ⟨none, cap, hv, hcap, rfl⟩
      refine (h1.2 w ω β #[v] hgl hr hobj hinj).mono ?_
      rintro e w' ⟨vv, ω', β', he, hrv, hrest⟩
      refine ⟨vv, ω', β', he, ?_, hrest⟩
      simp only [RV, RV1, RW] at hrv
      subst hrv
      simp only [RV, RV1, RW, RD]
      exact ⟨⟨none, 0, rfl, by simp, by simp [maxRows], by simp⟩, none, 0, rfl⟩
    | some a =>
      have hr : RVs w ω β (Lof []) [.sc (.e0 false)] [v] := by
        simp only [RVs, RV1, RW, and_true]
        exact ⟨some a, cap, hv, hcap, rfl⟩
      exact h2.2 w ω β #[v] hgl hr hobj hinj

namespace Tryz

theorem ok202 {gl : Nat → List Cell} {l : List UInt8} (hl : l.length ≤ 281474976710656) : FnOk Go.Proofs.Tryz.prog gl 284 [.sc (.c (.str l))] [] (.sc (.c (.str l))) [] := by
  refine ⟨⟨_, Go.Proofs.Tryz.func284, by kernel_rfl, by kernel_rfl⟩, fun w ω β cargs hgl hargs hobj hinj => ?_⟩
  obtain ⟨l'⟩ := cargs
  match l', hargs with
  | [], hargs => simp [RVs] at hargs
  | v :: _ :: _, hargs => simp [RVs] at hargs
  | [v], hargs =>
    simp only [RVs, RV1, RW, RD, and_true] at hargs
    obtain ⟨a, rfl, ha⟩ := hargs
    refine (clone202 a w (by rw [Lib.size_eq, ha]; exact hl)).mono ?_
    rintro e w' ⟨rfl, hb⟩
    refine ⟨_, ω, β, rfl, ?_, fun k o hk => by simp [Lof] at hk, fun j k b hj => by simp [Lof] at hj, keeps_below hb, fun k b hk => by simp [Lof] at hk, fun k => by simp [Tr, Lof]⟩
    simp only [RV, RV1, RW, RD]
    exact ⟨a, rfl, ha⟩

theorem X_none : ∀ (f : FuncId) (args : List V) (objs : List Obj) (rv : V) (objs' : List Obj), (fun _ _ _ => none : Oracle) f args objs = some (rv, objs') → FnOk Go.Proofs.Tryz.prog gl0 f args objs rv objs' :=
  fun _ _ _ _ _ h => by cases h

theorem Tc_fn {n : Nat} {f : FuncId} {args : List V} {objs : List Obj} {rv : V} {objs' : List Obj} (h : evalFn Tc (fun _ _ _ => none) gl0 n f args objs = some (rv, objs')) : FnOk Go.Proofs.Tryz.prog gl0 f args objs rv objs' :=
  evalFn_ok follows Tc_ok X_none n h

theorem clone_of {f : Nat} (h : isClone f = true) : FnOk Go.Proofs.Tryz.prog gl0 f [.sc (.c (.sl []))] [] (.sc (.full [])) [] := by
  have hf : f = 149 ∨ f = 223 ∨ f = 244 := by
    simp only [isClone, Bool.or_eq_true, beq_iff_eq] at h
    omega
  rcases hf with rfl | rfl | rfl
  · exact clone_empty (Tc_fn (n := 3) (by kernel_rfl)) (Tc_fn (n := 3) (by kernel_rfl))
  · exact clone_empty (Tc_fn (n := 3) (by kernel_rfl)) (Tc_fn (n := 3) (by kernel_rfl))
  · exact clone_empty (Tc_fn (n := 3) (by kernel_rfl)) (Tc_fn (n := 3) (by kernel_rfl))

theorem X_ok : ∀ (f : FuncId) (args : List V) (objs : List Obj) (rv : V) (objs' : List Obj), X f args objs = some (rv, objs') → FnOk Go.Proofs.Tryz.prog gl0 f args objs rv objs' := by
  intro f args objs rv objs' h
  unfold X at h
  split at h
  · exact Tc_fn h
  · split at h
    · rename_i l
      cases hc : (f == 284 && Nat.ble l.length 281474976710656) with
      | false => rw [hc] at h; cases h
      | true =>
        rw [hc] at h
        simp only [cond_true, Option.some.injEq, Prod.mk.injEq] at h
        simp only [Bool.and_eq_true, beq_iff_eq] at hc
        obtain ⟨rfl, rfl⟩ := h
        obtain ⟨rfl, hl⟩ := hc
        exact ok202 (Nat.le_of_ble_eq_true hl)
    · cases hc : isClone f with
      | false => rw [hc] at h; cases h
      | true =>
        rw [hc] at h
        simp only [cond_true, Option.some.injEq, Prod.mk.injEq] at h
        obtain ⟨rfl, rfl⟩ := h
        exact clone_of hc
    · exact Tc_fn h

/-- What the evaluator says, the program does. -/
theorem ev_ok {n : Nat} {f : FuncId} {args : List V} {objs : List Obj} {rv : V} {objs' : List Obj} (h : ev n f args objs = some (rv, objs')) : FnOk Go.Proofs.Tryz.prog gl0 f args objs rv objs' :=
  evalFn_ok follows T_ok X_ok n h
end Tryz
end Go.Vs

/- Answers that are known beside the tables. -/
namespace Go.Vs
open Go

mutual
def Cell.eqb : Cell → Cell → Bool
  | .int k n, .int k' n' => decide (k = k') && decide (n = n')
  | .bool b, .bool b' => b == b'
  | .str s, .str s' => s == s'
  | .sl rows, .sl rows' => Cell.eqRows rows rows'
  | .nilfn, .nilfn => true
  | .nilptr, .nilptr => true
  | .nilif, .nilif => true
  | _, _ => false
def Cell.eqRows : List (List Cell) → List (List Cell) → Bool
  | [], [] => true
  | r :: rs, r' :: rs' => Cell.eqList r r' && Cell.eqRows rs rs'
  | _, _ => false
def Cell.eqList : List Cell → List Cell → Bool
  | [], [] => true
  | c :: cs, c' :: cs' => Cell.eqb c c' && Cell.eqList cs cs'
  | _, _ => false
end

mutual
theorem Cell.eqb_eq : ∀ (a b : Cell), Cell.eqb a b = true → a = b
  | .int k n, b, h => by cases b <;> simp_all [Cell.eqb]
  | .bool _, b, h => by cases b <;> simp_all [Cell.eqb]
  | .str _, b, h => by cases b <;> simp_all [Cell.eqb]
  | .sl rows, b, h => by
    cases b with
    | sl rows' => rw [Cell.eqRows_eq rows rows' (by simpa [Cell.eqb] using h)]
    | _ => simp [Cell.eqb] at h
  | .fn .., b, h => by cases b <;> simp [Cell.eqb] at h
  | .nilfn, b, h => by cases b <;> simp_all [Cell.eqb]
  | .nilptr, b, h => by cases b <;> simp_all [Cell.eqb]
  | .nilif, b, h => by cases b <;> simp_all [Cell.eqb]
  | .ifc .., b, h => by cases b <;> simp [Cell.eqb] at h
  | .ro .., b, h => by cases b <;> simp [Cell.eqb] at h
theorem Cell.eqRows_eq : ∀ (a b : List (List Cell)), Cell.eqRows a b = true → a = b
  | [], b, h => by cases b <;> simp_all [Cell.eqRows]
  | r :: rs, b, h => by
    cases b with
    | nil => simp [Cell.eqRows] at h
    | cons r' rs' =>
      simp only [Cell.eqRows, Bool.and_eq_true] at h
      rw [Cell.eqList_eq r r' h.1, Cell.eqRows_eq rs rs' h.2]
theorem Cell.eqList_eq : ∀ (a b : List Cell), Cell.eqList a b = true → a = b
  | [], b, h => by cases b <;> simp_all [Cell.eqList]
  | c :: cs, b, h => by
    cases b with
    | nil => simp [Cell.eqList] at h
    | cons c' cs' =>
      simp only [Cell.eqList, Bool.and_eq_true] at h
      rw [Cell.eqb_eq c c' h.1, Cell.eqList_eq cs cs' h.2]
end

def W.eqb : W → W → Bool
  | .c a, .c b => a.eqb b
  | .nil, .nil => true
  | _, _ => false
theorem W.eqb_eq {a b : W} (h : a.eqb b = true) : a = b := by
  cases a <;> cases b <;> first | rfl | (simp [W.eqb] at h; done) | exact congrArg W.c (Cell.eqb_eq _ _ (by simpa [W.eqb] using h))

def eqWs : List W → List W → Bool
  | [], [] => true
  | c :: cs, c' :: cs' => c.eqb c' && eqWs cs cs'
  | _, _ => false
theorem eqWs_eq : ∀ {a b : List W}, eqWs a b = true → a = b
  | [], b, h => by cases b <;> simp_all [eqWs]
  | c :: cs, b, h => by
    cases b with
    | nil => simp [eqWs] at h
    | cons c' cs' =>
      simp only [eqWs, Bool.and_eq_true] at h
      rw [W.eqb_eq h.1, eqWs_eq h.2]

def V.eqb : V → V → Bool
  | .sc a, .sc b => a.eqb b
  | .ag a, .ag b => eqWs a b
  | _, _ => false
theorem V.eqb_eq {a b : V} (h : a.eqb b = true) : a = b := by
  cases a <;> cases b <;> first | (simp [V.eqb] at h; done) | exact congrArg V.sc (W.eqb_eq (by simpa [V.eqb] using h)) | exact congrArg V.ag (eqWs_eq (by simpa [V.eqb] using h))

def eqVs : List V → List V → Bool
  | [], [] => true
  | c :: cs, c' :: cs' => c.eqb c' && eqVs cs cs'
  | _, _ => false
theorem eqVs_eq : ∀ {a b : List V}, eqVs a b = true → a = b
  | [], b, h => by cases b <;> simp_all [eqVs]
  | c :: cs, b, h => by
    cases b with
    | nil => simp [eqVs] at h
    | cons c' cs' =>
      simp only [eqVs, Bool.and_eq_true] at h
      rw [V.eqb_eq h.1, eqVs_eq h.2]

/-- Calls whose answers are known. -/
abbrev Known := List (Nat × List V × V)

def findK : Known → Nat → List V → Option (V × List Obj)
  | [], _, _ => none
  | (g, k, v) :: r, f, l => bif f == g && eqVs l k then some (v, []) else findK r f l

theorem findK_mem : ∀ {m : Known} {f : Nat} {l : List V} {q : V × List Obj}, findK m f l = some q → q.2 = [] ∧ (f, l, q.1) ∈ m
  | [], _, _, _, h => by cases h
  | (g, k, v) :: r, f, l, q, h => by
    simp only [findK] at h
    cases hk : (f == g && eqVs l k) with
    | true =>
      rw [hk] at h
      simp only [cond_true, Option.some.injEq] at h
      simp only [Bool.and_eq_true, beq_iff_eq] at hk
      obtain ⟨rfl, hk⟩ := hk
      have := eqVs_eq hk
      subst this
      subst h
      exact ⟨rfl, by simp⟩
    | false =>
      rw [hk] at h
      obtain ⟨h1, h2⟩ := findK_mem h
      exact ⟨h1, List.mem_cons_of_mem _ h2⟩

/-- The table of one function alone, and the answers that are known. -/
theorem known_ok {P : Program} {gl : Nat → List Cell} {T : FuncId → Option VFun} (hP : P.follows .mixedOrders = true) (hT : ∀ f vf, T f = some vf → mFun P f vf = true) {m : Known} (hm : ∀ p ∈ m, FnOk P gl p.1 p.2.1 [] p.2.2 []) {f : FuncId} {n : Nat} {args : List V} {objs : List Obj} {rv : V} {objs' : List Obj}
    (h : evalFn (fun g => bif g == f then T g else none) (fun g args objs => match objs with | [] => findK m g args | _ => none) gl n f args objs = some (rv, objs')) : FnOk P gl f args objs rv objs' := by
  refine evalFn_ok hP (fun g vf hg => ?_) (fun g args objs rv objs' hx => ?_) n h
  · cases hgf : (g == f) with
    | true => rw [hgf] at hg; exact hT g vf hg
    | false => rw [hgf] at hg; cases hg
  · cases objs with
    | cons _ _ => cases hx
    | nil =>
      obtain ⟨h1, h2⟩ := findK_mem hx
      simp only at h1 h2
      subst h1
      exact hm _ h2
end Go.Vs

/- RunLoops: what it evaluates once. The answers are the kernel's. -/
namespace Go.Vs.Tryz
open Go Go.Vs

theorem known_of {n : Nat} {f : FuncId} {args : List V} {res : V} (h : (ev n f args []).map (normR false) = some (res, [])) : FnOk Go.Proofs.Tryz.prog gl0 f args [] res [] := by
  obtain ⟨y, h1, h2⟩ := Option.map_eq_some_iff.1 h
  have := (ev_ok (rv := y.1) (objs' := y.2) h1).norm false
  rw [show normR false (y.1, y.2) = (res, []) from h2] at this
  exact this
def rlP : V := (.ag [(.c (.sl [])), (.c (.sl [[(.int .i64 0), (.bool true), (.str [102]), (.bool false), (.int .i64 0), (.str []), (.int .i64 0), (.int .i64 0), (.sl []), (.int .i64 4), (.int .i64 12), (.str [120]), (.int .i64 0), (.sl [[(.int .i64 5), (.int .i64 16), (.str []), (.int .i64 0), (.sl [[(.int .i64 1), (.int .i64 16), (.str [102]), (.int .i64 0), (.sl []), (.sl []), (.int .i64 0), (.str []), (.int .i64 0), (.int .i64 0), (.sl [])], [(.int .i64 1), (.int .i64 18), (.str [120]), (.int .i64 0), (.sl []), (.sl []), (.int .i64 0), (.str []), (.int .i64 0), (.int .i64 0), (.sl [])]]), (.sl []), (.int .i64 0), (.str []), (.int .i64 0), (.int .i64 0), (.sl [])]]), (.sl []), (.int .i64 0), (.str []), (.int .i64 0), (.int .i64 0), (.sl [])], [(.int .i64 21), (.bool false), (.str [110]), (.bool false), (.int .i64 0), (.str []), (.int .i64 0), (.int .i64 0), (.sl []), (.int .i64 5), (.int .i64 29), (.str []), (.int .i64 0), (.sl [[(.int .i64 1), (.int .i64 29), (.str [102]), (.int .i64 0), (.sl []), (.sl []), (.int .i64 0), (.str []), (.int .i64 0), (.int .i64 0), (.sl [])], [(.int .i64 3), (.int .i64 31), (.str []), (.int .i64 1), (.sl []), (.sl []), (.int .i64 0), (.str []), (.int .i64 0), (.int .i64 0), (.sl [])]]), (.sl []), (.int .i64 0), (.str []), (.int .i64 0), (.int .i64 0), (.sl [])]]))])
def rlE0 : V := (.ag [(.c (.int .i64 7)), (.c (.int .i64 0)), (.c (.str [102])), (.c (.int .i64 0)), (.c (.sl [[(.int .i64 4), (.int .i64 0), (.str [120]), (.int .i64 0), (.sl [[(.int .i64 5), (.int .i64 0), (.str []), (.int .i64 0), (.sl [[(.int .i64 1), (.int .i64 0), (.str [102]), (.int .i64 0), (.sl []), (.sl []), (.int .i64 0), (.str []), (.int .i64 0), (.int .i64 0), (.sl [])], [(.int .i64 1), (.int .i64 0), (.str [120]), (.int .i64 0), (.sl []), (.sl []), (.int .i64 0), (.str []), (.int .i64 0), (.int .i64 0), (.sl [])]]), (.sl []), (.int .i64 0), (.str []), (.int .i64 0), (.int .i64 0), (.sl [])]]), (.sl []), (.int .i64 0), (.str []), (.int .i64 0), (.int .i64 0), (.sl [])], [(.int .i64 6), (.int .i64 0), (.str [110]), (.int .i64 0), (.sl [[(.int .i64 5), (.int .i64 0), (.str []), (.int .i64 0), (.sl [[(.int .i64 1), (.int .i64 0), (.str [102]), (.int .i64 0), (.sl []), (.sl []), (.int .i64 0), (.str []), (.int .i64 0), (.int .i64 0), (.sl [])], [(.int .i64 3), (.int .i64 0), (.str []), (.int .i64 1), (.sl []), (.sl []), (.int .i64 0), (.str []), (.int .i64 0), (.int .i64 0), (.sl [])]]), (.sl []), (.int .i64 0), (.str []), (.int .i64 0), (.int .i64 0), (.sl [])], [(.int .i64 1), (.int .i64 0), (.str [110]), (.int .i64 0), (.sl []), (.sl []), (.int .i64 0), (.str []), (.int .i64 0), (.int .i64 0), (.sl [])]]), (.sl []), (.int .i64 0), (.str []), (.int .i64 0), (.int .i64 0), (.sl [])]])), (.c (.sl [])), (.c (.int .i64 0)), (.c (.str [])), (.c (.int .i64 0)), (.c (.int .i64 0)), (.c (.sl []))])
def rlE1 : V := (.ag [(.c (.int .i64 6)), (.c (.int .i64 0)), (.c (.str [110])), (.c (.int .i64 0)), (.c (.sl [[(.int .i64 5), (.int .i64 0), (.str []), (.int .i64 0), (.sl [[(.int .i64 7), (.int .i64 0), (.str [102]), (.int .i64 0), (.sl [[(.int .i64 4), (.int .i64 0), (.str [120]), (.int .i64 0), (.sl [[(.int .i64 5), (.int .i64 0), (.str []), (.int .i64 0), (.sl [[(.int .i64 1), (.int .i64 0), (.str [102]), (.int .i64 0), (.sl []), (.sl []), (.int .i64 0), (.str []), (.int .i64 0), (.int .i64 0), (.sl [])], [(.int .i64 1), (.int .i64 0), (.str [120]), (.int .i64 0), (.sl []), (.sl []), (.int .i64 0), (.str []), (.int .i64 0), (.int .i64 0), (.sl [])]]), (.sl []), (.int .i64 0), (.str []), (.int .i64 0), (.int .i64 0), (.sl [])]]), (.sl []), (.int .i64 0), (.str []), (.int .i64 0), (.int .i64 0), (.sl [])], [(.int .i64 4), (.int .i64 0), (.str [120]), (.int .i64 0), (.sl [[(.int .i64 5), (.int .i64 0), (.str []), (.int .i64 0), (.sl [[(.int .i64 1), (.int .i64 0), (.str [102]), (.int .i64 0), (.sl []), (.sl []), (.int .i64 0), (.str []), (.int .i64 0), (.int .i64 0), (.sl [])], [(.int .i64 1), (.int .i64 0), (.str [120]), (.int .i64 0), (.sl []), (.sl []), (.int .i64 0), (.str []), (.int .i64 0), (.int .i64 0), (.sl [])]]), (.sl []), (.int .i64 0), (.str []), (.int .i64 0), (.int .i64 0), (.sl [])]]), (.sl []), (.int .i64 0), (.str []), (.int .i64 0), (.int .i64 0), (.sl [])]]), (.sl []), (.int .i64 0), (.str []), (.int .i64 0), (.int .i64 0), (.sl [])], [(.int .i64 3), (.int .i64 0), (.str []), (.int .i64 1), (.sl []), (.sl []), (.int .i64 0), (.str []), (.int .i64 0), (.int .i64 0), (.sl [])]]), (.sl []), (.int .i64 0), (.str []), (.int .i64 0), (.int .i64 0), (.sl [])], [(.int .i64 1), (.int .i64 0), (.str [110]), (.int .i64 0), (.sl []), (.sl []), (.int .i64 0), (.str []), (.int .i64 0), (.int .i64 0), (.sl [])]])), (.c (.sl [])), (.c (.int .i64 0)), (.c (.str [])), (.c (.int .i64 0)), (.c (.int .i64 0)), (.c (.sl []))])
def rlE2 : V := (.ag [(.c (.int .i64 5)), (.c (.int .i64 0)), (.c (.str [])), (.c (.int .i64 0)), (.c (.sl [[(.int .i64 7), (.int .i64 0), (.str [102]), (.int .i64 0), (.sl [[(.int .i64 4), (.int .i64 0), (.str [120]), (.int .i64 0), (.sl [[(.int .i64 5), (.int .i64 0), (.str []), (.int .i64 0), (.sl [[(.int .i64 1), (.int .i64 0), (.str [102]), (.int .i64 0), (.sl []), (.sl []), (.int .i64 0), (.str []), (.int .i64 0), (.int .i64 0), (.sl [])], [(.int .i64 1), (.int .i64 0), (.str [120]), (.int .i64 0), (.sl []), (.sl []), (.int .i64 0), (.str []), (.int .i64 0), (.int .i64 0), (.sl [])]]), (.sl []), (.int .i64 0), (.str []), (.int .i64 0), (.int .i64 0), (.sl [])]]), (.sl []), (.int .i64 0), (.str []), (.int .i64 0), (.int .i64 0), (.sl [])], [(.int .i64 4), (.int .i64 0), (.str [120]), (.int .i64 0), (.sl [[(.int .i64 5), (.int .i64 0), (.str []), (.int .i64 0), (.sl [[(.int .i64 1), (.int .i64 0), (.str [102]), (.int .i64 0), (.sl []), (.sl []), (.int .i64 0), (.str []), (.int .i64 0), (.int .i64 0), (.sl [])], [(.int .i64 1), (.int .i64 0), (.str [120]), (.int .i64 0), (.sl []), (.sl []), (.int .i64 0), (.str []), (.int .i64 0), (.int .i64 0), (.sl [])]]), (.sl []), (.int .i64 0), (.str []), (.int .i64 0), (.int .i64 0), (.sl [])]]), (.sl []), (.int .i64 0), (.str []), (.int .i64 0), (.int .i64 0), (.sl [])]]), (.sl []), (.int .i64 0), (.str []), (.int .i64 0), (.int .i64 0), (.sl [])], [(.int .i64 3), (.int .i64 0), (.str []), (.int .i64 1), (.sl []), (.sl []), (.int .i64 0), (.str []), (.int .i64 0), (.int .i64 0), (.sl [])]])), (.c (.sl [])), (.c (.int .i64 0)), (.c (.str [])), (.c (.int .i64 0)), (.c (.int .i64 0)), (.c (.sl []))])
def rlE3 : V := (.ag [(.c (.int .i64 5)), (.c (.int .i64 0)), (.c (.str [])), (.c (.int .i64 0)), (.c (.sl [[(.int .i64 4), (.int .i64 0), (.str [120]), (.int .i64 0), (.sl [[(.int .i64 5), (.int .i64 0), (.str []), (.int .i64 0), (.sl [[(.int .i64 7), (.int .i64 0), (.str [102]), (.int .i64 0), (.sl [[(.int .i64 4), (.int .i64 0), (.str [120]), (.int .i64 0), (.sl [[(.int .i64 5), (.int .i64 0), (.str []), (.int .i64 0), (.sl [[(.int .i64 1), (.int .i64 0), (.str [102]), (.int .i64 0), (.sl []), (.sl []), (.int .i64 0), (.str []), (.int .i64 0), (.int .i64 0), (.sl [])], [(.int .i64 1), (.int .i64 0), (.str [120]), (.int .i64 0), (.sl []), (.sl []), (.int .i64 0), (.str []), (.int .i64 0), (.int .i64 0), (.sl [])]]), (.sl []), (.int .i64 0), (.str []), (.int .i64 0), (.int .i64 0), (.sl [])]]), (.sl []), (.int .i64 0), (.str []), (.int .i64 0), (.int .i64 0), (.sl [])], [(.int .i64 4), (.int .i64 0), (.str [120]), (.int .i64 0), (.sl [[(.int .i64 5), (.int .i64 0), (.str []), (.int .i64 0), (.sl [[(.int .i64 1), (.int .i64 0), (.str [102]), (.int .i64 0), (.sl []), (.sl []), (.int .i64 0), (.str []), (.int .i64 0), (.int .i64 0), (.sl [])], [(.int .i64 1), (.int .i64 0), (.str [120]), (.int .i64 0), (.sl []), (.sl []), (.int .i64 0), (.str []), (.int .i64 0), (.int .i64 0), (.sl [])]]), (.sl []), (.int .i64 0), (.str []), (.int .i64 0), (.int .i64 0), (.sl [])]]), (.sl []), (.int .i64 0), (.str []), (.int .i64 0), (.int .i64 0), (.sl [])]]), (.sl []), (.int .i64 0), (.str []), (.int .i64 0), (.int .i64 0), (.sl [])], [(.int .i64 1), (.int .i64 0), (.str [120]), (.int .i64 0), (.sl []), (.sl []), (.int .i64 0), (.str []), (.int .i64 0), (.int .i64 0), (.sl [])]]), (.sl []), (.int .i64 0), (.str []), (.int .i64 0), (.int .i64 0), (.sl [])]]), (.sl []), (.int .i64 0), (.str []), (.int .i64 0), (.int .i64 0), (.sl [])], [(.int .i64 3), (.int .i64 0), (.str []), (.int .i64 1), (.sl []), (.sl []), (.int .i64 0), (.str []), (.int .i64 0), (.int .i64 0), (.sl [])]])), (.c (.sl [])), (.c (.int .i64 0)), (.c (.str [])), (.c (.int .i64 0)), (.c (.int .i64 0)), (.c (.sl []))])
set_option maxRecDepth 100000 in
theorem rl34 : (ev 60 34 [(.sc (.c (.str [108, 101, 116, 32, 114, 101, 99, 32, 102, 32, 61, 32, 92, 120, 46, 32, 102, 32, 120, 59, 32, 108, 101, 116, 32, 110, 32, 61, 32, 102, 32, 49, 59])))] []).map (normR false) = some (rlP, []) := by kernel_rfl
set_option maxRecDepth 100000 in
theorem rl27 : (ev 60 27 [rlP] []).map (normR false) = some (rlE0, []) := by kernel_rfl
set_option maxRecDepth 100000 in
theorem rl16_0 : (ev 60 16 [.sc (.c (.sl [])), rlE0] []).map (normR false) = some (.tu [rlE1, .sc (.c (.int .i64 3)), .sc (.c (.bool true))], []) := by kernel_rfl
set_option maxRecDepth 100000 in
theorem rl71_0 : (ev 60 71 [rlE0] []).map (normR false) = some (.sc (.c (.int .i64 10)), []) := by kernel_rfl
set_option maxRecDepth 100000 in
theorem rl49_0 : (ev 60 49 [rlE0] []).map (normR false) = some (rlE0, []) := by kernel_rfl
set_option maxRecDepth 100000 in
theorem rl19_0 : (ev 60 19 [rlE0] []).map (normR false) = some (.sc (.c (.bool false)), []) := by kernel_rfl
set_option maxRecDepth 100000 in
theorem rl16_1 : (ev 60 16 [.sc (.c (.sl [])), rlE1] []).map (normR false) = some (.tu [rlE2, .sc (.c (.int .i64 2)), .sc (.c (.bool true))], []) := by kernel_rfl
set_option maxRecDepth 100000 in
theorem rl71_1 : (ev 60 71 [rlE1] []).map (normR false) = some (.sc (.c (.int .i64 13)), []) := by kernel_rfl
set_option maxRecDepth 100000 in
theorem rl49_1 : (ev 60 49 [rlE1] []).map (normR false) = some (rlE1, []) := by kernel_rfl
set_option maxRecDepth 100000 in
theorem rl19_1 : (ev 60 19 [rlE1] []).map (normR false) = some (.sc (.c (.bool false)), []) := by kernel_rfl
set_option maxRecDepth 100000 in
theorem rl16_2 : (ev 60 16 [.sc (.c (.sl [])), rlE2] []).map (normR false) = some (.tu [rlE3, .sc (.c (.int .i64 3)), .sc (.c (.bool true))], []) := by kernel_rfl
set_option maxRecDepth 100000 in
theorem rl71_2 : (ev 60 71 [rlE2] []).map (normR false) = some (.sc (.c (.int .i64 11)), []) := by kernel_rfl
set_option maxRecDepth 100000 in
theorem rl49_2 : (ev 60 49 [rlE2] []).map (normR false) = some (rlE2, []) := by kernel_rfl
set_option maxRecDepth 100000 in
theorem rl19_2 : (ev 60 19 [rlE2] []).map (normR false) = some (.sc (.c (.bool false)), []) := by kernel_rfl
set_option maxRecDepth 100000 in
theorem rl16_3 : (ev 60 16 [.sc (.c (.sl [])), rlE3] []).map (normR false) = some (.tu [rlE2, .sc (.c (.int .i64 1)), .sc (.c (.bool true))], []) := by kernel_rfl
set_option maxRecDepth 100000 in
theorem rl71_3 : (ev 60 71 [rlE3] []).map (normR false) = some (.sc (.c (.int .i64 14)), []) := by kernel_rfl
set_option maxRecDepth 100000 in
theorem rl49_3 : (ev 60 49 [rlE3] []).map (normR false) = some (rlE3, []) := by kernel_rfl
set_option maxRecDepth 100000 in
theorem rl19_3 : (ev 60 19 [rlE3] []).map (normR false) = some (.sc (.c (.bool false)), []) := by kernel_rfl
end Go.Vs.Tryz

/- Chapter 27's example, evaluated: the answers of its calls are the kernel's. -/
namespace Go.Vs.Tryz
open Go Go.Vs

def r27arg0 : List V := [(.sc (.c (.str [108, 101, 116, 32, 105, 100, 32, 61, 32, 92, 120, 46, 32, 120, 59, 32, 108, 101, 116, 32, 110, 32, 61, 32, 105, 100, 32, 49, 59])))]
def r27val0 : V := (.ag [(.c (.sl [])), (.c (.sl [[(.int .i64 0), (.bool false), (.str [105, 100]), (.bool false), (.int .i64 0), (.str []), (.int .i64 0), (.int .i64 0), (.sl []), (.int .i64 4), (.int .i64 9), (.str [120]), (.int .i64 0), (.sl [[(.int .i64 1), (.int .i64 13), (.str [120]), (.int .i64 0), (.sl []), (.sl []), (.int .i64 0), (.str []), (.int .i64 0), (.int .i64 0), (.sl [])]]), (.sl []), (.int .i64 0), (.str []), (.int .i64 0), (.int .i64 0), (.sl [])], [(.int .i64 16), (.bool false), (.str [110]), (.bool false), (.int .i64 0), (.str []), (.int .i64 0), (.int .i64 0), (.sl []), (.int .i64 5), (.int .i64 24), (.str []), (.int .i64 0), (.sl [[(.int .i64 1), (.int .i64 24), (.str [105, 100]), (.int .i64 0), (.sl []), (.sl []), (.int .i64 0), (.str []), (.int .i64 0), (.int .i64 0), (.sl [])], [(.int .i64 3), (.int .i64 27), (.str []), (.int .i64 1), (.sl []), (.sl []), (.int .i64 0), (.str []), (.int .i64 0), (.int .i64 0), (.sl [])]]), (.sl []), (.int .i64 0), (.str []), (.int .i64 0), (.int .i64 0), (.sl [])]]))])
set_option maxRecDepth 100000 in
theorem r27call0 : (ev 60 34 r27arg0 []).map (normR false) = some (r27val0, []) := by kernel_rfl
def r27arg1 : List V := [(.ag [(.c (.sl [])), (.c (.sl [[(.int .i64 0), (.bool false), (.str [105, 100]), (.bool false), (.int .i64 0), (.str []), (.int .i64 0), (.int .i64 0), (.sl []), (.int .i64 4), (.int .i64 9), (.str [120]), (.int .i64 0), (.sl [[(.int .i64 1), (.int .i64 13), (.str [120]), (.int .i64 0), (.sl []), (.sl []), (.int .i64 0), (.str []), (.int .i64 0), (.int .i64 0), (.sl [])]]), (.sl []), (.int .i64 0), (.str []), (.int .i64 0), (.int .i64 0), (.sl [])], [(.int .i64 16), (.bool false), (.str [110]), (.bool false), (.int .i64 0), (.str []), (.int .i64 0), (.int .i64 0), (.sl []), (.int .i64 5), (.int .i64 24), (.str []), (.int .i64 0), (.sl [[(.int .i64 1), (.int .i64 24), (.str [105, 100]), (.int .i64 0), (.sl []), (.sl []), (.int .i64 0), (.str []), (.int .i64 0), (.int .i64 0), (.sl [])], [(.int .i64 3), (.int .i64 27), (.str []), (.int .i64 1), (.sl []), (.sl []), (.int .i64 0), (.str []), (.int .i64 0), (.int .i64 0), (.sl [])]]), (.sl []), (.int .i64 0), (.str []), (.int .i64 0), (.int .i64 0), (.sl [])]]))]), (.sc (.c (.int .i64 20)))]
def r27val1 : V := (.tu [(.ag [(.c (.int .i64 3)), (.c (.int .i64 0)), (.c (.str [])), (.c (.int .i64 1)), (.c (.sl [])), (.c (.sl [])), (.c (.int .i64 0)), (.c (.str [])), (.c (.int .i64 0)), (.c (.int .i64 0)), (.c (.sl []))]), (.sc (.c (.int .i64 3))), (.sc (.c (.bool true)))])
set_option maxRecDepth 100000 in
theorem r27call1 : (ev 60 31 r27arg1 []).map (normR false) = some (r27val1, []) := by kernel_rfl
def r27arg2 : List V := [(.ag [(.c (.int .i64 3)), (.c (.int .i64 0)), (.c (.str [])), (.c (.int .i64 1)), (.c (.sl [])), (.c (.sl [])), (.c (.int .i64 0)), (.c (.str [])), (.c (.int .i64 0)), (.c (.int .i64 0)), (.c (.sl []))]), (.ag [(.c (.int .i64 3)), (.c (.int .i64 0)), (.c (.str [])), (.c (.int .i64 1)), (.c (.sl [])), (.c (.sl [])), (.c (.int .i64 0)), (.c (.str [])), (.c (.int .i64 0)), (.c (.int .i64 0)), (.c (.sl []))])]
def r27val2 : V := (.sc (.c (.bool true)))
set_option maxRecDepth 100000 in
theorem r27call2 : (ev 60 18 r27arg2 []).map (normR false) = some (r27val2, []) := by kernel_rfl
def r27arg3 : List V := [(.ag [(.c (.sl [])), (.c (.sl []))])]
def r27val3 : V := (.ag [(.c (.int .i64 3)), (.c (.int .i64 0)), (.c (.str [])), (.c (.int .i64 0)), (.c (.sl [])), (.c (.sl [])), (.c (.int .i64 0)), (.c (.str [])), (.c (.int .i64 0)), (.c (.int .i64 0)), (.c (.sl []))])
set_option maxRecDepth 100000 in
theorem r27call3 : (ev 60 27 r27arg3 []).map (normR false) = some (r27val3, []) := by kernel_rfl
def known27 : Known := [(34, r27arg0, r27val0), (31, r27arg1, r27val1), (18, r27arg2, r27val2), (27, r27arg3, r27val3)]
theorem known27_ok : ∀ p ∈ known27, FnOk Go.Proofs.Tryz.prog gl0 p.1 p.2.1 [] p.2.2 [] := by
  intro p hp
  simp only [known27, List.mem_cons, List.not_mem_nil, or_false] at hp
  rcases hp with rfl | rfl | rfl | rfl
  · exact known_of r27call0
  · exact known_of r27call1
  · exact known_of r27call2
  · exact known_of r27call3
set_option maxRecDepth 100000 in
theorem first27 : FnOk Go.Proofs.Tryz.prog gl0 25 [] [] (.sc (.c (.bool true))) [] :=
  known_ok (n := 2) follows T_ok known27_ok (by kernel_rfl)
end Go.Vs.Tryz

/- RunLoops: the run of the program that never ends. -/
namespace Go.Vs.Tryz
open Go Go.Vs

abbrev nilD : V := .sc (.c (.sl []))
def rlText : V := (.sc (.c (.str [108, 101, 116, 32, 114, 101, 99, 32, 102, 32, 61, 32, 92, 120, 46, 32, 102, 32, 120, 59, 32, 108, 101, 116, 32, 110, 32, 61, 32, 102, 32, 49, 59])))
def rlKnown : Known := [(25, [], .sc (.c (.bool true))), (34, [rlText], rlP), (27, [rlP], rlE0),
  (16, [nilD, rlE0], .tu [rlE1, .sc (.c (.int .i64 3)), .sc (.c (.bool true))]), (71, [rlE0], .sc (.c (.int .i64 10))), (49, [rlE0], rlE0), (19, [rlE0], .sc (.c (.bool false))),
  (16, [nilD, rlE1], .tu [rlE2, .sc (.c (.int .i64 2)), .sc (.c (.bool true))]), (71, [rlE1], .sc (.c (.int .i64 13))), (49, [rlE1], rlE1), (19, [rlE1], .sc (.c (.bool false))),
  (16, [nilD, rlE2], .tu [rlE3, .sc (.c (.int .i64 3)), .sc (.c (.bool true))]), (71, [rlE2], .sc (.c (.int .i64 11))), (49, [rlE2], rlE2), (19, [rlE2], .sc (.c (.bool false))),
  (16, [nilD, rlE3], .tu [rlE2, .sc (.c (.int .i64 1)), .sc (.c (.bool true))]), (71, [rlE3], .sc (.c (.int .i64 14))), (49, [rlE3], rlE3), (19, [rlE3], .sc (.c (.bool false)))]
theorem rlKnown_ok : ∀ p ∈ rlKnown, FnOk Go.Proofs.Tryz.prog gl0 p.1 p.2.1 [] p.2.2 [] := by
  intro p hp
  simp only [rlKnown, List.mem_cons, List.not_mem_nil, or_false] at hp
  rcases hp with rfl | rfl | rfl | rfl | rfl | rfl | rfl | rfl | rfl | rfl | rfl | rfl | rfl | rfl | rfl | rfl | rfl | rfl | rfl
  · exact first27
  · exact known_of rl34
  · exact known_of rl27
  · exact known_of rl16_0
  · exact known_of rl71_0
  · exact known_of rl49_0
  · exact known_of rl19_0
  · exact known_of rl16_1
  · exact known_of rl71_1
  · exact known_of rl49_1
  · exact known_of rl19_1
  · exact known_of rl16_2
  · exact known_of rl71_2
  · exact known_of rl49_2
  · exact known_of rl19_2
  · exact known_of rl16_3
  · exact known_of rl71_3
  · exact known_of rl49_3
  · exact known_of rl19_3
/-- The functions that are walked; all others are known. -/
def Tl : FuncId → Option VFun := fun f => bif f == 8 || f == 30 || f == 31 || f == 33 then T f else none
def Xl : Oracle := fun f args objs => match objs with | [] => findK rlKnown f args | _ => none
theorem Tl_ok : ∀ f vf, Tl f = some vf → mFun Go.Proofs.Tryz.prog f vf = true := by
  intro f vf h
  unfold Tl at h
  cases hf : (f == 8 || f == 30 || f == 31 || f == 33) with
  | true => rw [hf] at h; exact T_ok f vf h
  | false => rw [hf] at h; cases h
theorem find_ok {P : Program} {gl : Nat → List Cell} {m : Known} (hm : ∀ p ∈ m, FnOk P gl p.1 p.2.1 [] p.2.2 []) : ∀ (f : FuncId) (args : List V) (objs : List Obj) (rv : V) (objs' : List Obj), (match objs with | [] => findK m f args | _ => none) = some (rv, objs') → FnOk P gl f args objs rv objs' := by
  intro f args objs rv objs' h
  cases objs with
  | cons _ _ => cases h
  | nil =>
    obtain ⟨h1, h2⟩ := findK_mem h
    simp only at h1 h2
    subst h1
    exact hm _ h2
theorem Xl_ok : ∀ (f : FuncId) (args : List V) (objs : List Obj) (rv : V) (objs' : List Obj), Xl f args objs = some (rv, objs') → FnOk Go.Proofs.Tryz.prog gl0 f args objs rv objs' := find_ok rlKnown_ok
noncomputable def Kl : Ctx := ⟨lim Tl Xl gl0, gl0⟩
@[simp] theorem Kl_gl : Kl.gl = gl0 := rfl
theorem fn_l {f : FuncId} {vf : VFun} {args : List V} {objs : List Obj} {r : V × List Obj} (hT : Tl f = some vf) (hn : args.length = vf.nparams) (ho : objs.length ≤ 64)
    (h : wp Kl vf.body (doneQ vf.keep objs.length vf.results r) ⟨enumF 0 args, enumF 0 (objs.map some)⟩) : Kl.call f args objs = some r := lim_wp hT hn ho h
theorem kl_x {f : FuncId} {args : List V} {res : V} (hT : Tl f = none) (h : findK rlKnown f args = some (res, [])) : Kl.call f args [] = some (res, []) := lim_X hT h
theorem kl25 : Kl.call 25 [] [] = some (.sc (.c (.bool true)), []) := kl_x (by kernel_rfl) (by kernel_rfl)
theorem kl34 : Kl.call 34 [rlText] [] = some (rlP, []) := kl_x (by kernel_rfl) (by kernel_rfl)
theorem kl27 : Kl.call 27 [rlP] [] = some (rlE0, []) := kl_x (by kernel_rfl) (by kernel_rfl)
theorem kl16_0 : Kl.call 16 [nilD, rlE0] [] = some (.tu [rlE1, .sc (.c (.int .i64 3)), .sc (.c (.bool true))], []) := kl_x (by kernel_rfl) (by kernel_rfl)
theorem kl71_0 : Kl.call 71 [rlE0] [] = some (.sc (.c (.int .i64 10)), []) := kl_x (by kernel_rfl) (by kernel_rfl)
theorem kl49_0 : Kl.call 49 [rlE0] [] = some (rlE0, []) := kl_x (by kernel_rfl) (by kernel_rfl)
theorem kl19_0 : Kl.call 19 [rlE0] [] = some (.sc (.c (.bool false)), []) := kl_x (by kernel_rfl) (by kernel_rfl)
theorem kl16_1 : Kl.call 16 [nilD, rlE1] [] = some (.tu [rlE2, .sc (.c (.int .i64 2)), .sc (.c (.bool true))], []) := kl_x (by kernel_rfl) (by kernel_rfl)
theorem kl71_1 : Kl.call 71 [rlE1] [] = some (.sc (.c (.int .i64 13)), []) := kl_x (by kernel_rfl) (by kernel_rfl)
theorem kl49_1 : Kl.call 49 [rlE1] [] = some (rlE1, []) := kl_x (by kernel_rfl) (by kernel_rfl)
theorem kl19_1 : Kl.call 19 [rlE1] [] = some (.sc (.c (.bool false)), []) := kl_x (by kernel_rfl) (by kernel_rfl)
theorem kl16_2 : Kl.call 16 [nilD, rlE2] [] = some (.tu [rlE3, .sc (.c (.int .i64 3)), .sc (.c (.bool true))], []) := kl_x (by kernel_rfl) (by kernel_rfl)
theorem kl71_2 : Kl.call 71 [rlE2] [] = some (.sc (.c (.int .i64 11)), []) := kl_x (by kernel_rfl) (by kernel_rfl)
theorem kl49_2 : Kl.call 49 [rlE2] [] = some (rlE2, []) := kl_x (by kernel_rfl) (by kernel_rfl)
theorem kl19_2 : Kl.call 19 [rlE2] [] = some (.sc (.c (.bool false)), []) := kl_x (by kernel_rfl) (by kernel_rfl)
theorem kl16_3 : Kl.call 16 [nilD, rlE3] [] = some (.tu [rlE2, .sc (.c (.int .i64 1)), .sc (.c (.bool true))], []) := kl_x (by kernel_rfl) (by kernel_rfl)
theorem kl71_3 : Kl.call 71 [rlE3] [] = some (.sc (.c (.int .i64 14)), []) := kl_x (by kernel_rfl) (by kernel_rfl)
theorem kl49_3 : Kl.call 49 [rlE3] [] = some (rlE3, []) := kl_x (by kernel_rfl) (by kernel_rfl)
theorem kl19_3 : Kl.call 19 [rlE3] [] = some (.sc (.c (.bool false)), []) := kl_x (by kernel_rfl) (by kernel_rfl)
end Go.Vs.Tryz
