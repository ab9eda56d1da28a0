/- Types' sizes, assignments, and the small functions of contexts, walked. (Parts of one proof, put together.) -/
import Derived.Test.YtlcncicmkkelcaaGreatDoorR0
import Derived.Test.YtlcncicmkkelcaaGreatDoorM6
import Derived.Sort.AssemblyPlain
set_option linter.unusedSimpArgs false
set_option linter.unusedVariables false
set_option linter.deprecated false

/- Types' sizes, assignments, and the small functions of contexts, walked. -/
namespace Go.Vs
open Go
mutual
def Ty.size : Ty → Nat
  | .mk _ _ _ _ a => 1 + Ty.sizes a
def Ty.sizes : List Ty → Nat
  | [] => 0
  | t :: r => t.size + Ty.sizes r
end
theorem Ty.sizes_map : ∀ l : List Ty, Ty.sizes l = (l.map Ty.size).sum
  | [] => by simp [Ty.sizes]
  | t :: r => by simp [Ty.sizes, Ty.sizes_map r]
theorem Ty.size_eq (t : Ty) : t.size = 1 + (t.args.map Ty.size).sum := by
  cases t
  simp [Ty.size, Ty.args, Ty.sizes_map]

structure AssD where
  id : Int
  ty : Ty
def assRow (a : AssD) : List Cell := .int .i64 a.id :: a.ty.row
def assRows (l : List AssD) : List (List Cell) := l.map assRow
@[simp] theorem assRow_len (a : AssD) : (assRow a).length = 6 := by simp [assRow]
@[simp] theorem assRows_len (l : List AssD) : (assRows l).length = l.length := by simp [assRows]
@[simp] theorem assRows_get (l : List AssD) (i : Nat) : (assRows l)[i]? = (l[i]?).map assRow := by simp [assRows]
@[simp] theorem okRows_ass (l : List AssD) : okRows 6 (wr (assRows l)) = true := okRows_of l assRow_len
@[simp] theorem assRows_snoc (l : List AssD) (x : AssD) : wr (assRows l) ++ [wc (assRow x)] = wr (assRows (l ++ [x])) := by simp [assRows, wr]
@[simp] theorem assRows0 : assRows [] = [] := rfl
section
variable (a : AssD)
@[simp] theorem cut_as0 : cut (assRow a) 0 1 = some [.int .i64 a.id] := by rw [assRow, Ty.row_eq]; rfl
@[simp] theorem cut_as1 : cut (assRow a) 1 5 = some a.ty.row := by rw [assRow, Ty.row_eq]; rfl
@[simp] theorem cut_as : cut (assRow a) 0 6 = some (assRow a) := by rw [assRow, Ty.row_eq]; rfl
@[simp] theorem cutw_as0 : cut (wc (assRow a)) 0 1 = some [.c (.int .i64 a.id)] := by rw [assRow, Ty.row_eq]; rfl
@[simp] theorem cutw_as1 : cut (wc (assRow a)) 1 5 = some (wc a.ty.row) := by rw [assRow, Ty.row_eq]; rfl
@[simp] theorem cutw_as : cut (wc (assRow a)) 0 6 = some (wc (assRow a)) := by rw [assRow, Ty.row_eq]; rfl
@[simp] theorem flat_ass : (wc (assRow a)).all flatW = false := by rw [assRow, Ty.row_eq]; simp [wc, flatW]
end
end Go.Vs

namespace Go.Vs.Tryz
open Go Go.Vs
variable {A : Oracle}

abbrev intsV (l : List Int) : V := .sc (.c (.sl (intRows l)))
abbrev tysV (l : List Ty) : V := .sc (.c (.sl (Ty.rows l)))
abbrev asssV (l : List AssD) : V := .sc (.c (.sl (assRows l)))
abbrev schV (c : Int) (t : Ty) : V := .ag (wc (schRow c t))

def IntsB (r : V × List Obj) : Prop := ∃ b, r = (boolV b, [])

end Go.Vs.Tryz

/- Comparing numbers, the first that differs, and the kinds of terms, walked. -/
namespace Go.Vs.Tryz
open Go Go.Vs
variable {A : Oracle}

/-- How two numbers compare. -/
def cmpI (a b : Int) : Int := if a < b then -1 else if b < a then 1 else 0

/-- The first that is not 0. -/
def orI : List Int → Int
  | [] => 0
  | a :: r => if a = 0 then orI r else a

/-- The place of a kind of term in the order. -/
def kindM (e : Exp) : Int := if e.kind = 4 then 0 else if e.kind = 8 then 2 else 1

end Go.Vs.Tryz

/- Clip, walked. -/
namespace Go.Vs.Tryz
open Go Go.Vs
variable {A : Oracle}

end Go.Vs.Tryz

/- The program's comparison of ranks (a closure over the declarations and the context), walked. -/
namespace Go.Vs
open Go
section
variable {call : FuncId → List V → List Obj → Option (V × List Obj)} {L : Nat → Option Obj} {oid : Nat}
@[simp] theorem call1_clo2 {f : FuncId} {w0 w1 : W} {args : List (Bool × V)} : call1 call L oid (.sc (.clo f [true, true] [[w0], [w1]])) args = callA call L oid f (argsOf L (args ++ [(true, .sc w0), (true, .sc w1)])) := by
  rw [call1_eq]
  rfl
@[simp] theorem call1_clo3 {f : FuncId} {w0 w1 w2 : W} {args : List (Bool × V)} : call1 call L oid (.sc (.clo f [true, true, true] [[w0], [w1], [w2]])) args = callA call L oid f (argsOf L (args ++ [(true, .sc w0), (true, .sc w1), (true, .sc w2)])) := by
  rw [call1_eq]
  rfl
end
end Go.Vs
namespace Go.Vs.Tryz
open Go Go.Vs
variable {A : Oracle}

end Go.Vs.Tryz

/- slices.Reverse, walked. -/
namespace Go.Vs.Tryz
open Go Go.Vs
variable {A : Oracle}

/-- After so many swaps. -/
def swapTo (l : List Exp) : Nat → List Exp
  | 0 => l
  | i + 1 => match (swapTo l i)[i]?, (swapTo l i)[l.length - 1 - i]? with
    | some x, some y => ((swapTo l i).set i y).set (l.length - 1 - i) x
    | _, _ => swapTo l i
@[simp] theorem swapTo_len (l : List Exp) : ∀ i, (swapTo l i).length = l.length
  | 0 => rfl
  | i + 1 => by
    have := swapTo_len l i
    simp only [swapTo]
    split
    · simp [this]
    · exact this
theorem setRow_set {α : Type} : ∀ (l : List α) (i : Nat) (a : α), setRow l i a = l.set i a
  | [], _, _ => rfl
  | _ :: _, 0, _ => rfl
  | b :: r, n + 1, a => by simp only [setRow, List.set_cons_succ, setRow_set r n a]

end Go.Vs.Tryz

/- Sorting numbers: swaps, and insertion sort, walked. -/
namespace Go.Vs.Tryz
open Go Go.Vs
variable {A : Oracle}

abbrev u64V (n : Nat) : V := .sc (.c (.int .u64 n))
def u64Row (n : Nat) : List Cell := [.int .u64 n]
def u64Rows (d : List Nat) : List (List Cell) := d.map u64Row
@[simp] theorem u64Row_len (n : Nat) : (u64Row n).length = 1 := rfl
@[simp] theorem u64Rows_len (d : List Nat) : (u64Rows d).length = d.length := by simp [u64Rows]
@[simp] theorem u64Rows_get (d : List Nat) (i : Nat) : (u64Rows d)[i]? = (d[i]?).map u64Row := by simp [u64Rows]
@[simp] theorem okRows_u64 (d : List Nat) : okRows 1 (wr (u64Rows d)) = true := okRows_of d u64Row_len
@[simp] theorem wc_u64 (n : Nat) : wc (u64Row n) = [.c (.int .u64 n)] := rfl
@[simp] theorem u64Rows_snoc (d : List Nat) (x : Nat) : wr (u64Rows d) ++ [[W.c (.int .u64 x)]] = wr (u64Rows (d ++ [x])) := by simp [u64Rows, wr, u64Row]
@[simp] theorem u64_set (d : List Nat) (i x : Nat) : setRow (wr (u64Rows d)) i [W.c (.int .u64 x)] = wr (u64Rows (d.set i x)) := by
  rw [setRow_set]
  simp [u64Rows, wr, List.map_set, u64Row]
abbrev arrU (d : List Nat) : Obj := .arr 1 (wr (u64Rows d)) 0

/- ## Plain -/
def sortedIn (a b : Nat) (d : List Nat) : Prop := ∀ (p q x y : Nat), a ≤ p → p < q → q < b → d[p]? = some x → d[q]? = some y → x ≤ y
/-- Sorted between a and b; the same elsewhere. -/
def SortR (a b : Nat) (d e : List Nat) : Prop := e.Perm d ∧ (∀ k, k < a ∨ b ≤ k → e[k]? = d[k]?) ∧ sortedIn a b e

/-- Sorted but for place j. -/
def butAt (a i j : Nat) (d : List Nat) : Prop := ∀ (p q x y : Nat), a ≤ p → p < q → q ≤ i → q ≠ j → d[p]? = some x → d[q]? = some y → x ≤ y

/- ## Walks -/
theorem less198 (a b : Nat) : (K A).call 198 [u64V a, u64V b] [] = some (boolV (decide (a < b)), []) := by
  refine fn_of (vf := v198) (by kernel_rfl) rfl (by simp) ?_
  have h : ∀ n : Nat, (K A).call 245 [u64V n] [] = some (boolV false, []) := fun n => by
    refine fn_of (vf := v245) (by kernel_rfl) rfl (by simp) ?_
    unfold v245
    simp
  unfold v198
  simp [h]

def retV : V := .tu []

end Go.Vs.Tryz

/- The library's sort, walked: what its functions compute is what the kit's plain functions say (1). -/
namespace Go.Vs.Tryz
open Go Go.Vs
variable {A : Oracle}

def ltN (x y : Nat) : Bool := decide (x < y)
theorem swoN : Sort.SWO ltN := ⟨fun x => by simp [ltN], fun x y z h1 h2 => by simp only [ltN, decide_eq_true_eq] at *; omega, fun x y z h1 h2 => by simp only [ltN, decide_eq_false_iff_not] at *; omega⟩
theorem ltN_eq (x y : Nat) : ltN x y = decide (x < y) := rfl
abbrev arrA (d : Array Nat) : Obj := arrU d.toList
/-- The list of an array. -/
def Is (e : Array Nat) (l : List Nat) : Prop := e.toList = l
theorem isGet {e : Array Nat} {l : List Nat} (h : Is e l) {i : Nat} (hi : i < e.size) : l[i]? = some e[i]! := by
  cases h
  rw [Array.getElem?_toList]
  simp [hi]
theorem isSwp {e : Array Nat} {l : List Nat} (h : Is e l) (i j : Nat) : Is (Sort.swp e i j) ((l.set i e[j]!).set j e[i]!) := by
  cases h
  unfold Is
  simp [Sort.swp]
theorem isLen {e : Array Nat} {l : List Nat} (h : Is e l) : l.length = e.size := by cases h; simp
theorem isEq {e : Array Nat} {l : List Nat} (h : Is e l) : e.toList = l := h
@[simp] theorem swp_size (d : Array Nat) (i j : Nat) : (Sort.swp d i j).size = d.size := by simp [Sort.swp]

/- ## Insertion -/
theorem ins_step {a j : Nat} (e : Array Nat) (h : a < j) : Sort.insInner ltN a j e = if e[j]! < e[j - 1]! then Sort.insInner ltN a (j - 1) (Sort.swp e j (j - 1)) else e := by
  obtain ⟨k, rfl⟩ : ∃ k, j = k + 1 := ⟨j - 1, by omega⟩
  rw [Sort.insInner]
  simp only [Nat.add_sub_cancel, ltN, h, decide_true, Bool.true_and, decide_eq_true_eq, gt_iff_lt]
theorem ins_stop {a : Nat} (e : Array Nat) : Sort.insInner ltN a a e = e := by
  cases a with
  | zero => rw [Sort.insInner]
  | succ a => rw [Sort.insInner]; simp

set_option maxHeartbeats 4000000 in
theorem insertA (d : Array Nat) (a b : Nat) (hab : a ≤ b) (hb : b ≤ d.size) (hl : d.size ≤ 1073741824) :
    (K A).call 192 [.sc (.arr 0 d.size), intV a, intV b] [arrA d] = some (retV, [arrA (Sort.insertionSort ltN d a b)]) := by
  generalize hR : Sort.insertionSort ltN d a b = R
  unfold Sort.insertionSort at hR
  have hd : Is d d.toList := rfl
  generalize hn : d.size = n at *
  refine fn_of (vf := v192) (by kernel_rfl) rfl (by simp) ?_
  unfold v192
  by_cases h0 : a = b
  · subst h0
    rw [Sort.insOuter, if_neg (by omega)] at hR
    subst hR
    have h1 : ¬ (a : Int) + 1 < a := by omega
    simp (disch := first | omega | (simp; done) | (simp; omega)) 
    refine wp_loopI (fun i s => s = ⟨[(0, .sc (.arr 0 n)), (1, intV a), (2, intV a), (6, intV ((a : Int) + 1))], [(0, some (arrU d.toList))]⟩) 0 (by simp) (fun i s hi => by omega) ?_
    rintro s rfl
    unfold l192_1
    simp (disch := first | omega | (simp; done) | (simp; omega)) [h1, retV]
  · simp (disch := first | omega | (simp; done) | (simp; omega)) 
    refine wp_loopI (fun i s => ∃ (e : Array Nat) (l : List Nat), Is e l ∧ e.size = n ∧ Sort.insOuter ltN a b (a + 1 + i) e = R ∧ s = ⟨[(0, .sc (.arr 0 n)), (1, intV a), (2, intV b), (6, intV ((a + 1 + i : Nat) : Int))], [(0, some (arrU l))]⟩) (b - (a + 1))
      ⟨d, d.toList, hd, hn, hR, by simp⟩ ?_ ?_
    · rintro i s hi ⟨e, l, hel, he, hR, rfl⟩
      generalize hi0 : a + 1 + i = i0 at *
      have hi1 : (a : Int) + 1 + (i + 1) = (i0 : Int) + 1 := by omega
      have hib : (i0 : Int) < b := by omega
      have hll := isLen hel
      rw [Sort.insOuter, if_pos (by omega)] at hR
      unfold l192_1
      simp (disch := first | omega | (simp; done) | (simp; omega)) [hib]
      refine wp_loopI (fun r s => ∃ (e2 : Array Nat) (l2 : List Nat), Is e2 l2 ∧ e2.size = n ∧ Sort.insOuter ltN a b (i0 + 1) (Sort.insInner ltN a (i0 - r) e2) = R ∧
          s = ⟨[(0, .sc (.arr 0 n)), (1, intV a), (2, intV b), (6, intV i0), (7, intV ((i0 - r : Nat) : Int))], [(0, some (arrU l2))]⟩) (i0 - a)
        ⟨e, l, hel, he, hR, by simp⟩ ?_ ?_
      · rintro r s hr ⟨e2, l2, hel2, he2, hR2, rfl⟩
        generalize hj : i0 - r = j at *
        have hx := isGet hel2 (i := j) (by omega)
        have hy := isGet hel2 (i := j - 1) (by omega)
        have hsw := isSwp hel2 j (j - 1)
        rw [ins_step e2 (by omega)] at hR2
        have hl2 := isLen hel2
        generalize e2[j]! = x at *
        generalize e2[j - 1]! = y at *
        have hja : (a : Int) < j := by omega
        have hj1 : (j : Int) - 1 = ((j - 1 : Nat) : Int) := by omega
        have hless := less198 (A := A) x y
        have hjl : j < l2.length := by omega
        have hjl2 : j - 1 < l2.length := by omega
        unfold l192_0
        by_cases hxy : x < y
        · rw [if_pos hxy] at hR2
          simp (maxSteps := 4000000) (disch := first | omega | (simp; done) | (simp; omega)) [hja, hj1, hx, hy, hl2, he2, hless, hxy, -getElem?_pos]
          have e1 : i0 - (r + 1) = j - 1 := by omega
          exact ⟨_, _, hsw, by simp [he2], by rw [e1]; exact hR2, by simp [e1]⟩
        · rw [if_neg hxy] at hR2
          simp (maxSteps := 4000000) (disch := first | omega | (simp; done) | (simp; omega)) [hja, hj1, hx, hy, hl2, he2, hless, hxy, -getElem?_pos]
          refine ⟨e2, l2, hel2, he2, ?_, ?_⟩
          · rw [show a + 1 + (i + 1) = i0 + 1 by omega]
            exact hR2
          · simp [hi1]
      · rintro s ⟨e2, l2, hel2, he2, hR2, rfl⟩
        have hja : i0 - (i0 - a) = a := by omega
        rw [hja, ins_stop] at hR2
        rw [hja]
        unfold l192_0
        simp (maxSteps := 4000000) (disch := first | omega | (simp; done) | (simp; omega)) [-getElem?_pos]
        refine ⟨e2, l2, hel2, he2, ?_, ?_⟩
        · rw [show a + 1 + (i + 1) = i0 + 1 by omega]
          exact hR2
        · simp [hi1]
    · rintro s ⟨e, l, hel, he, hR, rfl⟩
      have hbe : a + 1 + (b - (a + 1)) = b := by omega
      rw [hbe, Sort.insOuter, if_neg (by omega)] at hR
      subst hR
      rw [hbe]
      unfold l192_1
      simp (disch := first | omega | (simp; done) | (simp; omega)) [retV, isEq hel]

/- ## The heap -/
theorem sift_stop {hi first root : Nat} (d : Array Nat) (h : 2 * root + 1 ≥ hi) : Sort.siftDown ltN hi first root d = d := by
  rw [Sort.siftDown, dif_pos h]
/-- With the right child. -/
theorem sift_r {hi first root : Nat} (d : Array Nat) (h : 2 * root + 2 < hi) (hlt : d[first + (2 * root + 1)]! < d[first + (2 * root + 2)]!) :
    Sort.siftDown ltN hi first root d = if d[first + root]! < d[first + (2 * root + 2)]! then Sort.siftDown ltN hi first (2 * root + 2) (Sort.swp d (first + root) (first + (2 * root + 2))) else d := by
  rw [Sort.siftDown, dif_neg (by omega), show 2 * root + 1 + 1 = 2 * root + 2 by omega, show first + (2 * root + 1) + 1 = first + (2 * root + 2) by omega]
  simp only [ltN, h, hlt, decide_true, Bool.and_self, if_true, dite_true]
  by_cases h2 : d[first + root]! < d[first + (2 * root + 2)]!
  · simp [h2]
  · simp [h2]
/-- With the left child. -/
theorem sift_l {hi first root : Nat} (d : Array Nat) (h : 2 * root + 1 < hi) (hlt : ¬ (2 * root + 2 < hi ∧ d[first + (2 * root + 1)]! < d[first + (2 * root + 2)]!)) :
    Sort.siftDown ltN hi first root d = if d[first + root]! < d[first + (2 * root + 1)]! then Sort.siftDown ltN hi first (2 * root + 1) (Sort.swp d (first + root) (first + (2 * root + 1))) else d := by
  rw [Sort.siftDown, dif_neg (by omega), show 2 * root + 1 + 1 = 2 * root + 2 by omega, show first + (2 * root + 1) + 1 = first + (2 * root + 2) by omega]
  have hc : (decide (2 * root + 2 < hi) && ltN d[first + (2 * root + 1)]! d[first + (2 * root + 2)]!) = false := by
    rw [ltN, ← Bool.decide_and, decide_eq_false_iff_not]
    exact hlt
  rw [hc]
  simp only [Bool.false_eq_true, if_false, ltN]
  by_cases h2 : d[first + root]! < d[first + (2 * root + 1)]!
  · simp [h2]
  · simp [h2]

set_option maxHeartbeats 8000000 in
theorem siftA (d : Array Nat) (lo hi first : Nat) (hh : first + hi ≤ d.size) (hlo : lo ≤ 1073741824) (hl : d.size ≤ 1073741824) :
    (K A).call 240 [.sc (.arr 0 d.size), intV lo, intV hi, intV first] [arrA d] = some (retV, [arrA (Sort.siftDown ltN hi first lo d)]) := by
  generalize hR : Sort.siftDown ltN hi first lo d = R
  have hd : Is d d.toList := rfl
  generalize hn : d.size = n at *
  refine fn_of (vf := v240) (by kernel_rfl) rfl (by simp) ?_
  unfold v240
  simp (disch := first | omega | (simp; done) | (simp; omega)) 
  refine wp_loopI (fun r s => ∃ (root : Nat) (e : Array Nat) (l : List Nat), Is e l ∧ e.size = n ∧ Sort.siftDown ltN hi first root e = R ∧ r ≤ root ∧ root ≤ 1073741824 ∧
      s = ⟨[(0, .sc (.arr 0 n)), (2, intV hi), (3, intV first), (8, intV root)], [(0, some (arrU l))]⟩) hi
    ⟨lo, d, d.toList, hd, hn, hR, Nat.zero_le _, hlo, by simp⟩ ?_ ?_
  · rintro r s hr ⟨root, e, l, hel, he, hR, hrr, hrl, rfl⟩
    have hll := isLen hel
    unfold l240_0
    by_cases hstop : hi ≤ 2 * root + 1
    · rw [sift_stop e hstop] at hR
      subst hR
      have hs : (hi : Int) ≤ 2 * root + 1 := by omega
      simp (maxSteps := 4000000) (disch := first | omega | (simp; done) | (simp; omega)) [hs, retV, isEq hel, hll, he, -getElem?_pos]
    · have hs : ¬ (hi : Int) ≤ 2 * root + 1 := by omega
      have hz := isGet hel (i := first + root) (by omega)
      have hx := isGet hel (i := first + (2 * root + 1)) (by omega)
      generalize hc : 2 * root + 1 = c at *
      have hcI : 2 * (root : Int) + 1 = c := by omega
      have hsN : ¬ hi ≤ c := by omega
      generalize hp0 : first + root = p0 at *
      generalize hp : first + c = p at *
      have hp0I : (first : Int) + root = p0 := by omega
      have hpI : (first : Int) + c = p := by omega
      have hp0l : p0 < l.length := by omega
      have hpl : p < l.length := by omega
      by_cases hr2 : c + 1 < hi ∧ e[p]! < e[p + 1]!
      · obtain ⟨h1, h2⟩ := hr2
        have hy := isGet hel (i := p + 1) (by omega)
        have hsw := isSwp hel p0 (p + 1)
        have hR2 := sift_r (first := first) (root := root) e (by omega : 2 * root + 2 < hi) (by rw [show 2 * root + 2 = c + 1 by omega, show 2 * root + 1 = c by omega, hp, show first + (c + 1) = p + 1 by omega]; exact h2)
        rw [hR, hp0, show 2 * root + 2 = c + 1 by omega, show first + (c + 1) = p + 1 by omega] at hR2
        have hless := less198 (A := A) e[p]! e[p + 1]!
        have hless2 := less198 (A := A) e[p0]! e[p + 1]!
        generalize e[p0]! = z at *
        generalize e[p]! = x at *
        generalize e[p + 1]! = y at *
        have h1I : (c : Int) + 1 < hi := by omega
        have hpI2 : (first : Int) + (c + 1) = ((p + 1 : Nat) : Int) := by omega
        have hpI3 : (p : Int) + 1 = ((p + 1 : Nat) : Int) := by omega
        generalize hq : p + 1 = q at *
        have hql : q < l.length := by omega
        by_cases hzy : z < y
        · rw [if_pos hzy] at hR2
          simp (maxSteps := 4000000) (disch := first | omega | (simp; done) | (simp; omega)) [hs, hsN, hcI, hp0I, hpI, hpI2, hpI3, h1I, h2, hx, hy, hz, hll, he, hless, hless2, hzy, -getElem?_pos]
          exact ⟨c + 1, _, _, hsw, by simp [he], hR2.symm, by omega, by omega, by simp⟩
        · rw [if_neg hzy] at hR2
          subst hR2
          simp (maxSteps := 4000000) (disch := first | omega | (simp; done) | (simp; omega)) [hs, hsN, hcI, hp0I, hpI, hpI2, hpI3, h1I, h2, hx, hy, hz, hll, he, hless, hless2, hzy, retV, isEq hel, -getElem?_pos]
      · have hsw := isSwp hel p0 p
        have hR2 := sift_l (first := first) (root := root) e (by omega : 2 * root + 1 < hi) (by rw [show 2 * root + 2 = c + 1 by omega, show 2 * root + 1 = c by omega, hp, show first + (c + 1) = p + 1 by omega]; exact hr2)
        rw [hR, hp0, show 2 * root + 1 = c by omega, hp] at hR2
        have hless2 := less198 (A := A) e[p0]! e[p]!
        by_cases h1 : c + 1 < hi
        · have h2 : ¬ e[p]! < e[p + 1]! := fun h => hr2 ⟨h1, h⟩
          have hy := isGet hel (i := p + 1) (by omega)
          have hless := less198 (A := A) e[p]! e[p + 1]!
          clear hr2
          generalize e[p0]! = z at *
          generalize e[p]! = x at *
          generalize e[p + 1]! = y at *
          have h1I : (c : Int) + 1 < hi := by omega
          have hpI2 : (first : Int) + (c + 1) = ((p + 1 : Nat) : Int) := by omega
          have hpI3 : (p : Int) + 1 = ((p + 1 : Nat) : Int) := by omega
          generalize hq : p + 1 = q at *
          have hql : q < l.length := by omega
          by_cases hzy : z < x
          · rw [if_pos hzy] at hR2
            simp (maxSteps := 4000000) (disch := first | omega | (simp; done) | (simp; omega)) [hs, hsN, hcI, hp0I, hpI, hpI2, hpI3, h1I, h2, hx, hy, hz, hll, he, hless, hless2, hzy, -getElem?_pos]
            exact ⟨c, _, _, hsw, by simp [he], hR2.symm, by omega, by omega, by simp⟩
          · rw [if_neg hzy] at hR2
            subst hR2
            simp (maxSteps := 4000000) (disch := first | omega | (simp; done) | (simp; omega)) [hs, hsN, hcI, hp0I, hpI, hpI2, hpI3, h1I, h2, hx, hy, hz, hll, he, hless, hless2, hzy, retV, isEq hel, -getElem?_pos]
        · clear hr2
          generalize e[p0]! = z at *
          generalize e[p]! = x at *
          have h1I : ¬ (c : Int) + 1 < hi := by omega
          by_cases hzy : z < x
          · rw [if_pos hzy] at hR2
            simp (maxSteps := 4000000) (disch := first | omega | (simp; done) | (simp; omega)) [hs, hsN, hcI, hp0I, hpI, h1I, hx, hz, hll, he, hless2, hzy, -getElem?_pos]
            exact ⟨c, _, _, hsw, by simp [he], hR2.symm, by omega, by omega, by simp⟩
          · rw [if_neg hzy] at hR2
            subst hR2
            simp (maxSteps := 4000000) (disch := first | omega | (simp; done) | (simp; omega)) [hs, hsN, hcI, hp0I, hpI, h1I, hx, hz, hll, he, hless2, hzy, retV, isEq hel, -getElem?_pos]
  · rintro s ⟨root, e, l, hel, he, hR, hrr, hrl, rfl⟩
    have hll := isLen hel
    rw [sift_stop e (by omega)] at hR
    subst hR
    have hs : (hi : Int) ≤ 2 * root + 1 := by omega
    unfold l240_0
    simp (maxSteps := 4000000) (disch := first | omega | (simp; done) | (simp; omega)) [hs, retV, isEq hel, hll, he, -getElem?_pos]
end Go.Vs.Tryz

/- Numbers as text, and the names that are not taken (plain). -/
namespace Go.Vs.Tryz
open Go Go.Vs

/-- The digits of a number. -/
def numS (n : Nat) : Str := if h : n < 10 then [UInt8.ofNat (48 + n)] else numS (n / 10) ++ [UInt8.ofNat (48 + n % 10)]
termination_by n
decreasing_by omega
theorem numS_lt {n : Nat} (h : n < 10) : numS n = [UInt8.ofNat (48 + n)] := by rw [numS, dif_pos h]
theorem numS_ge {n : Nat} (h : ¬ n < 10) : numS n = numS (n / 10) ++ [UInt8.ofNat (48 + n % 10)] := by rw [numS, dif_neg h]
theorem numS_pos (n : Nat) : 1 ≤ (numS n).length := by
  by_cases h : n < 10
  · simp [numS_lt h]
  · simp [numS_ge h]
theorem dig_inj {a b : Nat} (ha : a < 10) (hb : b < 10) (h : UInt8.ofNat (48 + a) = UInt8.ofNat (48 + b)) : a = b := by
  have := congrArg UInt8.toNat h
  simp [UInt8.toNat_ofNat'] at this
  omega
theorem numS_inj : ∀ (n m : Nat), numS n = numS m → n = m := by
  intro n
  induction n using Nat.strongRecOn with
  | ind n ih =>
    intro m h
    by_cases hn : n < 10
    · by_cases hm : m < 10
      · rw [numS_lt hn, numS_lt hm] at h
        exact dig_inj hn hm (by simpa using h)
      · have := congrArg List.length h
        rw [numS_lt hn, numS_ge hm] at this
        have h2 := numS_pos (m / 10)
        simp only [List.length_singleton, List.length_append] at this
        omega
    · by_cases hm : m < 10
      · have := congrArg List.length h
        rw [numS_lt hm, numS_ge hn] at this
        have h2 := numS_pos (n / 10)
        simp only [List.length_singleton, List.length_append] at this
        omega
      · rw [numS_ge hn, numS_ge hm] at h
        obtain ⟨h1, h2⟩ := List.append_inj' h (by simp)
        have h3 := ih (n / 10) (by omega) _ h1
        have h4 := dig_inj (Nat.mod_lt _ (by omega)) (Nat.mod_lt _ (by omega)) (by simpa using h2)
        omega
theorem numS_len (n : Nat) : ∀ k, n < 10 ^ k → 1 ≤ k → (numS n).length ≤ k := by
  induction n using Nat.strongRecOn with
  | ind n ih =>
    intro k hk h1
    by_cases hn : n < 10
    · simp [numS_lt hn]; exact h1
    · obtain ⟨k, rfl⟩ : ∃ j, k = j + 1 := ⟨k - 1, by omega⟩
      have hk1 : 1 ≤ k := by
        rcases Nat.eq_zero_or_pos k with rfl | h
        · simp at hk; omega
        · exact h
      have := ih (n / 10) (by omega) k (by rw [Nat.pow_succ] at hk; omega) hk1
      simp [numS_ge hn]
      omega

/-- The name with a number. -/
def vName (k : Nat) : Str := 118 :: numS k
theorem vName_inj {a b : Nat} (h : vName a = vName b) : a = b := numS_inj a b (by simpa [vName] using h)

/-- The names of a list from a number on. -/
noncomputable def vCount (l : List Str) (k : Nat) : Nat := match l with
  | [] => 0
  | s :: r => (open Classical in if ∃ j, k ≤ j ∧ s = vName j then 1 else 0) + vCount r k
theorem vCount_le (l : List Str) (k : Nat) : vCount l k ≤ l.length := by
  induction l with
  | nil => simp [vCount]
  | cons s r ih => simp only [vCount, List.length_cons]; split <;> omega
theorem vCount_mono (l : List Str) (k : Nat) : vCount l (k + 1) ≤ vCount l k := by
  induction l with
  | nil => simp [vCount]
  | cons s r ih =>
    simp only [vCount]
    split
    · rename_i h
      obtain ⟨j, h1, h2⟩ := h
      rw [if_pos ⟨j, by omega, h2⟩]
      omega
    · split <;> omega
theorem vCount_lt {l : List Str} {k : Nat} (h : vName k ∈ l) : vCount l (k + 1) < vCount l k := by
  induction l with
  | nil => simp at h
  | cons s r ih =>
    have hm := vCount_mono r k
    simp only [vCount]
    rcases List.mem_cons.1 h with rfl | h
    · rw [if_neg, if_pos ⟨k, Nat.le_refl _, rfl⟩]
      · omega
      · rintro ⟨j, h1, h2⟩
        have := vName_inj h2
        omega
    · have := ih h
      split
      · rename_i h3
        obtain ⟨j, h1, h2⟩ := h3
        rw [if_pos ⟨j, by omega, h2⟩]
        omega
      · split <;> omega

/-- The number of the n-th name from k on that is not taken. -/
def freshF (taken : List Str) : Nat → Nat → Nat → Nat
  | 0, k, _ => k
  | f + 1, k, n => if vName k ∈ taken then freshF taken f (k + 1) n else if n = 0 then k else freshF taken f (k + 1) (n - 1)
theorem freshF_ge (taken : List Str) : ∀ f k n, k ≤ freshF taken f k n
  | 0, k, n => Nat.le_refl _
  | f + 1, k, n => by
    simp only [freshF]
    split
    · exact Nat.le_trans (by omega) (freshF_ge taken f (k + 1) n)
    · split
      · exact Nat.le_refl _
      · exact Nat.le_trans (by omega) (freshF_ge taken f (k + 1) (n - 1))
theorem freshF_le (taken : List Str) : ∀ f k n, freshF taken f k n ≤ k + f
  | 0, k, n => by simp [freshF]
  | f + 1, k, n => by
    simp only [freshF]
    have h1 := freshF_le taken f (k + 1) n
    have h2 := freshF_le taken f (k + 1) (n - 1)
    split
    · omega
    · split <;> omega
theorem freshF_not (taken : List Str) : ∀ f k n, n + vCount taken k < f → vName (freshF taken f k n) ∉ taken
  | 0, k, n, h => by omega
  | f + 1, k, n, h => by
    simp only [freshF]
    split
    · rename_i hm
      exact freshF_not taken f (k + 1) n (by have := vCount_lt hm; omega)
    · rename_i hm
      split
      · exact hm
      · exact freshF_not taken f (k + 1) (n - 1) (by have := vCount_mono taken k; omega)

/-- The n-th name that is not taken. -/
def freshK (n : Nat) (taken : List Str) : Nat := freshF taken (n + taken.length + 1) 1 n
def freshS (n : Nat) (taken : List Str) : Str := vName (freshK n taken)
theorem freshK_le (n : Nat) (taken : List Str) : freshK n taken ≤ n + taken.length + 2 := by
  have := freshF_le taken (n + taken.length + 1) 1 n
  unfold freshK
  omega
theorem freshS_not (n : Nat) (taken : List Str) : freshS n taken ∉ taken := freshF_not taken _ _ _ (by have := vCount_le taken 1; omega)
end Go.Vs.Tryz

/- Numbers as text and fresh names by the reference, walked. -/
namespace Go.Vs
open Go
section
variable {C : Ctx} {E : Nat → Option V} {L : Nat → Option Obj} {oid : Nat}
@[simp] theorem b_quo {k : IntKind} {a b : Int} (h : b ≠ 0) : binV .quo 0 (.sc (.c (.int k a))) (.sc (.c (.int k b))) = some (.sc (.c (.int k (k.wrap (a.tdiv b)))), []) := by simp [binV, binW, isShift, intBin, h, wrapI]
@[simp] theorem x_slS {x : Opd} {lo hi : Option Opd} : exec1 C E L oid (.slS x lo hi) = (match x.val C E with
    | .sc (.c (.str s)) => match boundOr (hi.map (·.val C E)) s.length s.length with
      | none => none
      | some h => (boundOr (lo.map (·.val C E)) 0 h).map fun l => (.sc (.c (.str ((s.take h).drop l))), [])
    | _ => none) := rfl
end
end Go.Vs
namespace Go.Vs.Tryz
open Go Go.Vs
variable {A : Oracle}

def digits : Str := [48, 49, 50, 51, 52, 53, 54, 55, 56, 57]
theorem number26 (n : Nat) (h0 : n ≠ 0) (h : n ≤ 1073741824) : (K A).call 26 [intV n] [] = some (strV (numS n), []) := by
  refine fn_of (vf := v26) (by kernel_rfl) rfl (by simp) ?_
  have h0' : ¬ (n : Int) = 0 := by omega
  have hneg : ¬ (n : Int) < 0 := by omega
  have hlen := numS_len n 10 (by omega) (by omega)
  unfold v26
  simp (disch := first | omega | (simp; done) | (simp; omega)) [h0, h0', -getElem?_pos]
  refine wp_loopI (fun i s => ∃ (k : Nat) (t : Str), k ≤ n ∧ t.length = i ∧ (if k = 0 then numS n = t else numS n = numS k ++ t) ∧ s = ⟨[(0, intV n), (3, strV t), (4, intV k)], []⟩) (numS n).length ⟨n, [], Nat.le_refl _, rfl, by simp [h0], by first | rfl | simp⟩ ?_ ?_
  · rintro i s hi ⟨k, t, hk, ht, he, rfl⟩
    have hk0 : k ≠ 0 := by
      rintro rfl
      rw [if_pos rfl] at he
      rw [he] at hi
      omega
    rw [if_neg hk0] at he
    have hk0' : ¬ (k : Int) = 0 := by omega
    obtain ⟨d, hd, hd10⟩ : ∃ d, d = k % 10 ∧ d < 10 := ⟨k % 10, rfl, Nat.mod_lt _ (by omega)⟩
    have hmod : (k : Int).tmod 10 = (d : Int) := by rw [Int.tmod_eq_emod_of_nonneg (by omega)]; omega
    have hdiv : (k : Int).tdiv 10 = ((k / 10 : Nat) : Int) := by rw [Int.tdiv_eq_ediv_of_nonneg (by omega)]; omega
    have hb1 : boundOr (some (intV ((d : Int) + 1))) 10 10 = some (d + 1) := natBelow_cast (k := .i64) (n := d + 1) (by omega)
    have hb2 : boundOr (some (intV (d : Int))) 0 (d + 1) = some d := natBelow_cast (k := .i64) (n := d) (by omega)
    have hdr : ∀ d : Nat, d < 10 → List.drop d (48 :: List.take d [49, 50, 51, 52, 53, 54, 55, 56, 57]) = [UInt8.ofNat (48 + d)] := by decide
    have hdd := hdr d hd10
    have hnd : ¬ (d : Int) < 0 := by omega
    have hnext : if k / 10 = 0 then numS n = UInt8.ofNat (48 + d) :: t else numS n = numS (k / 10) ++ UInt8.ofNat (48 + d) :: t := by
      by_cases h10 : k < 10
      · rw [if_pos (by omega), he, numS_lt h10, hd, Nat.mod_eq_of_lt h10]
        rfl
      · rw [if_neg (by omega), he, numS_ge h10, hd]
        simp
    have htl : t.length ≤ 10 := by omega
    unfold l26_0
    simp (disch := first | omega | (simp; done) | (simp; omega)) [hk0, hk0', hnd, hmod, hdiv, hb1, hb2, hdd, -getElem?_pos]
    exact ⟨k / 10, by omega, UInt8.ofNat (48 + d) :: t, by simp [ht], hnext, by simp⟩
  · rintro s ⟨k, t, hk, ht, he, rfl⟩
    have hk0 : k = 0 := by
      by_cases hk0 : k = 0
      · exact hk0
      · rw [if_neg hk0] at he
        have := numS_pos k
        rw [he] at ht
        simp at ht
        rw [ht] at this
        simp at this
    subst hk0
    rw [if_pos rfl] at he
    unfold l26_0
    simp (disch := first | omega | (simp; done) | (simp; omega)) [hneg, he, -getElem?_pos]

theorem fresh29 (n : Nat) (taken : List Str) (hn : n ≤ 1000000) (ht : taken.length ≤ 1000000) : (K A).call 29 [intV n, strsV taken] [] = some (strV (freshS n taken), []) := by
  refine fn_of (vf := v29) (by kernel_rfl) rfl (by simp) ?_
  have hmx : (if (0 : Int) > (n : Int) then (0 : Int) else (n : Int)) = n := by rw [if_neg (by omega)]
  have hge := freshF_ge taken (n + taken.length + 1) 1 n
  have hle := freshK_le n taken
  have hnot := freshS_not n taken
  have hkdef : freshK n taken = freshF taken (n + taken.length + 1) 1 n := rfl
  unfold v29
  simp (disch := first | omega | (simp; done) | (simp; omega)) [hmx, -getElem?_pos]
  refine wp_loopI (fun i s => ∃ j : Nat, j ≤ n ∧ i ≤ n + taken.length ∧ freshF taken (n + taken.length + 1 - i) (1 + i) j = freshK n taken ∧ j + vCount taken (1 + i) < n + taken.length + 1 - i ∧ s = ⟨[(0, intV j), (1, strsV taken), (5, intV ((i : Int) + 1))], []⟩) (freshK n taken - 1)
    ⟨n, Nat.le_refl _, by omega, rfl, by have := vCount_le taken 1; simp only [Nat.add_zero, Nat.sub_zero]; omega, by simp⟩ ?_ ?_
  · rintro i s hi ⟨j, hj, hin, hf, hlt, rfl⟩
    have hnum := number26 (A := A) (i + 1) (by omega) (by omega)
    have hlen := numS_len (i + 1) 10 (by omega) (by omega)
    have hhas := has64 (A := A) taken (vName (i + 1)) (by omega)
    have hv : vName (i + 1) = 118 :: numS (i + 1) := rfl
    obtain ⟨f, hfe⟩ : ∃ f, n + taken.length + 1 - i = f + 1 := ⟨n + taken.length - i, by omega⟩
    rw [hfe, Nat.add_comm 1 i, freshF] at hf
    rw [hfe, Nat.add_comm 1 i] at hlt
    rw [show (((i + 1 : Nat) : Int)) = (i : Int) + 1 by omega] at hnum
    rw [hv] at hhas
    unfold l29_0
    by_cases hm : vName (i + 1) ∈ taken
    · rw [if_pos hm] at hf
      have hm' := hm
      rw [hv] at hm'
      have hcl := vCount_lt hm
      simp (disch := first | omega | (simp; done) | (simp; omega)) [hnum, hhas, hm', -getElem?_pos]
      exact ⟨j, hj, by omega, by rw [show n + taken.length - i = f by omega, show 1 + (i + 1) = i + 1 + 1 by omega]; exact hf, by rw [show 1 + (i + 1) = i + 1 + 1 by omega]; omega, by simp⟩
    · rw [if_neg hm] at hf
      have hm' := hm
      rw [hv] at hm'
      have hj0 : j ≠ 0 := by
        rintro rfl
        rw [if_pos rfl] at hf
        omega
      rw [if_neg hj0] at hf
      have hj0' : ¬ (j : Int) = 0 := by omega
      have hcm := vCount_mono taken (i + 1)
      have hsub : IntKind.i64.wrap ((j : Int) - 1) = ((j - 1 : Nat) : Int) := by rw [wrap_in _ (by omega)]; omega
      simp (disch := first | omega | (simp; done) | (simp; omega)) [hnum, hhas, hm', hj0, hj0', hsub, -getElem?_pos]
      exact ⟨j - 1, by omega, by omega, by rw [show n + taken.length - i = f by omega, show 1 + (i + 1) = i + 1 + 1 by omega]; exact hf, by rw [show 1 + (i + 1) = i + 1 + 1 by omega]; omega, by simp⟩
  · rintro s ⟨j, hj, hin, hf, hlt, rfl⟩
    have hk1 : freshK n taken - 1 + 1 = freshK n taken := by omega
    have hnum := number26 (A := A) (freshK n taken) (by omega) (by omega)
    have hlen := numS_len (freshK n taken) 10 (by omega) (by omega)
    have hhas := has64 (A := A) taken (vName (freshK n taken)) (by omega)
    have hv : vName (freshK n taken) = 118 :: numS (freshK n taken) := rfl
    have hm : vName (freshK n taken) ∉ taken := hnot
    obtain ⟨f, hfe⟩ : ∃ f, n + taken.length + 1 - (freshK n taken - 1) = f + 1 := ⟨n + taken.length - (freshK n taken - 1), by omega⟩
    rw [hfe, Nat.add_comm 1 _, hk1, freshF, if_neg hm] at hf
    have hj0 : j = 0 := by
      by_cases hj0 : j = 0
      · exact hj0
      · rw [if_neg hj0] at hf
        have := freshF_ge taken f (freshK n taken + 1) (j - 1)
        omega
    subst hj0
    rw [hv] at hhas hm
    rw [show (((freshK n taken - 1 : Nat) : Int)) + 1 = (freshK n taken : Int) by omega]
    unfold l29_0
    simp (disch := first | omega | (simp; done) | (simp; omega)) [hnum, hhas, hm, freshS, vName, -getElem?_pos]
end Go.Vs.Tryz

/- The library's sort, walked (2): the heap sort, reversing, the pivot. -/
namespace Go.Vs.Tryz
open Go Go.Vs
variable {A : Oracle}

theorem sift_size (hi first : Nat) : ∀ (k root : Nat) (d : Array Nat), hi - root ≤ k → (Sort.siftDown ltN hi first root d).size = d.size
  | 0, root, d, h => by rw [sift_stop d (by omega)]
  | k + 1, root, d, h => by
    by_cases h1 : 2 * root + 1 ≥ hi
    · rw [sift_stop d h1]
    · by_cases h2 : 2 * root + 2 < hi ∧ d[first + (2 * root + 1)]! < d[first + (2 * root + 2)]!
      · rw [sift_r d h2.1 h2.2]
        split
        · rw [sift_size hi first k _ _ (by omega), swp_size]
        · rfl
      · rw [sift_l d (by omega) h2]
        split
        · rw [sift_size hi first k _ _ (by omega), swp_size]
        · rfl
@[simp] theorem siftDown_size (hi first root : Nat) (d : Array Nat) : (Sort.siftDown ltN hi first root d).size = d.size := sift_size hi first _ root d (Nat.le_refl _)

theorem siftL {e : Array Nat} {l : List Nat} (h : Is e l) {n : Nat} (hn : e.size = n) (lo hi first : Nat) (hh : first + hi ≤ n) (hlo : lo ≤ 1073741824) (hl : n ≤ 1073741824) :
    (K A).call 240 [.sc (.arr 0 n), intV lo, intV hi, intV first] [arrU l] = some (retV, [arrU (Sort.siftDown ltN hi first lo e).toList]) := by
  cases h
  subst hn
  exact siftA e lo hi first hh hlo hl

set_option maxHeartbeats 4000000 in
theorem heapA (d : Array Nat) (a b : Nat) (hab : a < b) (hb : b ≤ d.size) (hl : d.size ≤ 1073741824) :
    (K A).call 193 [.sc (.arr 0 d.size), intV a, intV b] [arrA d] = some (retV, [arrA (Sort.heapSort ltN d a b)]) := by
  generalize hR : Sort.heapSort ltN d a b = R
  unfold Sort.heapSort at hR
  have hd : Is d d.toList := rfl
  generalize hn : d.size = n at *
  refine fn_of (vf := v193) (by kernel_rfl) rfl (by simp) ?_
  unfold v193
  generalize hh : b - a = hi at *
  have hhI : (b : Int) - a = hi := by omega
  have hm1 : (hi : Int) - 1 = ((hi - 1 : Nat) : Int) := by omega
  have hq : Int.tdiv ((hi - 1 : Nat) : Int) 2 = (((hi - 1) / 2 : Nat) : Int) := by
    rw [Int.tdiv_eq_ediv_of_nonneg (by omega)]
    omega
  generalize hk : (hi - 1) / 2 = k0 at *
  simp (maxSteps := 4000000) (disch := first | omega | (simp; done) | (simp; omega)) [hhI, hm1, hq]
  refine wp_loopI (fun r s => ∃ (e : Array Nat) (l : List Nat), Is e l ∧ e.size = n ∧ Sort.heapPop ltN a hi (Sort.heapBuild ltN hi a (k0 + 1 - r) e) = R ∧
      s = ⟨[(0, .sc (.arr 0 n)), (6, intV a), (7, intV 0), (8, intV hi), (9, intV ((k0 : Int) - r))], [(0, some (arrU l))]⟩) (k0 + 1)
    ⟨d, d.toList, hd, hn, by rw [← hR, Nat.sub_zero], by simp⟩ ?_ ?_
  · rintro r s hr ⟨e, l, hel, he, hR, rfl⟩
    obtain ⟨i, hi1⟩ : ∃ i, k0 + 1 - r = i + 1 := ⟨k0 - r, by omega⟩
    rw [hi1, Sort.heapBuild] at hR
    have hiI : (k0 : Int) - r = (i : Int) := by omega
    have hs := siftL (A := A) hel he i hi a (by omega) (by omega) (by omega)
    have hsz : (Sort.siftDown ltN hi a i e).size = n := by simp [he]
    rw [hiI]
    generalize hg : Sort.siftDown ltN hi a i e = g at *
    have hgl : g.toList.length = n := by simp [hsz]
    unfold l193_0
    simp (maxSteps := 4000000) (disch := first | omega | (simp; done) | (simp; omega)) [hs, isLen hel, he, hsz, retV, V.ren]
    refine ⟨g, g.toList, rfl, hsz, ?_, ?_⟩
    · rw [show k0 - r = i by omega]
      exact hR
    · simp
      omega
  · rintro s ⟨e, l, hel, he, hR, rfl⟩
    rw [show k0 + 1 - (k0 + 1) = 0 by omega, Sort.heapBuild] at hR
    have hneg : ¬ (0 : Int) ≤ (k0 : Int) - ((k0 + 1 : Nat) : Int) := by omega
    have hneg2 : (k0 : Int) - ((k0 : Int) + 1) = -1 := by omega
    unfold l193_0
    simp (maxSteps := 4000000) (disch := first | omega | (simp; done) | (simp; omega)) [hneg, hneg2, hm1]
    refine wp_loopI (fun r s => ∃ (e : Array Nat) (l : List Nat), Is e l ∧ e.size = n ∧ Sort.heapPop ltN a (hi - r) e = R ∧
        s = ⟨[(0, .sc (.arr 0 n)), (6, intV a), (7, intV 0), (10, intV ((hi : Int) - 1 - r))], [(0, some (arrU l))]⟩) hi
      ⟨e, l, hel, he, hR, by simp; omega⟩ ?_ ?_
    · rintro r s hr ⟨e, l, hel, he, hR, rfl⟩
      obtain ⟨i, hi1⟩ : ∃ i, hi - r = i + 1 := ⟨hi - r - 1, by omega⟩
      rw [hi1, Sort.heapPop] at hR
      have hiI : (hi : Int) - 1 - r = (i : Int) := by omega
      rw [hiI]
      have hx := isGet hel (i := a) (by omega)
      have hy := isGet hel (i := a + i) (by omega)
      have hsw := isSwp hel a (a + i)
      have hpI : (a : Int) + i = ((a + i : Nat) : Int) := by omega
      have hs := siftL (A := A) hsw (by simp [he]) 0 i a (by omega) (by omega) (by omega : n ≤ _)
      have hsz : (Sort.siftDown ltN i a 0 (Sort.swp e a (a + i))).size = n := by simp [he]
      have h00 : ((0 : Nat) : Int) = 0 := rfl
      rw [h00] at hs
      generalize hp : a + i = p at *
      generalize e[a]! = x at *
      generalize e[p]! = y at *
      have hpl : p < l.length := by rw [isLen hel]; omega
      have hal : a < l.length := by rw [isLen hel]; omega
      generalize hg : Sort.siftDown ltN i a 0 (Sort.swp e a p) = g at *
      have hgl : g.toList.length = n := by simp [hsz]
      obtain ⟨v, hv⟩ := get_of_lt (l := l.set a y) (i := p) (by simp; omega)
      unfold l193_1
      simp (maxSteps := 4000000) (disch := first | omega | (simp; done) | (simp; omega)) [hv, hx, hy, hpI, hs, isLen hel, he, hsz, retV, V.ren, -getElem?_pos]
      refine ⟨g, g.toList, rfl, hsz, ?_, ?_⟩
      · rw [show hi - (r + 1) = i by omega]
        exact hR
      · simp
        omega
    · rintro s ⟨e, l, hel, he, hR, rfl⟩
      rw [Nat.sub_self, Sort.heapPop] at hR
      subst hR
      have hneg : ¬ (0 : Int) ≤ (hi : Int) - 1 - hi := by omega
      have hneg3 : (hi : Int) - 1 - hi = -1 := by omega
      unfold l193_1
      simp (maxSteps := 4000000) (disch := first | omega | (simp; done) | (simp; omega)) [hneg, hneg3, retV, isEq hel]

set_option maxHeartbeats 4000000 in
theorem reverseA (d : Array Nat) (a b : Nat) (hab : a < b) (hb : b ≤ d.size) (hl : d.size ≤ 1073741824) :
    (K A).call 196 [.sc (.arr 0 d.size), intV a, intV b] [arrA d] = some (retV, [arrA (Sort.reverseRange d a b)]) := by
  generalize hR : Sort.reverseRange d a b = R
  unfold Sort.reverseRange at hR
  have hd : Is d d.toList := rfl
  generalize hn : d.size = n at *
  refine fn_of (vf := v196) (by kernel_rfl) rfl (by simp) ?_
  unfold v196
  have hb1 : (b : Int) - 1 = ((b - 1 : Nat) : Int) := by omega
  simp (maxSteps := 4000000) (disch := first | omega | (simp; done) | (simp; omega)) [hb1]
  refine wp_loopI (fun r s => ∃ (i j : Nat) (e : Array Nat) (l : List Nat), Is e l ∧ e.size = n ∧ Sort.reverseLoop i j e = R ∧ j + r ≤ b - 1 ∧ i ≤ b ∧
      s = ⟨[(0, .sc (.arr 0 n)), (6, intV i), (7, intV j)], [(0, some (arrU l))]⟩) b
    ⟨a, b - 1, d, d.toList, hd, hn, hR, by omega, by omega, by simp⟩ ?_ ?_
  · rintro r s hr ⟨i, j, e, l, hel, he, hR, hj, hib, rfl⟩
    rw [Sort.reverseLoop] at hR
    unfold l196_0
    by_cases hij : i < j
    · rw [if_pos hij] at hR
      have hx := isGet hel (i := i) (by omega)
      have hy := isGet hel (i := j) (by omega)
      have hsw := isSwp hel i j
      generalize e[i]! = x at *
      generalize e[j]! = y at *
      have hil : i < l.length := by rw [isLen hel]; omega
      have hjl : j < l.length := by rw [isLen hel]; omega
      have hj1 : (j : Int) - 1 = ((j - 1 : Nat) : Int) := by omega
      simp (maxSteps := 4000000) (disch := first | omega | (simp; done) | (simp; omega)) [hij, hx, hy, hj1, isLen hel, he, -getElem?_pos]
      exact ⟨i + 1, j - 1, _, _, hsw, by simp [he], hR, by omega, by omega, by simp⟩
    · rw [if_neg hij] at hR
      subst hR
      simp (maxSteps := 4000000) (disch := first | omega | (simp; done) | (simp; omega)) [hij, retV, isEq hel]
  · rintro s ⟨i, j, e, l, hel, he, hR, hj, hib, rfl⟩
    omega
end Go.Vs.Tryz
