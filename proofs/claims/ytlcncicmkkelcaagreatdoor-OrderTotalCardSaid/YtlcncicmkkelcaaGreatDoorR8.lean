/- Comparing numbers, the first that differs, and the kinds of terms, walked. (Parts of one proof, put together.) -/
import Derived.Test.YtlcncicmkkelcaaGreatDoorR7
set_option linter.unusedSimpArgs false
set_option linter.unusedVariables false
set_option linter.deprecated false

/- Comparing numbers, the first that differs, and the kinds of terms, walked. -/
namespace Go.Vs.Tryz
open Go Go.Vs
variable {A : Oracle}

/-- How two numbers compare. -/
def cmpI (a b : Int) : Int := if a < b then -1 else if b < a then 1 else 0
theorem isNaN106 (a : Int) : (K A).call 105 [intV a] [] = some (boolV false, []) := by
  refine fn_of (vf := v105) (by kernel_rfl) rfl (by simp) ?_
  unfold v105
  simp (disch := first | omega | (simp; done) | (simp; omega))
theorem compare67 (a b : Int) : (K A).call 55 [intV a, intV b] [] = some (intV (cmpI a b), []) := by
  refine fn_of (vf := v55) (by kernel_rfl) rfl (by simp) ?_
  have h1 := isNaN106 (A := A) a
  have h2 := isNaN106 (A := A) b
  unfold v55 cmpI
  by_cases hl : a < b
  · simp (disch := first | omega | (simp; done) | (simp; omega)) [h1, h2, hl]
  · by_cases hg : b < a
    · simp (disch := first | omega | (simp; done) | (simp; omega)) [h1, h2, hl, hg]
    · simp (disch := first | omega | (simp; done) | (simp; omega)) [h1, h2, hl, hg]

/-- The first that is not 0. -/
def orI : List Int → Int
  | [] => 0
  | a :: r => if a = 0 then orI r else a
theorem orI_zero : ∀ {l : List Int}, (∀ x ∈ l, x = 0) → orI l = 0
  | [], _ => rfl
  | a :: r, h => by
    have ha := h a (by simp)
    simp only [orI, if_pos ha]
    exact orI_zero fun x hx => h x (by simp [hx])
theorem orI_at : ∀ {l : List Int} {i : Nat} {x : Int}, l[i]? = some x → x ≠ 0 → (∀ y ∈ l.take i, y = 0) → orI l = x
  | [], i, x, h, _, _ => by simp at h
  | a :: r, 0, x, h, hx, _ => by
    simp only [List.getElem?_cons_zero, Option.some.injEq] at h
    subst h
    simp only [orI, if_neg hx]
  | a :: r, i + 1, x, h, hx, hz => by
    have ha := hz a (by simp)
    simp only [orI, if_pos ha]
    exact orI_at (i := i) (by simpa using h) hx fun y hy => hz y (by simp [hy])

theorem or70 (l : List Int) (h : l.length ≤ 1073741824) : (K A).call 59 [intsV l] [] = some (intV (orI l), []) := by
  refine fn_of (vf := v59) (by kernel_rfl) rfl (by simp) ?_
  unfold v59
  simp (disch := first | omega | (simp; done) | (simp; omega))
  refine wp_loopI (fun i s => (∀ y ∈ l.take i, y = 0) ∧ s = ⟨[(3, intV 0), (6, intsV l), (7, intV l.length), (8, intV i)], []⟩) l.length ⟨by simp, by simp⟩ ?_ ?_
  · rintro i s hi ⟨hz, rfl⟩
    obtain ⟨x, hx⟩ := get_of_lt hi
    unfold l59_0
    by_cases hx0 : x = 0
    · simp (disch := first | omega | (simp; done) | (simp; omega)) [hi, hx, hx0, -getElem?_pos]
      intro y hy
      rw [take_next hx] at hy
      rcases List.mem_append.1 hy with hy | hy
      · exact hz y hy
      · simp only [List.mem_singleton] at hy
        exact hy.trans hx0
    · have ho := orI_at hx hx0 hz
      simp (disch := first | omega | (simp; done) | (simp; omega)) [hi, hx, hx0, ho, -getElem?_pos]
  · rintro s ⟨hz, rfl⟩
    have ho := orI_zero (l := l) (fun x hx => hz x (by rw [List.take_of_length_le (Nat.le_refl _)]; exact hx))
    unfold l59_0
    simp (disch := first | omega | (simp; done) | (simp; omega)) [ho]

/-- The place of a kind of term in the order. -/
def kindM (e : Exp) : Int := if e.kind = 4 then 0 else if e.kind = 8 then 2 else 1
theorem kind71 (e : Exp) : (K A).call 60 [expV e] [] = some (intV (kindM e), []) := by
  refine fn_of (vf := v60) (by kernel_rfl) rfl (by simp) ?_
  unfold v60 kindM
  by_cases h1 : e.kind = 4
  · simp (disch := first | omega | (simp; done) | (simp; omega)) [h1]
  · by_cases h2 : e.kind = 8
    · simp (disch := first | omega | (simp; done) | (simp; omega)) [h1, h2]
    · simp (disch := first | omega | (simp; done) | (simp; omega)) [h1, h2]

end Go.Vs.Tryz

/- Clip, walked. -/
namespace Go.Vs.Tryz
open Go Go.Vs
variable {A : Oracle}

theorem clip72 (l : List Str) (h : l.length ≤ 1073741824) : (K A).call 61 [strsV l] [] = some (.sc (.full (strRows l)), []) := by
  refine fn_of (vf := v61) (by kernel_rfl) rfl (by simp) ?_
  have hf : rowsFit 1 (strRows l) = true := fit_map (f := strRow) (fun _ => rfl) l
  have ht : (strRows l).take l.length = strRows l := List.take_of_length_le (by simp)
  unfold v61
  simp (disch := first | omega | (simp; done) | (simp; omega)) [slice1, boundOr, natBelow_nat, blt_dec, hf, ht]

end Go.Vs.Tryz

/- The program's comparison of ranks (a closure over the declarations and the context), walked. -/
namespace Go.Vs
open Go
section
variable {call : FuncId → List V → List Obj → Option (V × List Obj)} {L : Nat → Option Obj} {oid : Nat}
@[simp] theorem call1_clo2 {f : FuncId} {w0 w1 : W} {args : List (Bool × V)} : call1 call L oid (.sc (.clo f [true, true] [[w0], [w1]])) args = callA call L oid f (argsOf L (args ++ [(true, .sc w0), (true, .sc w1)])) := by
  rw [call1_eq]
  rfl
@[simp] theorem call1_clo3 {f : FuncId} {w0 w1 w2 : W} {args : List (Bool × V)} : call1 call L oid (.sc (.clo f [true, true, true] [[w0], [w1], [w2]])) args = callA call L oid f (argsOf L (args ++ [(true, .sc w0), (true, .sc w1), (true, .sc w2)])) := by
  rw [call1_eq]
  rfl
end
end Go.Vs
namespace Go.Vs.Tryz
open Go Go.Vs
variable {A : Oracle}

theorem rank66 (ds : List DataD) (ctx : List EntD) (b o : List Str) (x y : Exp) (hd : ds.length ≤ 1000) (hg : ∀ d ∈ ds, d.cons.length ≤ 6) (hc : ctx.length ≤ 1000) (hb : b.length ≤ 1073741824) (ho : o.length ≤ 1073741824) :
    (K A).call 54 [strsV b, expV x, expV y, strsV o, .sc (.ptr 0 0), .sc (.ptr 1 0)] [.box [.c (.sl (dataRows ds))], .box [.c (.sl (entRows ctx))]] =
      some (intV (cmpI (rankM ds (seenN ctx) b x) (rankM ds (seenN ctx) o y)), [.box [.c (.sl (dataRows ds))], .box [.c (.sl (entRows ctx))]]) := by
  refine fn_of (vf := v54) (by kernel_rfl) rfl (by simp) ?_
  have h1 := rank12 (A := A) ds ctx b x hd hg hc hb
  have h2 := rank12 (A := A) ds ctx o y hd hg hc ho
  have h3 := compare67 (A := A) (rankM ds (seenN ctx) b x) (rankM ds (seenN ctx) o y)
  unfold v54
  simp (disch := first | omega | (simp; done) | (simp; omega)) [h1, h2, h3]

end Go.Vs.Tryz

/- slices.Reverse, walked. -/
namespace Go.Vs.Tryz
open Go Go.Vs
variable {A : Oracle}

/-- After so many swaps. -/
def swapTo (l : List Exp) : Nat → List Exp
  | 0 => l
  | i + 1 => match (swapTo l i)[i]?, (swapTo l i)[l.length - 1 - i]? with
    | some x, some y => ((swapTo l i).set i y).set (l.length - 1 - i) x
    | _, _ => swapTo l i
@[simp] theorem swapTo_len (l : List Exp) : ∀ i, (swapTo l i).length = l.length
  | 0 => rfl
  | i + 1 => by
    have := swapTo_len l i
    simp only [swapTo]
    split
    · simp [this]
    · exact this
theorem setRow_set {α : Type} : ∀ (l : List α) (i : Nat) (a : α), setRow l i a = l.set i a
  | [], _, _ => rfl
  | _ :: _, 0, _ => rfl
  | b :: r, n + 1, a => by simp only [setRow, List.set_cons_succ, setRow_set r n a]
theorem rows_set (l : List Exp) (i : Nat) (x : Exp) : setRow (wr (Exp.rows l)) i (wc x.row) = wr (Exp.rows (l.set i x)) := by
  rw [setRow_set]
  simp [Exp.rows_map, wr, List.map_set]

set_option maxHeartbeats 400000 in
theorem reverse107 (l : List Exp) (h : l.length ≤ 1073741824) : ∃ r, r = (.tu [], [.arr 11 (wr (Exp.rows (swapTo l (l.length / 2)))) 0]) ∧ (K A).call 109 [.sc (.arr 0 l.length)] [.arr 11 (wr (Exp.rows l)) 0] = some r := by
  refine fn_ofE (fun r => r = (.tu [], [.arr 11 (wr (Exp.rows (swapTo l (l.length / 2)))) 0])) (vf := v109) (by kernel_rfl) rfl (by simp) ?_
  unfold v109
  simp (disch := first | omega | (simp; done) | (simp; omega))
  refine wp_loopI (fun i s => s = ⟨[(0, .sc (.arr 0 l.length)), (2, intV i), (3, intV (l.length - 1 - i))], [(0, some (.arr 11 (wr (Exp.rows (swapTo l i))) 0))]⟩) (l.length / 2) (by simp [swapTo]) ?_ ?_
  · rintro i s hi rfl
    have hn : ((l.length : Int) - 1 - i) = ((l.length - 1 - i : Nat) : Int) := by omega
    obtain ⟨x, hx⟩ := get_of_lt (l := swapTo l i) (i := i) (by simp; omega)
    obtain ⟨y, hy⟩ := get_of_lt (l := swapTo l i) (i := l.length - 1 - i) (by simp; omega)
    have hlt : (i : Int) < ((l.length - 1 - i : Nat) : Int) := by omega
    have r1 := rows_set (swapTo l i) i y
    have r2 := rows_set ((swapTo l i).set i y) (l.length - 1 - i) x
    rw [hn]
    unfold l109_0
    simp (disch := first | omega | (simp; done) | (simp; omega)) [hx, hy, hlt, swapTo, r1, r2, -getElem?_pos]
    omega
  · rintro s rfl
    have hlt : ¬ (l.length : Int) / 2 < (l.length : Int) - 1 - (l.length : Int) / 2 := by omega
    unfold l109_0
    simp (disch := first | omega | (simp; done) | (simp; omega)) [hlt, -getElem?_pos]

theorem swapTo_get (l : List Exp) : ∀ i, 2 * i ≤ l.length → ∀ j, j < l.length → (swapTo l i)[j]? = if j < i ∨ l.length ≤ j + i then l[l.length - 1 - j]? else l[j]?
  | 0, _, j, hj => by
    have : ¬ (j < 0 ∨ l.length ≤ j + 0) := by omega
    simp only [swapTo, if_neg this]
  | i + 1, hi, j, hj => by
    have h1 := swapTo_get l i (by omega) i (by omega)
    have h2 := swapTo_get l i (by omega) (l.length - 1 - i) (by omega)
    have h3 := swapTo_get l i (by omega) j hj
    rw [if_neg (by omega)] at h1
    rw [if_neg (by omega)] at h2
    obtain ⟨x, hx⟩ := get_of_lt (l := l) (i := i) (by omega)
    obtain ⟨y, hy⟩ := get_of_lt (l := l) (i := l.length - 1 - i) (by omega)
    rw [hx] at h1
    rw [hy] at h2
    simp only [swapTo, h1, h2]
    by_cases e2 : j = l.length - 1 - i
    · subst e2
      rw [List.getElem?_set_self (by simp; omega), if_pos (by omega), show l.length - 1 - (l.length - 1 - i) = i by omega, hx]
    · rw [List.getElem?_set_ne (by omega)]
      by_cases e1 : j = i
      · subst e1
        rw [List.getElem?_set_self (by simp; omega), if_pos (by omega), hy]
      · rw [List.getElem?_set_ne (by omega), h3]
        by_cases hc : j < i ∨ l.length ≤ j + i
        · rw [if_pos hc, if_pos (by omega)]
        · rw [if_neg hc, if_neg (by omega)]
theorem swapTo_rev (l : List Exp) : swapTo l (l.length / 2) = l.reverse := by
  apply List.ext_getElem?
  intro j
  by_cases hj : j < l.length
  · rw [swapTo_get l _ (by omega) j hj, List.getElem?_reverse hj]
    by_cases hc : j < l.length / 2 ∨ l.length ≤ j + l.length / 2
    · rw [if_pos hc]
    · rw [if_neg hc, show l.length - 1 - j = j by omega]
  · rw [List.getElem?_eq_none (by simp; omega), List.getElem?_eq_none (by simp; omega)]

end Go.Vs.Tryz

/- Valid names and the plain type, walked. -/
namespace Go.Vs.Tryz
open Go Go.Vs
variable {A : Oracle}

/-- A sign of a name. -/
def charOk (c : UInt8) : Bool := (97 ≤ c.toNat && c.toNat ≤ 122) || (65 ≤ c.toNat && c.toNat ≤ 90) || (48 ≤ c.toNat && c.toNat ≤ 57) || c.toNat == 95
def keyWords : List Str := [[100, 97, 116, 97], [108, 101, 116], [114, 101, 99], [105, 110], [99, 97, 115, 101], [111, 102], [101, 110, 100]]
/-- A name whose first letter is from lo to hi. -/
def nameOk (lo hi : Nat) (s : Str) : Prop := s.length ≤ 12 ∧ (∃ c, s[0]? = some c ∧ lo ≤ c.toNat ∧ c.toNat ≤ hi) ∧ (∀ c ∈ s, charOk c = true) ∧ s ∉ keyWords

theorem name170 (lo hi : Nat) (s : Str) (h : nameOk lo hi s) : (K A).call 157 [strV s, .sc (.c (.int .u8 lo)), .sc (.c (.int .u8 hi))] [] = some (boolV true, []) := by
  refine fn_of (vf := v157) (by kernel_rfl) rfl (by simp) ?_
  obtain ⟨h1, ⟨c, hc, h2, h3⟩, h4, h5⟩ := h
  simp only [keyWords, List.mem_cons, List.not_mem_nil, or_false, not_or] at h5
  obtain ⟨k1, k2, k3, k4, k5, k6, k7⟩ := h5
  have hl : 0 < s.length := (List.getElem?_eq_some_iff.1 hc).1
  have e1 : ¬ (s.length : Int) < 1 := by omega
  have e2 : ¬ (12 : Int) < s.length := by omega
  have e3 : ¬ (c.toNat : Int) < lo := by omega
  have e4 : ¬ (hi : Int) < c.toNat := by omega
  unfold v157
  simp (disch := first | omega | (simp; done) | (simp; omega)) [e1, e2, e3, e4, hc, -getElem?_pos]
  refine wp_loopI (fun i t => t = ⟨[(0, strV s), (31, intV s.length), (32, intV i)], []⟩) s.length (by simp) ?_ ?_
  · rintro i t hi rfl
    obtain ⟨d, hd⟩ := get_of_lt hi
    have hdo := h4 d (List.mem_of_getElem? hd)
    simp only [charOk, Bool.or_eq_true, Bool.and_eq_true, decide_eq_true_eq, beq_iff_eq] at hdo
    unfold l157_0
    by_cases a1 : 97 ≤ d.toNat
    · by_cases a2 : d.toNat ≤ 122
      · have b1 : (97 : Int) ≤ d.toNat := by omega
        have b2 : (d.toNat : Int) ≤ 122 := by omega
        simp (disch := first | omega | (simp; done) | (simp; omega)) [hi, hd, b1, b2, -getElem?_pos]
      · omega
    · have b1 : ¬ (97 : Int) ≤ d.toNat := by omega
      by_cases a3 : 65 ≤ d.toNat
      · have b3 : (65 : Int) ≤ d.toNat := by omega
        by_cases a4 : d.toNat ≤ 90
        · have b4 : (d.toNat : Int) ≤ 90 := by omega
          simp (disch := first | omega | (simp; done) | (simp; omega)) [hi, hd, b1, b3, b4, -getElem?_pos]
        · have b4 : ¬ (d.toNat : Int) ≤ 90 := by omega
          have b5 : (d.toNat : Int) = 95 := by omega
          simp (disch := first | omega | (simp; done) | (simp; omega)) [hi, hd, b5, -getElem?_pos]
      · have b3 : ¬ (65 : Int) ≤ d.toNat := by omega
        have b4 : ¬ (d.toNat : Int) < 48 := by omega
        have b5 : ¬ (57 : Int) < d.toNat := by omega
        simp (disch := first | omega | (simp; done) | (simp; omega)) [hi, hd, b1, b3, b4, b5, -getElem?_pos]
  · rintro t rfl
    unfold l157_0
    simp (disch := first | omega | (simp; done) | (simp; omega)) [k1, k2, k3, k4, k5, k6, k7, -getElem?_pos]

theorem lower109 (s : Str) (h : nameOk 97 122 s) : (K A).call 111 [strV s] [] = some (boolV true, []) := by
  have h1 : (K A).call 157 [strV s, .sc (.c (.int .u8 97)), .sc (.c (.int .u8 122))] [] = some (boolV true, []) := name170 (A := A) 97 122 s h
  have hs : ¬ s = [] := by
    rintro rfl
    obtain ⟨_, ⟨c, hc, _⟩, _⟩ := h
    cases hc
  have hv : (K A).call 112 [tyV (.mk 5 s 0 0 [])] [] = some (boolV true, []) := by
    refine fn_of (vf := v112) (by kernel_rfl) rfl (by simp) ?_
    unfold v112
    simp (disch := first | omega | (simp; done) | (simp; omega)) [h1, hs, Ty.kind, Ty.name, Ty.id, Ty.home, Ty.args, -getElem?_pos]
  refine fn_of (vf := v111) (by kernel_rfl) rfl (by simp) ?_
  simp [tyV, Ty.row, Ty.rows] at hv
  unfold v111
  simp (disch := first | omega | (simp; done) | (simp; omega)) [hv, -getElem?_pos]

theorem upper108 (s : Str) (h : nameOk 65 90 s) : (K A).call 110 [strV s] [] = some (boolV true, []) := by
  have h1 : (K A).call 157 [strV s, .sc (.c (.int .u8 65)), .sc (.c (.int .u8 90))] [] = some (boolV true, []) := name170 (A := A) 65 90 s h
  have hs : ¬ s = [] := by
    rintro rfl
    obtain ⟨_, ⟨c, hc, _⟩, _⟩ := h
    cases hc
  have hne : ¬ s = [45, 62] := by
    rintro rfl
    obtain ⟨_, ⟨c, hc, h2, h3⟩, _⟩ := h
    cases hc
    simp at h2
  have hv : (K A).call 112 [tyV (.mk 4 s 0 0 [])] [] = some (boolV true, []) := by
    have hcon : (K A).call 158 [strV s, intV 0] [] = some (boolV true, []) := by
      refine fn_of (vf := v158) (by kernel_rfl) rfl (by simp) ?_
      unfold v158
      by_cases hi : s = [73, 110, 116]
      · simp (disch := first | omega | (simp; done) | (simp; omega)) [hi, -getElem?_pos]
      · simp (disch := first | omega | (simp; done) | (simp; omega)) [hne, hi, h1, -getElem?_pos]
    have hall : (K A).call 159 [.sc (.c (.sl [])), .sc (.c (.fn 160 [] []))] [] = some (boolV false, []) := lim_of (n := 10) (by kernel_rfl)
    refine fn_of (vf := v112) (by kernel_rfl) rfl (by simp) ?_
    unfold v112
    simp (disch := first | omega | (simp; done) | (simp; omega)) [hcon, hall, hs, Ty.kind, Ty.name, Ty.id, Ty.home, Ty.args, -getElem?_pos]
  refine fn_of (vf := v110) (by kernel_rfl) rfl (by simp) ?_
  simp [tyV, Ty.row, Ty.rows] at hv
  unfold v110
  simp (disch := first | omega | (simp; done) | (simp; omega)) [hv, -getElem?_pos]
end Go.Vs.Tryz

/- Terms: their heads, arguments and sizes; which are well made (plain). -/
namespace Go.Vs.Tryz
open Go Go.Vs

def spineF (e : Exp) (l : List (Exp × List Exp)) : Exp × List Exp :=
  if e.kind = 5 then match e.kids, l with
    | [_, x], r :: _ => (r.1, r.2 ++ [x])
    | _, _ => (e, [])
  else (e, [])
/-- The head and the arguments. -/
def spine (e : Exp) : Exp × List Exp := e.fold spineF
theorem spine_app {e f x : Exp} (h : e.kind = 5) (hk : e.kids = [f, x]) : spine e = ((spine f).1, (spine f).2 ++ [x]) := by
  unfold spine
  rw [Exp.fold_eq]
  simp [spineF, h, hk, Exp.children]
theorem spine_no {e : Exp} (h : e.kind ≠ 5) : spine e = (e, []) := by
  unfold spine
  rw [Exp.fold_eq]
  simp [spineF, h]

/-- The size of a term. -/
def sizeM (e : Exp) : Nat := e.fold fun e l => if e.kind = 5 then l.sum else if e.kind = 8 then 1 + (l.drop 1).sum else 1 + l.sum
theorem sizeM_eq (e : Exp) : sizeM e = if e.kind = 5 then (e.children.map sizeM).sum else if e.kind = 8 then 1 + ((e.children.map sizeM).drop 1).sum else 1 + (e.children.map sizeM).sum := by
  unfold sizeM
  rw [Exp.fold_eq]

/-- A node of a term. -/
def good1 (e : Exp) : Prop := e.pos = 0 ∧ e.num = 0 ∧ e.ty = tz ∧
  ((e.kind = 1 ∧ nameOk 97 122 e.name ∧ e.kids = [] ∧ e.arms = []) ∨ (e.kind = 2 ∧ nameOk 65 90 e.name ∧ e.kids = [] ∧ e.arms = []) ∨
    (e.kind = 4 ∧ nameOk 97 122 e.name ∧ (∃ x, e.kids = [x]) ∧ e.arms = []) ∨
    (e.kind = 5 ∧ e.name = [] ∧ (∃ f x, e.kids = [f, x] ∧ (f.kind = 1 ∨ f.kind = 2 ∨ f.kind = 5)) ∧ e.arms = []) ∨
    (e.kind = 8 ∧ e.name = [] ∧ (∃ x, e.kids = [x] ∧ x.kind = 1) ∧ e.arms ≠ [] ∧ ∀ a ∈ e.arms, a.1.pos = 0 ∧ nameOk 65 90 a.1.con ∧ a.1.vars.length ≤ 4 ∧ ∀ v ∈ a.1.vars, nameOk 97 122 v))
def good (e : Exp) : Prop := e.fold fun e l => good1 e ∧ ∀ p ∈ l, p
theorem good_eq (e : Exp) : good e = (good1 e ∧ ∀ x ∈ e.children, good x) := by
  have := Exp.fold_eq (fun e (l : List Prop) => good1 e ∧ ∀ p ∈ l, p) e
  unfold good
  rw [this]
  simp only [List.forall_mem_map]
theorem good.one {e : Exp} (h : good e) : good1 e := by rw [good_eq] at h; exact h.1
theorem good.child {e x : Exp} (h : good e) (hx : x ∈ e.children) : good x := by rw [good_eq] at h; exact h.2 x hx

/-- The five kinds of terms. -/
theorem good.cases {e : Exp} (h : good e) : (e.kind = 1 ∧ nameOk 97 122 e.name ∧ e.kids = [] ∧ e.arms = []) ∨ (e.kind = 2 ∧ nameOk 65 90 e.name ∧ e.kids = [] ∧ e.arms = []) ∨
    (e.kind = 4 ∧ nameOk 97 122 e.name ∧ (∃ x, e.kids = [x] ∧ good x) ∧ e.arms = []) ∨
    (e.kind = 5 ∧ e.name = [] ∧ (∃ f x, e.kids = [f, x] ∧ (f.kind = 1 ∨ f.kind = 2 ∨ f.kind = 5) ∧ good f ∧ good x) ∧ e.arms = []) ∨
    (e.kind = 8 ∧ e.name = [] ∧ (∃ x, e.kids = [x] ∧ x.kind = 1 ∧ good x) ∧ e.arms ≠ [] ∧ ∀ a ∈ e.arms, a.1.pos = 0 ∧ nameOk 65 90 a.1.con ∧ a.1.vars.length ≤ 4 ∧ (∀ v ∈ a.1.vars, nameOk 97 122 v) ∧ good a.2) := by
  obtain ⟨_, _, _, h1⟩ := h.one
  rcases h1 with h1 | h1 | ⟨a, b, ⟨x, hx⟩, c⟩ | ⟨a, b, ⟨f, x, hx, hf⟩, c⟩ | ⟨a, b, ⟨x, hx, hk⟩, c, d⟩
  · exact .inl h1
  · exact .inr (.inl h1)
  · exact .inr (.inr (.inl ⟨a, b, ⟨x, hx, h.child (by simp [Exp.children, hx])⟩, c⟩))
  · exact .inr (.inr (.inr (.inl ⟨a, b, ⟨f, x, hx, hf, h.child (by simp [Exp.children, hx]), h.child (by simp [Exp.children, hx])⟩, c⟩)))
  · refine .inr (.inr (.inr (.inr ⟨a, b, ⟨x, hx, hk, h.child (by simp [Exp.children, hx])⟩, c, fun y hy => ?_⟩)))
    obtain ⟨p, q, r, s⟩ := d y hy
    exact ⟨p, q, r, s, h.child (by simp only [Exp.children, List.mem_append, List.mem_map]; exact .inr ⟨y, hy, rfl⟩)⟩

theorem arm_mem {e : Exp} {a : ArmH × Exp} (h : a ∈ e.arms) : a.2 ∈ e.children := List.mem_append_right _ (List.mem_map_of_mem h)

/-- What the spine of a term is made of: a variable or a constructor, and smaller terms; the sizes. -/
theorem spine_good (e : Exp) : good e → (e.kind = 1 ∨ e.kind = 2 ∨ e.kind = 5) → ((spine e).1.kind = 1 ∨ (spine e).1.kind = 2) ∧ good (spine e).1 ∧ (∀ x ∈ (spine e).2, good x) ∧
    sizeM e = 1 + ((spine e).2.map sizeM).sum ∧ 1 + ((spine e).2.map Exp.weight).sum + (spine e).2.length ≤ e.weight := by
  induction e using Exp.ind with
  | h e ih =>
    intro hg hk
    by_cases h5 : e.kind = 5
    · rcases hg.cases with h | h | h | ⟨_, _, ⟨f, x, hfx, hf, gf, gx⟩, ha⟩ | h
      · omega
      · omega
      · omega
      · have hc : e.children = [f, x] := by simp [Exp.children, hfx, ha]
        obtain ⟨h1, h2, h3, h4, h6⟩ := ih f (by simp [hc]) gf hf
        rw [spine_app h5 hfx, sizeM_eq, if_pos h5, hc, e.weight_eq, ha, hc]
        refine ⟨h1, h2, ?_, ?_, ?_⟩
        · intro y hy
          rcases List.mem_append.1 hy with hy | hy
          · exact h3 y hy
          · simp only [List.mem_singleton] at hy
            exact hy ▸ gx
        · simp [h4]; omega
        · simp; omega
      · omega
    · rw [spine_no h5]
      have hk2 : e.kind = 1 ∨ e.kind = 2 := by omega
      have hk8 : e.kind ≠ 8 := by omega
      refine ⟨hk2, hg, by simp, ?_, by simpa using e.weight_pos⟩
      have hc : e.children = [] := by
        rcases hg.cases with h | h | h | h | h
        · simp [Exp.children, h.2.2.1, h.2.2.2]
        · simp [Exp.children, h.2.2.1, h.2.2.2]
        · omega
        · omega
        · omega
      rw [sizeM_eq, if_neg h5, if_neg hk8, hc]

theorem sizeM_le (e : Exp) : sizeM e ≤ e.weight := by
  induction e using Exp.ind with
  | h e ih =>
    have h1 : (e.children.map sizeM).sum ≤ (e.children.map Exp.weight).sum := sum_le ih
    have h2 : ((e.children.map sizeM).drop 1).sum ≤ (e.children.map sizeM).sum := by
      have : (e.children.map sizeM).sum = ((e.children.map sizeM).take 1).sum + ((e.children.map sizeM).drop 1).sum := by rw [← List.sum_append, List.take_append_drop]
      omega
    rw [sizeM_eq, e.weight_eq]
    split
    · omega
    · split <;> omega
end Go.Vs.Tryz

/- Spine and Size by the program, walked. -/
namespace Go.Vs.Tryz
open Go Go.Vs
variable {A : Oracle}

abbrev expsV (l : List Exp) : V := .sc (.c (.sl (Exp.rows l)))

theorem reverse107' (l : List Exp) (h : l.length ≤ 1073741824) : (K A).call 109 [.sc (.arr 0 l.length)] [.arr 11 (wr (Exp.rows l)) 0] = some (.tu [], [.arr 11 (wr (Exp.rows l.reverse)) 0]) := by
  obtain ⟨_, rfl, h2⟩ := reverse107 (A := A) l h
  rw [swapTo_rev] at h2
  exact h2

def SpineI (e : Exp) (i : Nat) (s : St) : Prop := ∃ cur acc, good cur ∧ (cur.kind = 1 ∨ cur.kind = 2 ∨ cur.kind = 5) ∧ acc.length = i ∧ spine e = ((spine cur).1, (spine cur).2 ++ acc.reverse) ∧
  s = ⟨[(1, .sc (.ptr 64 0)), (2, .sc (.ptr 128 0)), (4, .sc (.arr 257 i))], [(64, some (.box (wc cur.row))), (128, some (.box [zi, zi, zs, zi, .nil, .nil, zi, zs, zi, zi, .nil])), (257, some (.arr 11 (wr (Exp.rows acc)) 0))]⟩

theorem spine73 (e : Exp) (hg : good e) (hk : e.kind = 1 ∨ e.kind = 2 ∨ e.kind = 5) (hl : e.weight ≤ 1073741824) : (K A).call 62 [expV e] [] = some (.tu [expV (spine e).1, expsV (spine e).2], []) := by
  refine fn_of (vf := v62) (by kernel_rfl) rfl (by simp) ?_
  obtain ⟨s1, s2, s3, s4, s5⟩ := spine_good e hg hk
  unfold v62
  simp (disch := first | omega | (simp; done) | (simp; omega)) [-getElem?_pos]
  refine wp_loopI (SpineI e) (spine e).2.length ⟨e, [], hg, hk, rfl, by simp, by simp⟩ ?_ ?_
  · rintro i s hi ⟨cur, acc, hc, hck, ha, hs, rfl⟩
    have h5 : cur.kind = 5 := by
      by_cases h5 : cur.kind = 5
      · exact h5
      · rw [hs, spine_no h5] at hi
        simp [ha] at hi
    rcases hc.cases with h | h | h | ⟨_, _, ⟨f, x, hfx, hf, gf, gx⟩, har⟩ | h
    · omega
    · omega
    · omega
    · unfold l62_0
      simp (disch := first | omega | (simp; done) | (simp; omega)) [h5, hfx, ha, List.getElem?_cons_zero, -getElem?_pos]
      refine ⟨f, acc ++ [x], gf, hf, by simp [ha], ?_, by simp [ha]⟩
      rw [hs, spine_app h5 hfx]
      simp
    · omega
  · rintro s ⟨cur, acc, hc, hck, ha, hs, rfl⟩
    have h5 : ¬ cur.kind = 5 := by
      intro h5
      rcases hc.cases with h | h | h | ⟨_, _, ⟨f, x, hfx, hf, gf, gx⟩, har⟩ | h
      · omega
      · omega
      · omega
      · rw [hs, spine_app h5 hfx] at ha
        simp at ha
        omega
      · omega
    have hr : (spine e).2 = acc.reverse := by rw [hs, spine_no h5]; simp
    have hc1 : (spine e).1 = cur := by rw [hs, spine_no h5]
    have hv := reverse107' (A := A) acc (by omega)
    unfold l62_0
    simp (disch := first | omega | (simp; done) | (simp; omega)) [h5, hv, hr, hc1, -getElem?_pos]

theorem _root_.Go.Vs.Exp.indW {P : Exp → Prop} (h : ∀ e, (∀ x : Exp, x.weight < e.weight → P x) → P e) (e : Exp) : P e := (measure Exp.weight).wf.induction e h

theorem size32 (e : Exp) : good e → e.weight ≤ 1073741824 → (K A).call 41 [expV e] [] = some (intV (sizeM e), []) := by
  induction e using Exp.indW with
  | h e ih =>
  intro hg hl
  refine fn_of (vf := v41) (by kernel_rfl) rfl (by simp) ?_
  have hle := sizeM_le e
  rcases hg.cases with ⟨h, _, hk, ha⟩ | ⟨h, _, hk, ha⟩ | ⟨h, _, ⟨x, hk, gx⟩, ha⟩ | ⟨h, _, ⟨f, x, hfx, hf, gf, gx⟩, ha⟩ | ⟨h, _, ⟨x, hk, hx1, gx⟩, ha, hall⟩
  · unfold v41
    simp (disch := first | omega | (simp; done) | (simp; omega)) [h, sizeM_eq e, Exp.children, hk, ha, -getElem?_pos]
  · unfold v41
    simp (disch := first | omega | (simp; done) | (simp; omega)) [h, sizeM_eq e, Exp.children, hk, ha, -getElem?_pos]
  · have hxw := Exp.child_lt (e := e) (x := x) (by simp [Exp.children, hk])
    have hx := ih x hxw gx (by omega)
    have hxl := sizeM_le x
    have hs : sizeM e = 1 + sizeM x := by rw [sizeM_eq]; simp [h, Exp.children, hk, ha]
    unfold v41
    simp (disch := first | omega | (simp; done) | (simp; omega)) [h, hk, -getElem?_pos]
    refine wp_loop (fun i => ⟨[(3, intV (1 + (([x].take i).map sizeM).sum : Nat)), (17, expsV [x]), (18, intV 1), (19, intV i)], [(64, some (.box (wc e.row)))]⟩) 1 ?_ ?_ ?_
    · simp
    · intro i hi
      obtain rfl : i = 0 := by omega
      unfold l41_0
      simp (disch := first | omega | (simp; done) | (simp; omega)) [hx, List.getElem?_cons_zero, -getElem?_pos]
    · unfold l41_0
      simp (disch := first | omega | (simp; done) | (simp; omega)) [hs, -getElem?_pos]
  · obtain ⟨s1, s2, s3, s4, s5⟩ := spine_good e hg (by omega)
    have hsp := spine73 (A := A) e hg (by omega) hl
    generalize hL : (spine e).2 = l at s3 s4 s5 hsp
    have sum_i : ∀ i, ((l.take i).map sizeM).sum ≤ (l.map sizeM).sum := fun i => by rw [List.map_take]; exact sum_take
    unfold v41
    simp (disch := first | omega | (simp; done) | (simp; omega)) [h, hsp, -getElem?_pos]
    refine wp_loop (fun i => ⟨[(3, intV (1 + ((l.take i).map sizeM).sum : Nat)), (50, expsV l), (51, intV l.length), (52, intV i)], []⟩) l.length ?_ ?_ ?_
    · simp
    · intro i hi
      obtain ⟨y, hy⟩ := get_of_lt hi
      have hym : y ∈ l := List.mem_of_getElem? hy
      have hyw : y.weight ≤ (l.map Exp.weight).sum := sum_mem (f := Exp.weight) hym
      have hrec := ih y (by omega) (s3 y hym) (by omega)
      have h1 := sum_i (i + 1)
      rw [take_next hy] at h1 ⊢
      simp only [List.map_append, List.sum_append, List.map_cons, List.map_nil, List.sum_cons, List.sum_nil] at h1 ⊢
      unfold l41_2
      simp (disch := first | omega | (simp; done) | (simp; omega)) [hi, hy, hrec, -getElem?_pos]
      rw [List.map_take] at h1
      rw [wrap_in _ (by omega)]
      omega
    · unfold l41_2
      simp (disch := first | omega | (simp; done) | (simp; omega)) [s4, -getElem?_pos]
  · have hs : sizeM e = 1 + (e.arms.map fun a => sizeM a.2).sum := by rw [sizeM_eq]; simp [h, Exp.children, hk, Function.comp_def]
    have sum_i : ∀ i, ((e.arms.take i).map fun a => sizeM a.2).sum ≤ (e.arms.map fun a => sizeM a.2).sum := fun i => by rw [List.map_take]; exact sum_take
    have hal : e.arms.length ≤ 1073741824 := by have := e.children_le; rw [e.children_len] at this; omega
    unfold v41
    simp (disch := first | omega | (simp; done) | (simp; omega)) [h, -getElem?_pos]
    refine wp_loop (fun i => ⟨[(3, intV (1 + ((e.arms.take i).map fun a => sizeM a.2).sum : Nat)), (31, .sc (.c (.sl (Exp.armRows e.arms)))), (32, intV e.arms.length), (33, intV i)], [(64, some (.box (wc e.row)))]⟩) e.arms.length ?_ ?_ ?_
    · simp
    · intro i hi
      obtain ⟨y, hy⟩ := get_of_lt hi
      have hym : y ∈ e.arms := List.mem_of_getElem? hy
      have hyw := Exp.child_lt (arm_mem hym)
      have hrec := ih y.2 hyw (hall y hym).2.2.2.2 (by omega)
      have h1 := sum_i (i + 1)
      rw [take_next hy] at h1 ⊢
      simp only [List.map_append, List.sum_append, List.map_cons, List.map_nil, List.sum_cons, List.sum_nil] at h1 ⊢
      unfold l41_1
      simp (disch := first | omega | (simp; done) | (simp; omega)) [hi, hy, hrec, -getElem?_pos]
      rw [List.map_take] at h1
      rw [wrap_in _ (by omega)]
      omega
    · unfold l41_1
      simp (disch := first | omega | (simp; done) | (simp; omega)) [hs, -getElem?_pos]
end Go.Vs.Tryz

/- How two terms compare (plain). -/
namespace Go.Vs.Tryz
open Go Go.Vs

def conExp (s : Str) : Exp := .mk 2 0 s 0 [] [] tz
def kid0 (e : Exp) : Exp := (e.kids[0]?).getD e
def con0 (e : Exp) : Exp := conExp (((e.arms[0]?).map fun a => a.1.con).getD [])
/-- How two terms compare, by the ranks of heads. -/
def cmpF (rank : List Str → Exp → Int) : Nat → List Str → List Str → Exp → Exp → Int
  | 0, _, _, _, _ => 0
  | n + 1, l, m, a, b => orI [cmpI (sizeM a) (sizeM b), cmpI (kindM a) (kindM b),
      if a.kind = 4 then cmpF rank n (l ++ [a.name]) (m ++ [b.name]) (kid0 a) (kid0 b)
      else if a.kind = 8 then orI (cmpI (rank l (kid0 a)) (rank m (kid0 b)) :: cmpI (rank l (con0 a)) (rank m (con0 b)) ::
        (List.zipWith (fun p q => cmpF rank n (l ++ p.1.vars) (m ++ q.1.vars) p.2 q.2) a.arms b.arms ++ [cmpI a.arms.length b.arms.length]))
      else orI [cmpI (rank l (spine a).1) (rank m (spine b).1), cmpI (spine a).2.length (spine b).2.length, orI (List.zipWith (cmpF rank n l m) (spine a).2 (spine b).2)]]
end Go.Vs.Tryz
