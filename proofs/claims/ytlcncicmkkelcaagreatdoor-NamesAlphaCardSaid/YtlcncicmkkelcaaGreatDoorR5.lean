/- The canonical form of a well-made term is well made, and its names are visible (plain). (Parts of one proof, put together.) -/
import Derived.Test.YtlcncicmkkelcaaGreatDoorR4
import Derived.Test.YtlcncicmkkelcaaGreatDoorR2
set_option linter.unusedSimpArgs false
set_option linter.unusedVariables false
set_option linter.deprecated false

/- The canonical form of a well-made term is well made, and its names are visible (plain). -/
namespace Go.Vs.Tryz
open Go Go.Vs

end Go.Vs.Tryz

/- Equal types, leaves, type variables, walked: what they answer is of the right shape. -/
namespace Go.Vs.Tryz
open Go Go.Vs
variable {A : Oracle}

def LeafP (n m : Nat) (r : V × List Obj) : Prop := ∃ out : List Ty, n ≤ out.length ∧ out.length ≤ m ∧ (∀ x ∈ out, x.size ≤ 1073741824) ∧ r = (.sc (.arr 0 out.length), [.arr 5 (wr (Ty.rows out)) 0])

def VarsP (m : Nat) (r : V × List Obj) : Prop := ∃ ids : List Int, ids.length ≤ m ∧ r = (intsV ids, [])

end Go.Vs.Tryz

/- Replace, Close, types with leaves, contexts, walked: what they answer is of the right shape. -/
namespace Go.Vs.Tryz
open Go Go.Vs
variable {A : Oracle}

def TyP (r : V × List Obj) : Prop := ∃ t : Ty, r = (tyV t, [])

def CloseP (r : V × List Obj) : Prop := ∃ (c : Int) (t : Ty), r = (schV c t, [])

theorem sizes_le {m : Nat} : ∀ {l : List Ty}, (∀ x ∈ l, x.size ≤ m) → (l.map Ty.size).sum ≤ l.length * m
  | [], _ => by simp
  | a :: r, h => by
    have h1 := h a (by simp)
    have h2 := sizes_le (l := r) fun x hx => h x (by simp [hx])
    simp only [List.map_cons, List.sum_cons, List.length_cons, Nat.succ_mul]
    omega

def TypeS (L : List Int) (m : Nat) (r : V × List Obj) : Prop := ∃ t J, t.size ≤ m ∧ J ≤ L.length ∧ r = (tyV t, [tapeO L J])
/-- Ahead of the i-th argument of a type. -/
def TypeJ (L : List Int) (ds : List DataD) (ls : List Ty) (dd : DataD) (d i : Nat) (s : St) : Prop := ∃ tys J, tys.length = i ∧ (∀ x ∈ tys, x.size ≤ 5 ^ d) ∧ J ≤ L.length ∧
  s = ⟨[(0, .sc (.ptr 0 0)), (1, datasV ds), (2, tysV ls), (3, intV (d + 1)), (8, .sc (.ptr 64 0)), (10, .sc (.ptr 3392 0)), (11, .sc (.arr 3521 i)), (12, intV i)],
    [(0, some (tapeO L J)), (64, some (.box [zi, zs, zi, zi, .nil])), (3392, some (.box (wc (dataRow dd)))), (3521, some (.arr 5 (wr (Ty.rows tys)) 0))]⟩

end Go.Vs.Tryz

/- Contexts and the terms' frame, walked. -/
namespace Go.Vs.Tryz
open Go Go.Vs
variable {A : Oracle}

def rigids : List Ty := [.mk 3 [] 0 0 [], .mk 3 [] 1 3 []]
def vars2 : List Ty := [.mk 1 [] 0 0 [], .mk 1 [] 1 0 []]

/-- A context: nil ahead of its first entry. -/
def ctxV (l : List EntD) : V := match l with
  | [] => .sc .nil
  | l => entsV l

def CtxP (L : List Int) (r : V × List Obj) : Prop := ∃ (l : List EntD) (t : Ty) (J : Nat), l.length ≤ 3 ∧ (∀ x ∈ l, x.name ∈ varNames) ∧ J ≤ L.length ∧ r = (.tu [entsV l, tyV t], [tapeO L J])
def CtxI (L : List Int) (ds : List DataD) (n i : Nat) (s : St) : Prop := ∃ (l : List EntD) (J p : Nat), l.length = i ∧ (∀ x ∈ l, x.name ∈ varNames) ∧ J ≤ L.length ∧ (p = 0 ∨ p = 2) ∧
  s = ⟨[(0, .sc (.ptr 0 0)), (1, datasV ds), (5, .sc (.ptr 128 0)), (6, .sc (.arr 320 2)), (7, ctxV l), (8, intV n), (9, intV i)],
    [(0, some (tapeO L J)), (128, some (.box [zi, zs, zi, zi, .nil])), (320, some (.arr 5 (wr (Ty.rows rigids)) p))]⟩

end Go.Vs.Tryz

/- Variables as terms; the first of chapter 29. -/
namespace Go.Vs.Tryz
open Go Go.Vs
variable {A : Oracle}

def varExp (s : Str) : Exp := .mk 1 0 s 0 [] [] tz

end Go.Vs.Tryz

/- Comparing by the program: its closures over each other, walked. -/
namespace Go.Vs.Tryz
open Go Go.Vs
variable {A : Oracle}

@[simp] theorem range_5 : List.range 5 = [0, 1, 2, 3, 4] := rfl
/-- The captured variables as the closure compare sees them. -/
def boxC (ds : List DataD) (ctx : List EntD) : List Obj := [.box [.c (.sl (dataRows ds))], .box [.c (.sl (entRows ctx))], .box [.clo 58 [true, true, true] [[.ptr 2 0], [.ptr 3 0], [.ptr 4 0]]], .box [.clo 54 [true, true] [[.ptr 0 0], [.ptr 1 0]]], .box [.clo 57 [true] [[.ptr 2 0]]]]
/-- The same as the closure all sees them. -/
def boxA (ds : List DataD) (ctx : List EntD) : List Obj := [.box [.clo 54 [true, true] [[.ptr 2 0], [.ptr 3 0]]], .box [.clo 57 [true] [[.ptr 4 0]]], .box [.c (.sl (dataRows ds))], .box [.c (.sl (entRows ctx))], .box [.clo 58 [true, true, true] [[.ptr 4 0], [.ptr 0 0], [.ptr 1 0]]]]

abbrev rkM (ds : List DataD) (ctx : List EntD) := rankM ds (seenN ctx)

/-- The closure compare's contract up to a weight. -/
def CmpC (A : Oracle) (ds : List DataD) (ctx : List EntD) (n : Nat) : Prop := ∀ (a b : Exp) (l m : List Str), a.weight ≤ n → good a → good b → l.length + a.weight ≤ 1073741824 → m.length + b.weight ≤ 1073741824 →
  (K A).call 58 [strsV l, strsV m, expV a, expV b, .sc (.ptr 2 0), .sc (.ptr 3 0), .sc (.ptr 4 0)] (boxC ds ctx) = some (intV (cmpF (rkM ds ctx) n l m a b), boxC ds ctx)

end Go.Vs.Tryz
