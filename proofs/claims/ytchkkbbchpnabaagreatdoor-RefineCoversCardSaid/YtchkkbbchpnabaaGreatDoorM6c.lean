/- The value semantics, 40: the data types of the program, and their cells. -/
import Derived.Test.YtchkkbbchpnabaaGreatDoorM5c
set_option linter.unusedSimpArgs false
set_option linter.unusedVariables false
set_option linter.deprecated false

/- The value semantics, 40: the data types of the program, and their cells. -/
namespace Go.Vs
open Go

abbrev Str := List UInt8

/-- Types. -/
inductive Ty where
  | mk (kind : Int) (name : Str) (id home : Int) (args : List Ty)
  deriving Inhabited

structure ArmH where
  pos : Int
  con : Str
  vars : List Str
  deriving Inhabited

/-- Expressions. -/
inductive Exp where
  | mk (kind pos : Int) (name : Str) (num : Int) (kids : List Exp) (arms : List (ArmH × Exp)) (ty : Ty)

namespace Ty
def kind : Ty → Int | mk k _ _ _ _ => k
def name : Ty → Str | mk _ n _ _ _ => n
def id : Ty → Int | mk _ _ i _ _ => i
def home : Ty → Int | mk _ _ _ h _ => h
def args : Ty → List Ty | mk _ _ _ _ a => a
end Ty

namespace Exp
def kind : Exp → Int | mk k _ _ _ _ _ _ => k
def pos : Exp → Int | mk _ p _ _ _ _ _ => p
def name : Exp → Str | mk _ _ n _ _ _ _ => n
def num : Exp → Int | mk _ _ _ n _ _ _ => n
def kids : Exp → List Exp | mk _ _ _ _ k _ _ => k
def arms : Exp → List (ArmH × Exp) | mk _ _ _ _ _ a _ => a
def ty : Exp → Ty | mk _ _ _ _ _ _ t => t
end Exp

def strRow (s : Str) : List Cell := [.str s]
def strRows (l : List Str) : List (List Cell) := l.map strRow
def intRow (n : Int) : List Cell := [.int .i64 n]

mutual
def Ty.row : Ty → List Cell
  | .mk k n i h a => [.int .i64 k, .str n, .int .i64 i, .int .i64 h, .sl (Ty.rows a)]
def Ty.rows : List Ty → List (List Cell)
  | [] => []
  | t :: r => t.row :: Ty.rows r
end

mutual
def Exp.row : Exp → List Cell
  | .mk k p n m ks as t => [.int .i64 k, .int .i64 p, .str n, .int .i64 m, .sl (Exp.rows ks), .sl (Exp.armRows as), .int .i64 t.kind, .str t.name, .int .i64 t.id, .int .i64 t.home, .sl (Ty.rows t.args)]
def Exp.rows : List Exp → List (List Cell)
  | [] => []
  | t :: r => t.row :: Exp.rows r
def Exp.armRows : List (ArmH × Exp) → List (List Cell)
  | [] => []
  | (h, e) :: r => (.int .i64 h.pos :: .str h.con :: .sl (strRows h.vars) :: e.row) :: Exp.armRows r
end

def armRow (a : ArmH × Exp) : List Cell := .int .i64 a.1.pos :: .str a.1.con :: .sl (strRows a.1.vars) :: a.2.row

theorem Ty.rows_map : ∀ l : List Ty, Ty.rows l = l.map Ty.row
  | [] => by rfl
  | t :: r => by simp [Ty.rows, Ty.rows_map r]
theorem Exp.rows_map : ∀ l : List Exp, Exp.rows l = l.map Exp.row
  | [] => by rfl
  | t :: r => by simp [Exp.rows, Exp.rows_map r]
theorem Exp.armRows_map : ∀ l : List (ArmH × Exp), Exp.armRows l = l.map armRow
  | [] => by rfl
  | (h, e) :: r => by simp [Exp.armRows, armRow, Exp.armRows_map r]

theorem Ty.row_eq (t : Ty) : t.row = [.int .i64 t.kind, .str t.name, .int .i64 t.id, .int .i64 t.home, .sl (Ty.rows t.args)] := by
  cases t; rfl
theorem Exp.row_eq (e : Exp) : e.row = [.int .i64 e.kind, .int .i64 e.pos, .str e.name, .int .i64 e.num, .sl (Exp.rows e.kids), .sl (Exp.armRows e.arms), .int .i64 e.ty.kind, .str e.ty.name, .int .i64 e.ty.id, .int .i64 e.ty.home, .sl (Ty.rows e.ty.args)] := by
  cases e; rfl

section lengths
@[simp] theorem strRow_len (s : Str) : (strRow s).length = 1 := rfl
@[simp] theorem intRow_len (s : Int) : (intRow s).length = 1 := rfl
@[simp] theorem Ty.row_len (t : Ty) : t.row.length = 5 := by rw [Ty.row_eq]; rfl
@[simp] theorem Exp.row_len (e : Exp) : e.row.length = 11 := by rw [Exp.row_eq]; rfl
@[simp] theorem armRow_len (a : ArmH × Exp) : (armRow a).length = 14 := by simp [armRow]
@[simp] theorem strRows_len (l : List Str) : (strRows l).length = l.length := by simp [strRows]
@[simp] theorem Ty.rows_len (l : List Ty) : (Ty.rows l).length = l.length := by simp [Ty.rows_map]
@[simp] theorem Exp.rows_len (l : List Exp) : (Exp.rows l).length = l.length := by simp [Exp.rows_map]
@[simp] theorem Exp.armRows_len (l : List (ArmH × Exp)) : (Exp.armRows l).length = l.length := by simp [Exp.armRows_map]
@[simp] theorem strRows_get (l : List Str) (i : Nat) : (strRows l)[i]? = (l[i]?).map strRow := by simp [strRows]
@[simp] theorem Ty.rows_get (l : List Ty) (i : Nat) : (Ty.rows l)[i]? = (l[i]?).map Ty.row := by simp [Ty.rows_map]
@[simp] theorem Exp.rows_get (l : List Exp) (i : Nat) : (Exp.rows l)[i]? = (l[i]?).map Exp.row := by simp [Exp.rows_map]
@[simp] theorem Exp.armRows_get (l : List (ArmH × Exp)) (i : Nat) : (Exp.armRows l)[i]? = (l[i]?).map armRow := by simp [Exp.armRows_map]

theorem okRows_of {s : Nat} {α : Type} {f : α → List Cell} (l : List α) (h : ∀ a, (f a).length = s) : okRows s (wr (l.map f)) = true := okRows_data fun r hr => by
  grind
@[simp] theorem okRows_str (l : List Str) : okRows 1 (wr (strRows l)) = true := okRows_of l strRow_len
@[simp] theorem okRows_ty (l : List Ty) : okRows 5 (wr (Ty.rows l)) = true := by rw [Ty.rows_map]; exact okRows_of l Ty.row_len
@[simp] theorem okRows_exp (l : List Exp) : okRows 11 (wr (Exp.rows l)) = true := by rw [Exp.rows_map]; exact okRows_of l Exp.row_len
@[simp] theorem okRows_arm (l : List (ArmH × Exp)) : okRows 14 (wr (Exp.armRows l)) = true := by rw [Exp.armRows_map]; exact okRows_of l armRow_len
end lengths

section snoc
@[simp] theorem strRows_snoc (l : List Str) (x : Str) : wr (strRows l) ++ [[W.c (.str x)]] = wr (strRows (l ++ [x])) := by simp [strRows, wr, strRow]
@[simp] theorem Ty.rows_snoc (l : List Ty) (x : Ty) : wr (Ty.rows l) ++ [wc x.row] = wr (Ty.rows (l ++ [x])) := by simp [Ty.rows_map, wr]
@[simp] theorem Exp.rows_snoc (l : List Exp) (x : Exp) : wr (Exp.rows l) ++ [wc x.row] = wr (Exp.rows (l ++ [x])) := by simp [Exp.rows_map, wr]
@[simp] theorem Exp.armRows_snoc (l : List (ArmH × Exp)) (x : ArmH × Exp) : wr (Exp.armRows l) ++ [wc (armRow x)] = wr (Exp.armRows (l ++ [x])) := by simp [Exp.armRows_map, wr]
@[simp] theorem strRows_app (l m : List Str) : wr (strRows l) ++ wr (strRows m) = wr (strRows (l ++ m)) := by simp [strRows, wr]
@[simp] theorem Exp.rows_app (l m : List Exp) : wr (Exp.rows l) ++ wr (Exp.rows m) = wr (Exp.rows (l ++ m)) := by simp [Exp.rows_map, wr]
@[simp] theorem Ty.rows_app (l m : List Ty) : wr (Ty.rows l) ++ wr (Ty.rows m) = wr (Ty.rows (l ++ m)) := by simp [Ty.rows_map, wr]
theorem take_next {α : Type} {l : List α} {i : Nat} {x : α} (h : l[i]? = some x) : l.take (i + 1) = l.take i ++ [x] := by
  grind [List.take_add_one]
theorem get_of_lt {α : Type} {l : List α} {i : Nat} (h : i < l.length) : ∃ x, l[i]? = some x := ⟨l[i], List.getElem?_eq_getElem h⟩
end snoc

section cuts
variable (e : Exp) (a : ArmH × Exp) (t : Ty) (s : Str)
@[simp] theorem cut_e0 : cut e.row 0 1 = some [.int .i64 e.kind] := by rw [Exp.row_eq]; rfl
@[simp] theorem cut_e1 : cut e.row 1 1 = some [.int .i64 e.pos] := by rw [Exp.row_eq]; rfl
@[simp] theorem cut_e2 : cut e.row 2 1 = some [.str e.name] := by rw [Exp.row_eq]; rfl
@[simp] theorem cut_e3 : cut e.row 3 1 = some [.int .i64 e.num] := by rw [Exp.row_eq]; rfl
@[simp] theorem cut_e4 : cut e.row 4 1 = some [.sl (Exp.rows e.kids)] := by rw [Exp.row_eq]; rfl
@[simp] theorem cut_e5 : cut e.row 5 1 = some [.sl (Exp.armRows e.arms)] := by rw [Exp.row_eq]; rfl
@[simp] theorem cut_e6 : cut e.row 6 5 = some e.ty.row := by rw [Exp.row_eq, Ty.row_eq]; rfl
@[simp] theorem cut_e : cut e.row 0 11 = some e.row := by rw [Exp.row_eq]; rfl
@[simp] theorem cut_t0 : cut t.row 0 1 = some [.int .i64 t.kind] := by rw [Ty.row_eq]; rfl
@[simp] theorem cut_t1 : cut t.row 1 1 = some [.str t.name] := by rw [Ty.row_eq]; rfl
@[simp] theorem cut_t2 : cut t.row 2 1 = some [.int .i64 t.id] := by rw [Ty.row_eq]; rfl
@[simp] theorem cut_t3 : cut t.row 3 1 = some [.int .i64 t.home] := by rw [Ty.row_eq]; rfl
@[simp] theorem cut_t4 : cut t.row 4 1 = some [.sl (Ty.rows t.args)] := by rw [Ty.row_eq]; rfl
@[simp] theorem cut_t : cut t.row 0 5 = some t.row := by rw [Ty.row_eq]; rfl
@[simp] theorem cut_s : cut (strRow s) 0 1 = some [.str s] := rfl
@[simp] theorem cut_a0 : cut (armRow a) 0 1 = some [.int .i64 a.1.pos] := by rfl
@[simp] theorem cut_a1 : cut (armRow a) 1 1 = some [.str a.1.con] := by rfl
@[simp] theorem cut_a2 : cut (armRow a) 2 1 = some [.sl (strRows a.1.vars)] := by rfl
@[simp] theorem cut_a3 : cut (armRow a) 3 11 = some a.2.row := by rw [armRow, Exp.row_eq]; rfl
@[simp] theorem cut_a : cut (armRow a) 0 14 = some (armRow a) := by rw [armRow, Exp.row_eq]; rfl
@[simp] theorem cutw_e0 : cut (wc e.row) 0 1 = some [.c (.int .i64 e.kind)] := by rw [Exp.row_eq]; rfl
@[simp] theorem cutw_e1 : cut (wc e.row) 1 1 = some [.c (.int .i64 e.pos)] := by rw [Exp.row_eq]; rfl
@[simp] theorem cutw_e2 : cut (wc e.row) 2 1 = some [.c (.str e.name)] := by rw [Exp.row_eq]; rfl
@[simp] theorem cutw_e3 : cut (wc e.row) 3 1 = some [.c (.int .i64 e.num)] := by rw [Exp.row_eq]; rfl
@[simp] theorem cutw_e4 : cut (wc e.row) 4 1 = some [.c (.sl (Exp.rows e.kids))] := by rw [Exp.row_eq]; rfl
@[simp] theorem cutw_e5 : cut (wc e.row) 5 1 = some [.c (.sl (Exp.armRows e.arms))] := by rw [Exp.row_eq]; rfl
@[simp] theorem cutw_e6 : cut (wc e.row) 6 5 = some (wc e.ty.row) := by rw [Exp.row_eq, Ty.row_eq]; rfl
@[simp] theorem cutw_e : cut (wc e.row) 0 11 = some (wc e.row) := by rw [Exp.row_eq]; rfl
@[simp] theorem cutw_t0 : cut (wc t.row) 0 1 = some [.c (.int .i64 t.kind)] := by rw [Ty.row_eq]; rfl
@[simp] theorem cutw_t1 : cut (wc t.row) 1 1 = some [.c (.str t.name)] := by rw [Ty.row_eq]; rfl
@[simp] theorem cutw_t2 : cut (wc t.row) 2 1 = some [.c (.int .i64 t.id)] := by rw [Ty.row_eq]; rfl
@[simp] theorem cutw_t3 : cut (wc t.row) 3 1 = some [.c (.int .i64 t.home)] := by rw [Ty.row_eq]; rfl
@[simp] theorem cutw_t4 : cut (wc t.row) 4 1 = some [.c (.sl (Ty.rows t.args))] := by rw [Ty.row_eq]; rfl
@[simp] theorem cutw_t : cut (wc t.row) 0 5 = some (wc t.row) := by rw [Ty.row_eq]; rfl
@[simp] theorem cutw_a0 : cut (wc (armRow a)) 0 1 = some [.c (.int .i64 a.1.pos)] := by rfl
@[simp] theorem cutw_a1 : cut (wc (armRow a)) 1 1 = some [.c (.str a.1.con)] := by rfl
@[simp] theorem cutw_a2 : cut (wc (armRow a)) 2 1 = some [.c (.sl (strRows a.1.vars))] := by rfl
@[simp] theorem cutw_a3 : cut (wc (armRow a)) 3 11 = some (wc a.2.row) := by rw [armRow, Exp.row_eq]; rfl
@[simp] theorem cutw_a : cut (wc (armRow a)) 0 14 = some (wc (armRow a)) := by rw [armRow, Exp.row_eq]; rfl
end cuts

theorem wrap_nat64 (n : Nat) (h : n ≤ 1649267441664) : IntKind.i64.wrap (n : Int) = (n : Int) := wrap_in _ (by omega)
attribute [simp] wrap_in
/-- The next index. -/
theorem wrap_succ {n : Nat} (h : n ≤ 1649267441664) : IntKind.i64.wrap ((n : Int) + 1) = ((n + 1 : Nat) : Int) := by
  grind [wrap_in]

/-- The children. -/
def Exp.children (e : Exp) : List Exp := e.kids ++ e.arms.map (·.2)

end Go.Vs

/- The value semantics, 41: recursion over expressions, their sizes, and what they bind. -/
namespace Go.Vs
open Go

mutual
def Exp.fold {α : Type} (f : Exp → List α → α) : Exp → α
  | .mk k p n m ks as t => f (.mk k p n m ks as t) (Exp.foldK f ks ++ Exp.foldA f as)
def Exp.foldK {α : Type} (f : Exp → List α → α) : List Exp → List α
  | [] => []
  | e :: r => e.fold f :: Exp.foldK f r
def Exp.foldA {α : Type} (f : Exp → List α → α) : List (ArmH × Exp) → List α
  | [] => []
  | (_, e) :: r => e.fold f :: Exp.foldA f r
end

theorem Exp.foldK_map {α : Type} (f : Exp → List α → α) : ∀ l : List Exp, Exp.foldK f l = l.map (Exp.fold f)
  | [] => by rfl
  | e :: r => by simp [Exp.foldK, Exp.foldK_map f r]
theorem Exp.foldA_map {α : Type} (f : Exp → List α → α) : ∀ l : List (ArmH × Exp), Exp.foldA f l = (l.map (·.2)).map (Exp.fold f)
  | [] => by rfl
  | (h, e) :: r => by simp [Exp.foldA, Exp.foldA_map f r]
theorem Exp.fold_eq {α : Type} (f : Exp → List α → α) (e : Exp) : e.fold f = f e (e.children.map (Exp.fold f)) := by
  cases e with
  | mk k p n m ks as t => rw [Exp.fold, Exp.foldK_map, Exp.foldA_map, Exp.children, List.map_append]; rfl

/-- How many nodes and bound names there are. -/
def Exp.weight (e : Exp) : Nat := e.fold fun e l => 1 + (e.arms.map fun a => a.1.vars.length).sum + l.sum
theorem Exp.weight_eq (e : Exp) : e.weight = 1 + (e.arms.map fun a => a.1.vars.length).sum + (e.children.map Exp.weight).sum := Exp.fold_eq _ e
theorem sum_mem {α : Type} {f : α → Nat} : ∀ {l : List α} {x : α}, x ∈ l → f x ≤ (l.map f).sum
  | [], _, h => by grind
  | a :: l, x, h => by
    rw [List.map_cons, List.sum_cons]
    rcases List.mem_cons.1 h with rfl | h
    simp
    · have := sum_mem (f := f) h
      omega
theorem sum_len {α : Type} {f : α → Nat} : ∀ {l : List α}, (∀ x ∈ l, 1 ≤ f x) → l.length ≤ (l.map f).sum
  | [], _ => by simp
  | a :: l, h => by
    have h1 := h a (by simp)
    have h2 := sum_len (f := f) (l := l) fun x hx => h x (by grind)
    grind
theorem Exp.weight_pos (e : Exp) : 1 ≤ e.weight := by grind [Exp.weight_eq]
theorem Exp.child_lt {e x : Exp} (h : x ∈ e.children) : x.weight < e.weight := by
  have := sum_mem (f := Exp.weight) h
  rw [e.weight_eq]
  omega
theorem Exp.children_le (e : Exp) : e.children.length ≤ e.weight := by
  have := sum_len (f := Exp.weight) (l := e.children) fun x _ => x.weight_pos
  rw [e.weight_eq]
  omega
theorem Exp.vars_le {e : Exp} {a : ArmH × Exp} (h : a ∈ e.arms) : a.1.vars.length ≤ e.weight := by
  have := sum_mem (f := fun a : ArmH × Exp => a.1.vars.length) h
  rw [e.weight_eq]
  omega
@[simp] theorem Exp.children_len (e : Exp) : e.children.length = e.kids.length + e.arms.length := by simp [Exp.children]

theorem Exp.ind {P : Exp → Prop} (h : ∀ e, (∀ x ∈ e.children, P x) → P e) (e : Exp) : P e := by
  have key : ∀ n, ∀ e : Exp, e.weight ≤ n → P e := by
    intro n
    induction n with
    | zero => intro e he; have := e.weight_pos; omega
    | succ n ih => exact fun e he => h e fun x hx => ih x (by have := Exp.child_lt hx; omega)
  exact key e.weight e (Nat.le_refl _)

/-- Only an analysis has arms, and it has one child besides; an analysis's other parts are as they should be. -/
def Exp.wf1 (e : Exp) : Prop := (e.kind = 8 → e.kids.length = 1) ∧ (e.kind ≠ 8 → e.arms = []) ∧ (e.kind = 1 → e.kids = [])
def Exp.wf (e : Exp) : Prop := e.fold fun e l => e.wf1 ∧ ∀ p ∈ l, p
theorem Exp.wf_eq (e : Exp) : e.wf = (e.wf1 ∧ ∀ x ∈ e.children, x.wf) := by
  have := Exp.fold_eq (fun e (l : List Prop) => e.wf1 ∧ ∀ p ∈ l, p) e
  unfold Exp.wf
  rw [this]
  simp only [List.forall_mem_map]
theorem Exp.wf.one {e : Exp} (h : e.wf) : e.wf1 := by grind [Exp.wf_eq]
theorem Exp.wf.child {e x : Exp} (h : e.wf) (hx : x ∈ e.children) : x.wf := by grind [Exp.wf_eq]

/-- The names that an expression binds in a child. -/
def Exp.bound (e : Exp) (i : Nat) : List Str :=
  if e.kind = 4 ∨ e.kind = 7 ∨ (e.kind = 6 ∧ i = 1) then [e.name]
  else if e.kind = 8 ∧ 0 < i then ((e.arms[i - 1]?).map fun a => a.1.vars).getD [] else []
theorem Exp.bound_le (e : Exp) (i : Nat) : (e.bound i).length ≤ e.weight := by
  have := e.weight_pos
  unfold Exp.bound
  split
  omega
  · split
    · cases h : e.arms[i - 1]? with
      | none => simp
      | some a => exact Exp.vars_le (List.mem_of_getElem? h)
    simp

/-- A result's cells are a row's. -/
@[simp] theorem map_wc_map (l : List (ArmH × Exp)) : (l.map fun x => x.2).length = l.length := by simp

section
variable {C : Ctx} {E : Nat → Option V} {L : Nat → Option Obj} {oid : Nat}
/-- A closure. -/
def fnK (f : FuncId) (a : Option (List (Bool × List Cell))) (b : Option (List (Bool × List W))) : Option (V × Upd) := match a with
  | some l => some (.sc (.c (.fn f (l.map (·.1)) (l.map (·.2)))), [])
  | none => match b with
    | some l => some (.sc (.clo f (l.map (·.1)) (l.map (·.2))), [])
    | none => none
@[simp] theorem fnK_data {f : FuncId} {l : List (Bool × List Cell)} {b : Option (List (Bool × List W))} : fnK f (some l) b = some (.sc (.c (.fn f (l.map (·.1)) (l.map (·.2)))), []) := rfl
@[simp] theorem fnK_refs {f : FuncId} {l : List (Bool × List W)} : fnK f none (some l) = some (.sc (.clo f (l.map (·.1)) (l.map (·.2))), []) := rfl
@[simp] theorem x_fn {f : FuncId} {caps : List Opd} : exec1 C E L oid (.fn f caps) = fnK f (listM capC (caps.map (·.val C E))) (listM capW (caps.map (·.val C E))) := by
  rfl
@[simp] theorem capC_c {x : Cell} : capC (.sc (.c x)) = some (true, [x]) := rfl
@[simp] theorem capC_ptr {k o : Nat} : capC (.sc (.ptr k o)) = none := rfl
@[simp] theorem capC_arr {k o : Nat} : capC (.sc (.arr k o)) = none := rfl
@[simp] theorem capC_ag {cs : List W} : capC (.ag cs) = none := rfl
@[simp] theorem capW_sc {w : W} : capW (.sc w) = some (true, [w]) := rfl
@[simp] theorem capW_ag {cs : List W} : capW (.ag cs) = some (false, cs) := rfl
@[simp] theorem consM_none {β : Type} {l : Option (List β)} : consM none l = none := rfl
@[simp] theorem consM_none2 {β : Type} {b : β} : consM (some b) none = none := rfl
@[simp] theorem refs_clo {d : Nat} {f : FuncId} {ones : List Bool} {caps : List (List W)} : W.refs (d + 1) (.clo f ones caps) = caps.flatMap (·.flatMap (W.refs d)) := rfl
@[simp] theorem ren_clo {ρ : Nat → Option Nat} {d : Nat} {f : FuncId} {ones : List Bool} {caps : List (List W)} : W.ren ρ (d + 1) (.clo f ones caps) = .clo f ones (caps.map (·.map (W.ren ρ d))) := rfl
@[simp] theorem notUn_clo {f : FuncId} {ones : List Bool} {caps : List (List W)} : notUn (.clo f ones caps) = true := rfl
@[simp] theorem x_mkE : exec1 C E L oid .mkE = some (.sc (.full []), []) := rfl
/-- Appending to a copy that is full. -/
def appFK (L : Nat → Option Obj) (oid s bytes : Nat) (x : V) (ys : Option (List (List W))) : Option (V × Upd) := match x with
  | .sc (.full rows) => match ys with
    | some [] => some (.sc (.full rows), [])
    | some ys => bif okRows s ys then appK L oid s bytes true (.sc (.full rows)) ys else none
    | none => none
  | _ => none
@[simp] theorem appFK_nil {s bytes : Nat} {rows : List (List Cell)} : appFK L oid s bytes (.sc (.full rows)) (some []) = some (.sc (.full rows), []) := rfl
@[simp] theorem appFK_cons {s bytes : Nat} {rows : List (List Cell)} {r : List W} {ys : List (List W)} : appFK L oid s bytes (.sc (.full rows)) (some (r :: ys)) = bif okRows s (r :: ys) then appK L oid s bytes true (.sc (.full rows)) (r :: ys) else none := rfl
@[simp] theorem x_appF {s bytes : Nat} {x y : Opd} : exec1 C E L oid (.appF s bytes x y) = appFK L oid s bytes (x.val C E) (rowsOf L (y.val C E)) := by
  simp only [exec1, appFK]
  generalize x.val C E = v
  cases v with
  | sc w => cases w with
    | full rows =>
      simp only
      cases h : rowsOf L (y.val C E) with
      | none => simp [append1_eq, h, bindK]
      | some ys => cases ys with
        | nil => rfl
        | cons r ys => simp [append1_eq, h]
    | _ => rfl
  | _ => rfl
@[simp] theorem b_slnil {r : List Cell} {rows : List (List Cell)} : binV .eql 2 (.sc (.c (.sl (r :: rows)))) (.sc .nil) = some (.sc (.c (.bool false)), []) := rfl
@[simp] theorem b_slnil2 {r : List Cell} {rows : List (List Cell)} : binV .neq 2 (.sc (.c (.sl (r :: rows)))) (.sc .nil) = some (.sc (.c (.bool true)), []) := rfl
/-- A nil made an array of the frame's own. -/
@[simp] theorem ownV_one {s : Nat} {u : Upd} : ownV oid [(0, s)] L (.sc .nil, u) = newK (L (oid + 1)) (some (.sc (.arr (oid + 1) 0), u ++ [(oid + 1, some (.arr s [] 0))])) := by
  simp [ownV, ownW, newK]
  cases L (oid + 1) <;> simp
def flatT : List V → Bool
  | [] => true
  | .sc w :: r => flatW w && flatT r
  | .ag cs :: r => cs.all flatW && flatT r
  | .tu _ :: _ => false
@[simp] theorem flatT_nil : flatT [] = true := rfl
@[simp] theorem flatT_sc {w : W} {r : List V} : flatT (.sc w :: r) = (flatW w && flatT r) := rfl
@[simp] theorem flatT_ag {cs : List W} {r : List V} : flatT (.ag cs :: r) = (cs.all flatW && flatT r) := rfl
@[simp] theorem flatV_tu {l : List V} : flatV (.tu l) = flatT l := by
  simp only [flatV]
  induction l with
  | nil => rfl
  | cons v r ih => cases v <;> simp_all [flatT]
@[simp] theorem flatV_ag {cs : List W} : flatV (.ag cs) = cs.all flatW := rfl
@[simp] theorem flat_exp {e : Exp} : (wc e.row).all flatW = false := by rw [Exp.row_eq]; simp [wc, flatW]
@[simp] theorem flat_ty {e : Ty} : (wc e.row).all flatW = false := by rw [Ty.row_eq]; simp [wc, flatW]
@[simp] theorem flatW_int {k : IntKind} {n : Int} : flatW (.c (.int k n)) = true := rfl
@[simp] theorem flatW_bool {b : Bool} : flatW (.c (.bool b)) = true := rfl
@[simp] theorem flatW_str {s : List UInt8} : flatW (.c (.str s)) = true := rfl
@[simp] theorem flatW_sl {rows : List (List Cell)} : flatW (.c (.sl rows)) = false := rfl
@[simp] theorem flatW_arr {k n : Nat} : flatW (.arr k n) = false := rfl
end

end Go.Vs

/- The value semantics, 42: loops by what holds ahead of each round, results that exist, more rules. -/
namespace Go.Vs
open Go

section
variable {C : Ctx} {E : Nat → Option V} {L : Nat → Option Obj} {oid : Nat}

theorem wp_loopI {b : VCode} {Q : Ex → St → Prop} {s : St} (I : Nat → St → Prop) (m : Nat) (h0 : I 0 s) (round : ∀ i s, i < m → I i s → wp C b (fun e s' => (e = .normal ∧ I (i + 1) s') ∨ (e ≠ .normal ∧ Q e s')) s)
    (stop : ∀ s, I m s → wp C b (fun e s' => e ≠ .normal ∧ Q e s') s) : wp C (.loop b) Q s := by
  have key : ∀ k, k ≤ m → ∀ s, I (m - k) s → ∃ n e s', (∀ n', n ≤ n' → ∀ j, k + 1 ≤ j → iter (run C n' b) j s = some (e, s')) ∧ Q e s' := by
    intro k
    induction k with
    | zero =>
      intro _ s hs
      obtain ⟨n, e, s', h1, h2, h3⟩ := stop s (by omega)
      refine ⟨n, e, s', fun n' hn j hj => ?_, h3⟩
      obtain ⟨j, rfl⟩ : ∃ i, j = i + 1 := ⟨j - 1, by omega⟩
      have h := run_mono (gl := C.gl) (c := C.call) (Le.refl _) hn h1
      simp only [iter, show run C n' b s = _ from h]
      grind
    | succ k ih =>
      intro hk s hs
      obtain ⟨n, e, s', h1, h2⟩ := round (m - (k + 1)) s (by omega) hs
      rcases h2 with ⟨rfl, h2⟩ | ⟨h2, h3⟩
      · rw [show m - (k + 1) + 1 = m - k by omega] at h2
        obtain ⟨n2, e2, s2, h3, h4⟩ := ih (by omega) s' h2
        refine ⟨max n n2, e2, s2, fun n' hn j hj => ?_, h4⟩
        obtain ⟨j, rfl⟩ : ∃ i, j = i + 1 := ⟨j - 1, by omega⟩
        have h := run_mono (gl := C.gl) (c := C.call) (Le.refl _) (Nat.le_trans (Nat.le_max_left n n2) hn) h1
        simp only [iter, show run C n' b s = _ from h]
        grind
      · refine ⟨n, e, s', fun n' hn j hj => ?_, h3⟩
        obtain ⟨j, rfl⟩ : ∃ i, j = i + 1 := ⟨j - 1, by omega⟩
        have h := run_mono (gl := C.gl) (c := C.call) (Le.refl _) hn h1
        simp only [iter, show run C n' b s = _ from h]
        grind
  obtain ⟨n, e, s', h1, h2⟩ := key m (Nat.le_refl _) s (by grind)
  refine ⟨max n (m + 1), e, s', ?_, h2⟩
  grind [run]

theorem wp_seqE {a b : VCode} {Q : Ex → St → Prop} {s : St} (s1 : St) (h1 : wp C a (fun e s => e = .normal ∧ s = s1) s) (h2 : wp C b Q s1) : wp C (.seq a b) Q s := by
  rw [wp_seq]
  refine wp_mono h1 ?_
  rintro e s' ⟨rfl, rfl⟩
  exact h2
theorem wp_seqI {a b : VCode} {Q : Ex → St → Prop} {s : St} (R : St → Prop) (h1 : wp C a (fun e s => e = .normal ∧ R s) s) (h2 : ∀ s, R s → wp C b Q s) : wp C (.seq a b) Q s := by
  rw [wp_seq]
  refine wp_mono h1 ?_
  rintro e s' ⟨rfl, h⟩
  exact h2 s' h
theorem wp_seq2E {a b c : VCode} {Q : Ex → St → Prop} {s : St} (s1 : St) (h1 : wp C (.seq a b) (fun e s => e = .normal ∧ s = s1) s) (h2 : wp C c Q s1) : wp C (.seq a (.seq b c)) Q s := by
  rw [wp_seq] at h1 ⊢
  refine wp_mono h1 ?_
  intro e s' h
  cases e <;> grind [thenQ, wp_seq, wp_mono]

/-- A function's end with some result. -/
def endsQ (keep : Bool) (m : Nat) (rs : List VRes) (P : V × List Obj → Prop) : Ex → St → Prop := fun e s => ∃ r, P r ∧ doneQ keep m rs r e s
def isR (P : V × List Obj → Prop) (x : Option (V × List Obj)) : Prop := ∃ r, P r ∧ x = some r
@[simp] theorem isR_some {P : V × List Obj → Prop} {r : V × List Obj} : isR P (some r) = P r := by simp [isR]
@[simp] theorem endsQ_ret {keep : Bool} {m : Nat} {rs : List VRes} {P : V × List Obj → Prop} {s : St} : endsQ keep m rs P .ret s = isR P ((finish keep m rs s).map (normR keep)) := by simp [endsQ, isR]
@[simp] theorem endsQ_normal {keep : Bool} {m : Nat} {rs : List VRes} {P : V × List Obj → Prop} {s : St} : endsQ keep m rs P .normal s = isR P ((finish keep m rs s).map (normR keep)) := by simp [endsQ, isR]
theorem lim_wpE {T : FuncId → Option VFun} {X : Oracle} {gl : Nat → List Cell} {f : FuncId} {vf : VFun} {args : List V} {objs : List Obj} (P : V × List Obj → Prop) (hT : T f = some vf) (hn : args.length = vf.nparams) (ho : objs.length ≤ 64)
    (h : wp ⟨lim T X gl, gl⟩ vf.body (endsQ vf.keep objs.length vf.results P) ⟨enumF 0 args, enumF 0 (objs.map some)⟩) : ∃ r, P r ∧ lim T X gl f args objs = some r := by
  obtain ⟨n, e, s', h1, r, h2, h3⟩ := h
  exact ⟨r, h2, lim_wp hT hn ho ⟨n, e, s', h1, h3⟩⟩

@[simp] theorem b_rem {k : IntKind} {a b : Int} (h : b ≠ 0) : binV .rem 0 (.sc (.c (.int k a))) (.sc (.c (.int k b))) = some (.sc (.c (.int k (a.tmod b))), []) := by simp [binV, binW, isShift, intBin, h]
/-- Bits and shifts, left as they are. -/
def andI (k : IntKind) (a b : Int) : Int := k.wrap (BitVec.ofInt k.bits a &&& BitVec.ofInt k.bits b).toNat
def shrI (k : IntKind) (a b : Int) : Int := a.fdiv (2 ^ (min b.toNat k.bits))
@[simp] theorem b_and {k : IntKind} {a b : Int} : binV .and 0 (.sc (.c (.int k a))) (.sc (.c (.int k b))) = some (.sc (.c (.int k (andI k a b))), []) := by simp [binV, binW, isShift, intBin, andI]
@[simp] theorem b_shr {k k' : IntKind} {a b : Int} (h : 0 ≤ b) : binV .shr 0 (.sc (.c (.int k a))) (.sc (.c (.int k' b))) = some (.sc (.c (.int k (shrI k a b))), []) := by
  simp [binV, binW, isShift, intShift, Int.not_lt.2 h, shrI]
@[simp] theorem wrap_u64 (x : Int) (h : 0 ≤ x ∧ x ≤ 4611686018427387904) : IntKind.u64.wrap x = x := by
  unfold IntKind.wrap
  simp [IntKind.bits, IntKind.signed]
  omega
@[simp] theorem wrapI_eq {k : IntKind} {x : Int} : wrapI k x = .int k (k.wrap x) := rfl

@[simp] theorem x_cvI {k : IntKind} {x : Opd} : exec1 C E L oid (.cvI k x) = match x.val C E with
    | .sc (.c (.int _ n)) => some (.sc (.c (wrapI k n)), [])
    | _ => none := rfl
@[simp] theorem x_nn {x : Opd} : exec1 C E L oid (.nn x) = match x.val C E with
    | .sc (.ptr k o) => some (.sc (.ptr k o), [])
    | .sc (.c (.ro r o)) => some (.sc (.c (.ro r o)), [])
    | .sc (.el k N i o) => bif elOk L k N i then some (.sc (.el k N i o), []) else none
    | _ => none := rfl
@[simp] theorem x_mx {x y : Opd} : exec1 C E L oid (.mx x y) = match x.val C E, y.val C E with
    | .sc (.c (.int k a)), .sc (.c (.int _ b)) => some (.sc (.c (.int k (if b > a then b else a))), [])
    | _, _ => none := rfl
@[simp] theorem x_mn {x y : Opd} : exec1 C E L oid (.mn x y) = match x.val C E, y.val C E with
    | .sc (.c (.int k a)), .sc (.c (.int _ b)) => some (.sc (.c (.int k (if b < a then b else a))), [])
    | _, _ => none := rfl
@[simp] theorem x_cp {s : Nat} {x y : Opd} : exec1 C E L oid (.cp s x y) = copy1 L s (x.val C E) (y.val C E) := rfl

/-- A copy of a slice that is nil where it is empty. -/
def appNK (L : Nat → Option Obj) (oid s bytes : Nat) (ys : Option (List (List W))) : Option (V × Upd) := match ys with
  | some [] => some (.sc .nil, [])
  | some ys => bif okRows s ys then appK L oid s bytes true (.sc .nil) ys else none
  | none => none
@[simp] theorem appNK_nil {s bytes : Nat} : appNK L oid s bytes (some []) = some (.sc .nil, []) := rfl
@[simp] theorem appNK_cons {s bytes : Nat} {r : List W} {ys : List (List W)} : appNK L oid s bytes (some (r :: ys)) = bif okRows s (r :: ys) then appK L oid s bytes true (.sc .nil) (r :: ys) else none := rfl
@[simp] theorem x_appN {s bytes : Nat} {y : Opd} : exec1 C E L oid (.appN s bytes y) = appNK L oid s bytes (rowsOf L (y.val C E)) := by
  simp only [exec1, appNK]
  cases h : rowsOf L (y.val C E) with
  | none => simp [append1_eq, h, bindK]
  | some ys => cases ys with
    | nil => rfl
    | cons r ys => simp [append1_eq, h]

@[simp] theorem load1_ptr {ag : Bool} {n k off : Nat} : load1 L ag n (.sc (.ptr k off)) = boxK (L k) fun cells => (cut cells off n).bind (asV ag) := rfl
def sealK (d : Option V) (p : Option Upd) : Option (V × Upd) := match d, p with
  | some d, some p => some (d, p)
  | _, _ => none
@[simp] theorem sealK_some {d : V} {p : Upd} : sealK (some d) (some p) = some (d, p) := rfl
@[simp] theorem sealV_ag {cs : List W} : sealV L (.ag cs) = sealK ((V.ag cs).toD L) (pubUpd L (nubs (cs.flatMap (W.ids L deep))) (nubs (cs.flatMap (W.ids L deep)))) := by
  simp only [sealV, sealK]
  cases (V.ag cs).toD L with
  | none => rfl
  | some d =>
    simp only [cells_ag]
    cases pubUpd L (nubs (cs.flatMap (W.ids L deep))) (nubs (cs.flatMap (W.ids L deep))) <;> rfl
def fillD (L : Nat → Option Obj) (zero : List W) (ps : Option (List (Nat × List W))) : Option (V × Upd) := match ps with
  | none => none
  | some ps => (fillW zero ps).bind fun cs => sealV L (.ag cs)
@[simp] theorem fillD_some {zero : List W} {ps : List (Nat × List W)} : fillD L zero (some ps) = (fillW zero ps).bind fun cs => sealV L (.ag cs) := rfl
@[simp] theorem x_bldD {zero : List W} {parts : List (Nat × Nat × Opd)} : exec1 C E L oid (.bldD zero parts) = fillD L zero (listM (fun (x : Nat × Nat × Opd) => (pieceOf x.2.1 (x.2.2.val C E)).map fun cs => (x.1, cs)) parts) := by
  simp only [exec1, fillD]
  rw [listM_congr2 (g := fun (x : Nat × Nat × Opd) => (pieceOf x.2.1 (x.2.2.val C E)).map fun cs => (x.1, cs)) fun x => ?_]
  · generalize listM (fun (x : Nat × Nat × Opd) => (pieceOf x.2.1 (x.2.2.val C E)).map fun cs => (x.1, cs)) parts = y
    cases y <;> rfl
  · rw [← pieceOf_eq]
    cases x.2.2.val C E with
    | tu l => rfl
    | ag cs => simp only; cases (V.ag cs).cells.length == x.2.1 && (V.ag cs).cells.all notUn <;> rfl
    | sc w => simp only; cases (V.sc w).cells.length == x.2.1 && (V.sc w).cells.all notUn <;> rfl
@[simp] theorem x_mvD {x : Opd} : exec1 C E L oid (.mvD x) = sealV L (x.val C E) := rfl
@[simp] theorem sealV_sc {w : W} : sealV L (.sc w) = sealK ((V.sc w).toD L) (pubUpd L (nubs (W.ids L deep w)) (nubs (W.ids L deep w))) := by
  simp only [sealV, sealK]
  cases (V.sc w).toD L with
  | none => rfl
  | some d =>
    simp only [cells_sc, List.flatMap_cons, List.flatMap_nil, List.append_nil]
    cases pubUpd L (nubs (W.ids L deep w)) (nubs (W.ids L deep w)) <;> rfl
@[simp] theorem x_ldD {ag : Bool} {n : Nat} {a : Opd} : exec1 C E L oid (.ldD ag n a) = (load1 L ag n (a.val C E)).bind (sealV L) := rfl

/-- nil cells that become arrays. -/
def ownWK (oid j : Nat) (x : Option Nat) (q : List W × Upd) : List W × Upd := match x with
  | some s => (.arr (oid + 1 + j) 0 :: q.1, (oid + 1 + j, some (.arr s [] 0)) :: q.2)
  | none => (.nil :: q.1, q.2)
@[simp] theorem ownWK_some {j s : Nat} {q : List W × Upd} : ownWK oid j (some s) q = (.arr (oid + 1 + j) 0 :: q.1, (oid + 1 + j, some (.arr s [] 0)) :: q.2) := rfl
@[simp] theorem ownWK_none {j : Nat} {q : List W × Upd} : ownWK oid j none q = (.nil :: q.1, q.2) := rfl
@[simp] theorem ownW_nilc {own : List (Nat × Nat)} {j : Nat} {r : List W} : ownW oid own j (.nil :: r) = ownWK oid j (get? own j) (ownW oid own (j + 1) r) := by
  simp only [ownW, ownWK]
  cases get? own j <;> rfl
@[simp] theorem ownW_c {own : List (Nat × Nat)} {j : Nat} {x : Cell} {r : List W} : ownW oid own j (.c x :: r) = (.c x :: (ownW oid own (j + 1) r).1, (ownW oid own (j + 1) r).2) := rfl
@[simp] theorem ownW_arr {own : List (Nat × Nat)} {j k n : Nat} {r : List W} : ownW oid own j (.arr k n :: r) = (.arr k n :: (ownW oid own (j + 1) r).1, (ownW oid own (j + 1) r).2) := rfl
def storeOwn (L : Nat → Option Obj) (a : V) (y : List W × Upd) : Option (V × Upd) := bif y.2.all (fun u => (L u.1).isNone) then (storeK L a y.1).map fun q => (q.1, y.2 ++ q.2) else none
@[simp] theorem storeOwn_eq {a : V} {cs : List W} {u : Upd} : storeOwn L a (cs, u) = bif u.all (fun u => (L u.1).isNone) then (storeK L a cs).map fun q => (q.1, u ++ q.2) else none := rfl
@[simp] theorem x_storeOwn {n : Nat} {a x : Opd} {p : Nat × Nat} {own : List (Nat × Nat)} : exec1 C E L oid (.store n a x (p :: own)) = bindK (pieceOf n (x.val C E)) fun cs => storeOwn L (a.val C E) (ownW oid (p :: own) 0 cs) := by
  rw [← pieceOf_eq]
  simp only [exec1]
  generalize x.val C E = v
  generalize a.val C E = w
  have key : ∀ v : V, (bif v.cells.length == n && v.cells.all notUn && (ownW oid (p :: own) 0 v.cells).2.all (fun u => (L u.1).isNone) then (match w with
      | .sc (.ptr k off) => match L k with
        | some (.box cells) => (splice cells off (ownW oid (p :: own) 0 v.cells).1).map fun cs => (V.sc .un, (ownW oid (p :: own) 0 v.cells).2 ++ [(k, some (Obj.box cs))])
        | _ => none
      | .sc (.el k N i off) => match L k with
        | some (.arr s rows q) => bif rows.length == N && Nat.ble q i then match rows[i]? with
          | some row => (splice row off (ownW oid (p :: own) 0 v.cells).1).map fun cs => (V.sc .un, (ownW oid (p :: own) 0 v.cells).2 ++ [(k, some (Obj.arr s (setRow rows i cs) q))])
          | none => none
          else none
        | _ => none
      | _ => none)
      else none) = bindK (bif v.cells.length == n && v.cells.all notUn then some v.cells else none) fun cs => storeOwn L w (ownW oid (p :: own) 0 cs) := by
    intro v
    generalize hy : ownW oid (p :: own) 0 v.cells = y
    obtain ⟨cs, u⟩ := y
    cases hc : v.cells.length == n && v.cells.all notUn with
    | false => rfl
    | true =>
      simp only [Bool.true_and, cond_true, bindK_some, hy, storeOwn_eq]
      cases u.all (fun u => (L u.1).isNone) with
      | false => rfl
      | true =>
        simp only [cond_true, storeK]
        cases w with
        | sc w => cases w with
          | ptr k off =>
            simp only [boxK]
            cases L k with
            | none => rfl
            | some o => cases o with
              | box cells => simp only; cases splice cells off cs <;> rfl
              | mp _ => rfl
              | arr => rfl
          | el k N i off =>
            simp only [arrK]
            cases L k with
            | none => rfl
            | some o => cases o with
              | box _ => rfl
              | mp _ => rfl
              | arr s rows q =>
                simp only
                cases rows.length == N && Nat.ble q i with
                | false => rfl
                | true =>
                  simp only [cond_true, bindK]
                  cases rows[i]? with
                  | none => rfl
                  | some row => simp only; cases splice row off cs <;> rfl
          | _ => rfl
        | _ => rfl
  cases v with
  | tu l => rfl
  | sc w' => grind
  | ag cs => grind

end

/- ## Declarations -/
structure ConD where
  pos : Int
  name : Str
  fields : List Ty
structure DataD where
  pos : Int
  name : Str
  params : List Str
  cons : List ConD
def conRow (c : ConD) : List Cell := [.int .i64 c.pos, .str c.name, .sl (Ty.rows c.fields)]
def conRows (l : List ConD) : List (List Cell) := l.map conRow
def dataRow (d : DataD) : List Cell := [.int .i64 d.pos, .str d.name, .sl (strRows d.params), .sl (conRows d.cons)]
def dataRows (l : List DataD) : List (List Cell) := l.map dataRow
@[simp] theorem conRow_len (c : ConD) : (conRow c).length = 3 := rfl
@[simp] theorem dataRow_len (c : DataD) : (dataRow c).length = 4 := rfl
@[simp] theorem conRows_len (l : List ConD) : (conRows l).length = l.length := by simp [conRows]
@[simp] theorem dataRows_len (l : List DataD) : (dataRows l).length = l.length := by simp [dataRows]
@[simp] theorem conRows_get (l : List ConD) (i : Nat) : (conRows l)[i]? = (l[i]?).map conRow := by simp [conRows]
@[simp] theorem dataRows_get (l : List DataD) (i : Nat) : (dataRows l)[i]? = (l[i]?).map dataRow := by simp [dataRows]
@[simp] theorem okRows_con (l : List ConD) : okRows 3 (wr (conRows l)) = true := okRows_of l conRow_len
@[simp] theorem okRows_data4 (l : List DataD) : okRows 4 (wr (dataRows l)) = true := okRows_of l dataRow_len
@[simp] theorem dataRows_snoc (l : List DataD) (x : DataD) : wr (dataRows l) ++ [wc (dataRow x)] = wr (dataRows (l ++ [x])) := by simp [dataRows, wr]
section
variable (c : ConD) (d : DataD)
@[simp] theorem cut_c0 : cut (conRow c) 0 1 = some [.int .i64 c.pos] := rfl
@[simp] theorem cut_c1 : cut (conRow c) 1 1 = some [.str c.name] := rfl
@[simp] theorem cut_c2 : cut (conRow c) 2 1 = some [.sl (Ty.rows c.fields)] := rfl
@[simp] theorem cut_c : cut (conRow c) 0 3 = some (conRow c) := rfl
@[simp] theorem cut_d0 : cut (dataRow d) 0 1 = some [.int .i64 d.pos] := rfl
@[simp] theorem cut_d1 : cut (dataRow d) 1 1 = some [.str d.name] := rfl
@[simp] theorem cut_d2 : cut (dataRow d) 2 1 = some [.sl (strRows d.params)] := rfl
@[simp] theorem cut_d3 : cut (dataRow d) 3 1 = some [.sl (conRows d.cons)] := rfl
@[simp] theorem cut_d : cut (dataRow d) 0 4 = some (dataRow d) := rfl
@[simp] theorem cutw_c0 : cut (wc (conRow c)) 0 1 = some [.c (.int .i64 c.pos)] := rfl
@[simp] theorem cutw_c1 : cut (wc (conRow c)) 1 1 = some [.c (.str c.name)] := rfl
@[simp] theorem cutw_c2 : cut (wc (conRow c)) 2 1 = some [.c (.sl (Ty.rows c.fields))] := rfl
@[simp] theorem cutw_c : cut (wc (conRow c)) 0 3 = some (wc (conRow c)) := rfl
@[simp] theorem cutw_d0 : cut (wc (dataRow d)) 0 1 = some [.c (.int .i64 d.pos)] := rfl
@[simp] theorem cutw_d1 : cut (wc (dataRow d)) 1 1 = some [.c (.str d.name)] := rfl
@[simp] theorem cutw_d2 : cut (wc (dataRow d)) 2 1 = some [.c (.sl (strRows d.params))] := rfl
@[simp] theorem cutw_d3 : cut (wc (dataRow d)) 3 1 = some [.c (.sl (conRows d.cons))] := rfl
@[simp] theorem cutw_d : cut (wc (dataRow d)) 0 4 = some (wc (dataRow d)) := rfl
end

end Go.Vs
