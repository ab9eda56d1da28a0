/- The value semantics: a small language over pure data with frame-local objects, and its evaluator. Nothing is claimed of the program here. -/
import Derived.Calls
import Derived.Orders
import Derived.KernelRfl
namespace Go.Vs
open Go

/-- Data: what is never written again. A slice is the list of its rows (a row: the cells of one element). -/
inductive Cell where
  | int (k : IntKind) (n : Int)
  | bool (b : Bool)
  | str (s : List UInt8)
  | sl (rows : List (List Cell))
  | fn (f : FuncId) (ones : List Bool) (caps : List (List Cell))
  | nilfn
  | nilptr
  | nilif
  | ifc (t : TypeId) (one : Bool) (row : List Cell)
  | ro (row : List Cell) (off : Nat)
  deriving Inhabited

/-- What one cell of a frame holds. -/
inductive W where
  | c (x : Cell)
  | nil
  | full (rows : List (List Cell))
  | arr (k n : Nat)
  | vw (k N lo n : Nat)
  | ptr (k off : Nat)
  | el (k N i off : Nat)
  | clo (f : FuncId) (ones : List Bool) (caps : List (List W))
  | ifw (t : TypeId) (one : Bool) (row : List W)
  | sk
  | un
  deriving Inhabited

inductive V where
  | sc (w : W)
  | ag (cs : List W)
  | tu (l : List V)
  deriving Inhabited

inductive Obj where
  | box (cells : List W)
  | arr (s : Nat) (rows : List (List W)) (p : Nat)
  deriving Inhabited

def V.cells : V → List W
  | .sc w => [w]
  | .ag cs => cs
  | .tu _ => []

abbrev Env := List (Nat × V)
abbrev Objs := List (Nat × Option Obj)
abbrev Upd := List (Nat × Option Obj)

def get? {α : Type} : List (Nat × α) → Nat → Option α
  | [], _ => none
  | (j, a) :: r, k => bif j == k then some a else get? r k

def put {α : Type} : List (Nat × α) → Nat → α → List (Nat × α)
  | [], k, a => [(k, a)]
  | (j, b) :: r, k, a => bif j == k then (j, a) :: r else (j, b) :: put r k a

def look (o : Objs) (k : Nat) : Option Obj := (get? o k).join
def putAll (o : Objs) : Upd → Objs
  | [] => o
  | (k, x) :: r => putAll (put o k x) r

structure St where
  env : Env
  objs : Objs
  deriving Inhabited

/- ## Data out of a frame's cells -/

def listM {α β : Type} (f : α → Option β) : List α → Option (List β)
  | [] => some []
  | a :: r => match f a with
    | none => none
    | some b => match listM f r with
      | none => none
      | some l => some (b :: l)

/-- The data that a cell stands for; 'd': how deep arrays may hold arrays. -/
def W.toC (L : Nat → Option Obj) : Nat → W → Option Cell
  | _, .c x => some x
  | _, .nil => some (.sl [])
  | _, .full rows => some (.sl rows)
  | d + 1, .arr k n => match L k with
    | some (.arr _ rows _) => bif rows.length == n then (listM (listM (W.toC L d)) rows).map .sl else none
    | _ => none
  | d + 1, .vw k N lo n => match L k with
    | some (.arr _ rows _) => bif rows.length == N && Nat.ble (lo + n) N then (listM (listM (W.toC L d)) ((rows.drop lo).take n)).map .sl else none
    | _ => none
  | d + 1, .clo f ones caps => (listM (listM (W.toC L d)) caps).map (.fn f ones)
  | d + 1, .ifw t one row => (listM (W.toC L d) row).map (.ifc t one)
  | _, _ => none

/-- The arrays whose rows such data holds. -/
def W.ids (L : Nat → Option Obj) : Nat → W → List Nat
  | d + 1, .arr k _ => k :: (match L k with | some (.arr _ rows _) => rows.flatMap (·.flatMap (W.ids L d)) | _ => [])
  | d + 1, .vw k _ _ _ => k :: (match L k with | some (.arr _ rows _) => rows.flatMap (·.flatMap (W.ids L d)) | _ => [])
  | d + 1, .clo _ _ caps => caps.flatMap (·.flatMap (W.ids L d))
  | d + 1, .ifw _ _ row => row.flatMap (W.ids L d)
  | _, _ => []

def deep : Nat := 4

/-- Arrays' rows are published: they are data from now on. 'all': the arrays that are published together. -/
def pubUpd (L : Nat → Option Obj) (all : List Nat) : List Nat → Option Upd
  | [] => some []
  | k :: r => match L k with
    | some (.arr s rows _) => match listM (listM (W.toC L deep)) rows with
      | some cs => bif rows.all (fun q => q.all fun x => (W.ids L deep x).all fun j => all.contains j) then
          (pubUpd L all r).map ((k, some (.arr s (cs.map (·.map W.c)) rows.length)) :: ·)
        else none
      | none => none
    | _ => none

/- ## References -/

def W.refs : Nat → W → List Nat
  | _, .arr k _ | _, .vw k _ _ _ | _, .ptr k _ | _, .el k _ _ _ => [k]
  | d + 1, .clo _ _ caps => caps.flatMap (·.flatMap (W.refs d))
  | d + 1, .ifw _ _ row => row.flatMap (W.refs d)
  | _, _ => []

def Obj.refs : Obj → List Nat
  | .box cs => cs.flatMap (W.refs deep)
  | .arr _ rows _ => rows.flatMap (·.flatMap (W.refs deep))

def V.refs (v : V) : List Nat := match v with
  | .tu l => l.flatMap fun x => x.cells.flatMap (W.refs deep)
  | v => v.cells.flatMap (W.refs deep)

/-- Rename; what has no new name becomes unknown. -/
def W.ren (ρ : Nat → Option Nat) : Nat → W → W
  | _, .c x => .c x
  | _, .nil => .nil
  | _, .full r => .full r
  | _, .sk => .sk
  | _, .un => .un
  | _, .arr k n => match ρ k with | some j => .arr j n | none => .un
  | _, .vw k N lo n => match ρ k with | some j => .vw j N lo n | none => .un
  | _, .ptr k o => match ρ k with | some j => .ptr j o | none => .un
  | _, .el k N i o => match ρ k with | some j => .el j N i o | none => .un
  | d + 1, .clo f ones caps => .clo f ones (caps.map (·.map (W.ren ρ d)))
  | d + 1, .ifw t one row => .ifw t one (row.map (W.ren ρ d))
  | 0, .clo .. => .un
  | 0, .ifw .. => .un

def Obj.ren (ρ : Nat → Option Nat) : Obj → Obj
  | .box cs => .box (cs.map (W.ren ρ deep))
  | .arr s rows p => .arr s (rows.map (·.map (W.ren ρ deep))) p

def V.ren (ρ : Nat → Option Nat) : V → V
  | .sc w => .sc (w.ren ρ deep)
  | .ag cs => .ag (cs.map (W.ren ρ deep))
  | .tu l => .tu (l.map fun | .sc w => .sc (w.ren ρ deep) | .ag cs => .ag (cs.map (W.ren ρ deep)) | .tu _ => .sc .un)

end Go.Vs
