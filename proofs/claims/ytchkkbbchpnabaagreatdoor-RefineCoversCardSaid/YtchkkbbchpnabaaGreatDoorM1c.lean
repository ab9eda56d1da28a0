/- The value semantics: a small language over pure data with frame-local objects, and its evaluator. Nothing is claimed of the program here. -/
import Derived.Calls
import Derived.Orders
import Derived.KernelRfl
import Derived.WalkKit
set_option linter.unusedSimpArgs false
set_option linter.unusedVariables false
set_option linter.deprecated false

/- The value semantics: a small language over pure data with frame-local objects, and its evaluator. Nothing is claimed of the program here. -/
namespace Go.Vs
open Go

/-- Data: what is never written again. A slice is the list of its rows (a row: the cells of one element). -/
inductive Cell where
  | int (k : IntKind) (n : Int)
  | bool (b : Bool)
  | str (s : List UInt8)
  | sl (rows : List (List Cell))
  | fn (f : FuncId) (ones : List Bool) (caps : List (List Cell))
  | nilfn
  | nilptr
  | nilif
  | ifc (t : TypeId) (one : Bool) (row : List Cell)
  | ro (row : List Cell) (off : Nat)
  | mp
  deriving Inhabited

/-- What one cell of a frame holds. -/
inductive W where
  | c (x : Cell)
  | nil
  | full (rows : List (List Cell))
  | arr (k n : Nat)
  | vw (k N lo n : Nat)
  | ptr (k off : Nat)
  | el (k N i off : Nat)
  | clo (f : FuncId) (ones : List Bool) (caps : List (List W))
  | ifw (t : TypeId) (one : Bool) (row : List W)
  | e0 (b : Bool)
  | sk
  | un
  | mr (k : Nat)
  deriving Inhabited

inductive V where
  | sc (w : W)
  | ag (cs : List W)
  | tu (l : List V)
  deriving Inhabited

inductive Obj where
  | box (cells : List W)
  | arr (s : Nat) (rows : List (List W)) (p : Nat)
  | mp (es : List (Cell × Bool × List Cell))
  deriving Inhabited

def V.cells : V → List W
  | .sc w => [w]
  | .ag cs => cs
  | .tu _ => []

abbrev Env := List (Nat × V)
abbrev Objs := List (Nat × Option Obj)
abbrev Upd := List (Nat × Option Obj)

def get? {α : Type} : List (Nat × α) → Nat → Option α
  | [], _ => none
  | (j, a) :: r, k => bif j == k then some a else get? r k

def put {α : Type} : List (Nat × α) → Nat → α → List (Nat × α)
  | [], k, a => [(k, a)]
  | (j, b) :: r, k, a => bif j == k then (j, a) :: r else (j, b) :: put r k a

def look (o : Objs) (k : Nat) : Option Obj := (get? o k).join
def putAll (o : Objs) : Upd → Objs
  | [] => o
  | (k, x) :: r => putAll (put o k x) r

structure St where
  env : Env
  objs : Objs
  deriving Inhabited

/- ## Data out of a frame's cells -/

def listM {α β : Type} (f : α → Option β) : List α → Option (List β)
  | [] => some []
  | a :: r => match f a with
    | none => none
    | some b => match listM f r with
      | none => none
      | some l => some (b :: l)

/-- The data that a cell stands for; 'd': how deep arrays may hold arrays. -/
def W.toC (L : Nat → Option Obj) : Nat → W → Option Cell
  | _, .c x => some x
  | _, .nil => some (.sl [])
  | _, .e0 _ => some (.sl [])
  | _, .full rows => some (.sl rows)
  | d + 1, .arr k n => match L k with
    | some (.arr _ rows _) => bif rows.length == n then (listM (listM (W.toC L d)) rows).map .sl else none
    | _ => none
  | d + 1, .vw k N lo n => match L k with
    | some (.arr _ rows _) => bif rows.length == N && Nat.ble (lo + n) N then (listM (listM (W.toC L d)) ((rows.drop lo).take n)).map .sl else none
    | _ => none
  | d + 1, .clo f ones caps => (listM (listM (W.toC L d)) caps).map (.fn f ones)
  | d + 1, .ifw t one row => (listM (W.toC L d) row).map (.ifc t one)
  | _, _ => none

/-- The arrays whose rows such data holds. -/
def W.ids (L : Nat → Option Obj) : Nat → W → List Nat
  | d + 1, .arr k _ => k :: (match L k with | some (.arr _ rows _) => rows.flatMap (·.flatMap (W.ids L d)) | _ => [])
  | d + 1, .vw k _ _ _ => k :: (match L k with | some (.arr _ rows _) => rows.flatMap (·.flatMap (W.ids L d)) | _ => [])
  | d + 1, .clo _ _ caps => caps.flatMap (·.flatMap (W.ids L d))
  | d + 1, .ifw _ _ row => row.flatMap (W.ids L d)
  | _, _ => []

def deep : Nat := 4

/-- Arrays' rows are published: they are data from now on. 'all': the arrays that are published together. -/
def pubUpd (L : Nat → Option Obj) (all : List Nat) : List Nat → Option Upd
  | [] => some []
  | k :: r => match L k with
    | some (.arr s rows _) => match listM (listM (W.toC L deep)) rows with
      | some cs => bif rows.all (fun q => q.all fun x => (W.ids L deep x).all fun j => all.contains j) then
          (pubUpd L all r).map ((k, some (.arr s (cs.map (·.map W.c)) rows.length)) :: ·)
        else none
      | none => none
    | _ => none

/- ## References -/

def W.refs : Nat → W → List Nat
  | _, .arr k _ | _, .vw k _ _ _ | _, .ptr k _ | _, .el k _ _ _ | _, .mr k => [k]
  | d + 1, .clo _ _ caps => caps.flatMap (·.flatMap (W.refs d))
  | d + 1, .ifw _ _ row => row.flatMap (W.refs d)
  | _, _ => []

def Obj.refs : Obj → List Nat
  | .box cs => cs.flatMap (W.refs deep)
  | .arr _ rows _ => rows.flatMap (·.flatMap (W.refs deep))
  | .mp _ => []

def V.refs (v : V) : List Nat := match v with
  | .tu l => l.flatMap fun x => x.cells.flatMap (W.refs deep)
  | v => v.cells.flatMap (W.refs deep)

/-- Rename; what has no new name becomes unknown. -/
def W.ren (ρ : Nat → Option Nat) : Nat → W → W
  | _, .c x => .c x
  | _, .nil => .nil
  | _, .full r => .full r
  | _, .e0 b => .e0 b
  | _, .sk => .sk
  | _, .un => .un
  | _, .arr k n => match ρ k with | some j => .arr j n | none => .un
  | _, .vw k N lo n => match ρ k with | some j => .vw j N lo n | none => .un
  | _, .ptr k o => match ρ k with | some j => .ptr j o | none => .un
  | _, .el k N i o => match ρ k with | some j => .el j N i o | none => .un
  | _, .mr k => match ρ k with | some j => .mr j | none => .un
  | d + 1, .clo f ones caps => .clo f ones (caps.map (·.map (W.ren ρ d)))
  | d + 1, .ifw t one row => .ifw t one (row.map (W.ren ρ d))
  | 0, .clo .. => .un
  | 0, .ifw .. => .un

def Obj.ren (ρ : Nat → Option Nat) : Obj → Obj
  | .box cs => .box (cs.map (W.ren ρ deep))
  | .arr s rows p => .arr s (rows.map (·.map (W.ren ρ deep))) p
  | .mp es => .mp es

def V.ren (ρ : Nat → Option Nat) : V → V
  | .sc w => .sc (w.ren ρ deep)
  | .ag cs => .ag (cs.map (W.ren ρ deep))
  | .tu l => .tu (l.map fun | .sc w => .sc (w.ren ρ deep) | .ag cs => .ag (cs.map (W.ren ρ deep)) | .tu _ => .sc .un)

end Go.Vs

/- The value semantics, 2: operations, code and functions, and their evaluator. Nothing is claimed of the program here. -/
namespace Go.Vs
open Go

inductive Opd where
  | t (n : Nat)
  | g (n : Nat)
  | k (v : V)
  deriving Inhabited

inductive VOp where
  | mv (x : Opd)
  | pick (c a b : Opd)
  | bin (op : BinOp) (tag : Nat) (x y : Opd)
  | un (op : UnOp) (x : Opd)
  | new (cells : List W) (own : List (Nat × Nat))
  | box (x : Opd)
  | build (zero : List W) (parts : List (Nat × Nat × Opd))
  | mkSl (s : Nat) (parts : List Opd)
  | load (ag : Bool) (n : Nat) (a : Opd)
  | store (n : Nat) (a x : Opd) (own : List (Nat × Nat))
  | fld (off : Nat) (a : Opd)
  | part (ag : Bool) (off n : Nat) (x : Opd)
  | idxA (s : Nat) (x i : Opd)
  | idxAA (s len : Nat) (x i : Opd)
  | idxS (x i : Opd)
  | slS (x : Opd) (lo hi : Option Opd)
  | sl (s : Nat) (x : Opd) (lo hi mx : Option Opd)
  | len (str : Bool) (x : Opd)
  | mx (x y : Opd)
  | mn (x y : Opd)
  | app (s bytes : Nat) (mk : Bool) (x y : Opd)
  | mkS (s bytes : Nat) (zero : List W) (n : Opd)
  | fn (f : FuncId) (caps : List Opd)
  | call (f : Opd) (args : List (Bool × Opd)) (own : List (Nat × Nat))
  | ext (i : Nat) (x : Opd)
  | cvI (k : IntKind) (x : Opd)
  | ifc (t : TypeId) (x : Opd)
  | nn (x : Opd)
  | cp (s : Nat) (x y : Opd)
  | ldD (ag : Bool) (n : Nat) (a : Opd)
  | mvD (x : Opd)
  | bldD (zero : List W) (parts : List (Nat × Nat × Opd))
  | appN (s bytes : Nat) (y : Opd)
  | mkE
  | mkM
  | appF (s bytes : Nat) (x y : Opd)
  | cvB (x : Opd)
  | clr (s : Nat) (zero : List W) (x : Opd)
  | newA (n : Nat) (zero : List W)
  | slA (s n : Nat) (x : Opd) (lo hi : Option Opd)
  | cvS (x : Opd)
  | newM
  | lkM (kd : Option IntKind) (zero : List Cell) (one ok : Bool) (m x : Opd)
  | upM (kd : Option IntKind) (m x y : Opd)
  | boxD (x : Opd)
  | bad
  deriving Inhabited

structure VOper where
  dst : Option Nat
  op : VOp
  guard : Option (Nat × Bool)
  oid : Nat
  own : List (Nat × Nat)
  deriving Inhabited

inductive VCode where
  | skip
  | region (drop : List Nat) (ops : List VOper) (chk : List (Nat × Nat)) (live : List Nat)
  | seq (a b : VCode)
  | cond (c : Opd) (x y : VCode)
  | block (id : Nat) (b : VCode)
  | loop (b : VCode)
  | exit (id : Nat)
  | ret
  | rangeB (x : Opd) (f s : Nat) (ag : Bool) (p q : Nat) (asg body : VCode)
  | melt (k : Nat) (b : VCode)
  | bad
  deriving Inhabited

inductive Ex where
  | normal
  | exit (id : Nat)
  | ret
  deriving Inhabited

inductive VRes where
  | tmp (t : Nat)
  | cell (t : Nat) (ag : Bool) (n : Nat)
  deriving Inhabited

structure VFun where
  nparams : Nat
  body : VCode
  results : List VRes
  keep : Bool
  deriving Inhabited

abbrev Oracle := FuncId → List V → List Obj → Option (V × List Obj)

/-- What a frame runs in: what calls give, and what the package-level variables hold. -/
structure Ctx where
  call : Oracle
  gl : Nat → List Cell

def Opd.val (C : Ctx) (E : Nat → Option V) : Opd → V
  | .t n => (E n).getD (.sc .un)
  | .g n => .sc (.c (.ro (C.gl n) 0))
  | .k v => v

/- ## Operations on data -/

def wrapI (k : IntKind) (n : Int) : Cell := .int k (k.wrap n)

def intBin (op : BinOp) (k : IntKind) (a b : Int) : Option Cell :=
  match op with
  | .add => some (wrapI k (a + b))
  | .sub => some (wrapI k (a - b))
  | .mul => some (wrapI k (a * b))
  | .quo => if b = 0 then none else some (wrapI k (a.tdiv b))
  | .rem => if b = 0 then none else some (.int k (a.tmod b))
  | .eql => some (.bool (a == b))
  | .neq => some (.bool (a != b))
  | .lss => some (.bool (decide (a < b)))
  | .leq => some (.bool (decide (a ≤ b)))
  | .gtr => some (.bool (decide (a > b)))
  | .geq => some (.bool (decide (a ≥ b)))
  | .and => some (.int k (k.wrap (BitVec.ofInt k.bits a &&& BitVec.ofInt k.bits b).toNat))
  | .or => some (.int k (k.wrap (BitVec.ofInt k.bits a ||| BitVec.ofInt k.bits b).toNat))
  | .xor => some (.int k (k.wrap (BitVec.ofInt k.bits a ^^^ BitVec.ofInt k.bits b).toNat))
  | _ => none

def intShift (op : BinOp) (k : IntKind) (a b : Int) : Option Cell :=
  if b < 0 then none else
  match op with
  | .shl => some (.int k (k.wrap (a * 2 ^ (min b.toNat k.bits))))
  | .shr => some (.int k (a.fdiv (2 ^ (min b.toNat k.bits))))
  | _ => none

def strBin (op : BinOp) (a b : List UInt8) : Option Cell :=
  match op with
  | .add => if a.length + b.length ≤ 9223372036854775807 then some (.str (a ++ b)) else none
  | .eql => some (.bool (a == b))
  | .neq => some (.bool !(a == b))
  | .lss => some (.bool (Op.bytesLess a b))
  | .leq => some (.bool (Op.bytesLess a b || a == b))
  | .gtr => some (.bool !(Op.bytesLess a b || a == b))
  | .geq => some (.bool !(Op.bytesLess a b))
  | _ => none

def isShift : BinOp → Bool
  | .shl | .shr => true
  | _ => false

/-- 'x == y', 'x != y' where one side is nil. -/
def nilEq (op : BinOp) (e : Bool) : Option Cell :=
  match op with
  | .eql => some (.bool e)
  | .neq => some (.bool !e)
  | _ => none

/-- tag: 0 numbers and strings, 1 bools, 2 slices and nil, 3 pointers and nil, 4 functions and nil, 5 interfaces and nil, T + 6 interfaces that both hold a T, an integer. -/
def binW (op : BinOp) (tag : Nat) (x y : W) : Option Cell :=
  match tag with
  | 0 => match x, y with
    | .c (.int k a), .c (.int k' b) => bif isShift op then intShift op k a b else if k = k' then intBin op k a b else none
    | .c (.str a), .c (.str b) => strBin op a b
    | _, _ => none
  | 1 => match x, y with
    | .c (.bool a), .c (.bool b) => nilEq op (a == b)
    | _, _ => none
  | 2 => match x, y with
    | .nil, .nil => nilEq op true
    | .c (.sl (_ :: _)), .nil => nilEq op false
    | .e0 b, .nil => nilEq op b
    | _, _ => none
  | 3 => match x, y with
    | .c .nilptr, .c .nilptr => nilEq op true
    | .ptr _ _, .c .nilptr => nilEq op false
    | .c (.ro ..), .c .nilptr => nilEq op false
    | _, _ => none
  | 4 => match x, y with
    | .c .nilfn, .c .nilfn => nilEq op true
    | .c (.fn ..), .c .nilfn => nilEq op false
    | .clo .., .c .nilfn => nilEq op false
    | _, _ => none
  | 5 => match x, y with
    | .c .nilif, .c .nilif => nilEq op true
    | .c (.ifc ..), .c .nilif => nilEq op false
    | .ifw .., .c .nilif => nilEq op false
    | _, _ => none
  | T + 6 => match x, y with
    | .c (.ifc t true [.int k m]), .c (.ifc t' true [.int k' n]) => bif t == T && t' == T then if k = k' then nilEq op (m == n) else none else none
    | _, _ => none

def unW (op : UnOp) : W → Option Cell
  | .c (.int k a) => match op with
    | .neg => some (wrapI k (0 - a))
    | _ => none
  | .c (.bool b) => match op with
    | .not => some (.bool !b)
    | _ => none
  | _ => none

/- ## Rows and cells -/

def notUn : W → Bool
  | .un | .sk => false
  | _ => true

/-- Cells 'off' to 'off + n - 1', if there are so many. -/
def cut {α : Type} (l : List α) (off n : Nat) : Option (List α) :=
  bif Nat.ble (off + n) l.length then some ((l.drop off).take n) else none

def splice {α : Type} (l : List α) (off : Nat) (xs : List α) : Option (List α) :=
  bif Nat.ble (off + xs.length) l.length then some (l.take off ++ xs ++ l.drop (off + xs.length)) else none

def asV (ag : Bool) (cs : List W) : Option V :=
  bif ag then some (.ag cs) else match cs with | [w] => some (.sc w) | _ => none

def setRow {α : Type} : List α → Nat → α → List α
  | [], _, _ => []
  | _ :: r, 0, a => a :: r
  | b :: r, n + 1, a => b :: setRow r n a

def fillW (cells : List W) : List (Nat × List W) → Option (List W)
  | [] => some cells
  | (off, xs) :: r => match splice cells off xs with
    | none => none
    | some c => fillW c r

/-- nil cells become arrays of the frame's own, without rows. -/
def ownW (oid : Nat) (own : List (Nat × Nat)) : Nat → List W → List W × Upd
  | _, [] => ([], [])
  | j, w :: r =>
    let rest := ownW oid own (j + 1) r
    match w, get? own j with
    | .nil, some s => (.arr (oid + 1 + j) 0 :: rest.1, (oid + 1 + j, some (.arr s [] 0)) :: rest.2)
    | .full [], some s => (.arr (oid + 1 + j) 0 :: rest.1, (oid + 1 + j, some (.arr s [] 0)) :: rest.2)
    | _, _ => (w :: rest.1, rest.2)

def intOf (v : V) : Option Int := match v with
  | .sc (.c (.int _ n)) => some n
  | _ => none

/-- An index: not negative, below the bound. -/
def natBelow (v : V) (b : Nat) : Option Nat := match v with
  | .sc (.c (.int _ (.ofNat n))) => bif Nat.blt n b then some n else none
  | _ => none

/-- The rows of a slice value, for reading. -/
def rowsOf (L : Nat → Option Obj) : V → Option (List (List W))
  | .sc (.c (.sl rows)) => some (rows.map (·.map W.c))
  | .sc .nil => some []
  | .sc (.e0 _) => some []
  | .sc (.full rows) => some (rows.map (·.map W.c))
  | .sc (.arr k n) => match L k with
    | some (.arr _ rows _) => bif rows.length == n then some rows else none
    | _ => none
  | .sc (.vw k N lo n) => match L k with
    | some (.arr _ rows _) => bif rows.length == N then cut rows lo n else none
    | _ => none
  | _ => none

def lenV (L : Nat → Option Obj) : V → Option Nat
  | .sc (.c (.str s)) => some s.length
  | .sc (.c (.sl rows)) => some rows.length
  | .sc .nil => some 0
  | .sc (.e0 _) => some 0
  | .sc (.full rows) => some rows.length
  | .sc (.arr k n) => match L k with
    | some (.arr _ rows _) => bif rows.length == n then some n else none
    | _ => none
  | .sc (.vw k N lo n) => match L k with
    | some (.arr _ rows _) => bif rows.length == N then (cut rows lo n).map (fun _ => n) else none
    | _ => none
  | _ => none

def elOk (L : Nat → Option Obj) (k N i : Nat) : Bool := match L k with
  | some (.arr _ rows _) => rows.length == N && Nat.blt i N
  | _ => false

/-- Moving an address on inside of what it points into. -/
def onBy (L : Nat → Option Obj) (n : Nat) : V → Option (V × Upd)
  | .sc (.ptr k o) => some (.sc (.ptr k (o + n)), [])
  | .sc (.el k N i o) => bif elOk L k N i then some (.sc (.el k N i (o + n)), []) else none
  | .sc (.c (.ro row o)) => some (.sc (.c (.ro row (o + n))), [])
  | _ => none

def isStr : V → Bool
  | .sc (.c (.str _)) => true
  | _ => false

def boundOr (v : Option V) (d b : Nat) : Option Nat := match v with
  | none => bif Nat.ble d b then some d else none
  | some v => natBelow v (b + 1)

def rowsFit {α : Type} (s : Nat) (rows : List (List α)) : Bool := match rows with
  | [] => true
  | r :: _ => r.length == s

/-- 'x[lo:hi:mx]' of a slice. -/
def slice1 (L : Nat → Option Obj) (s : Nat) (x : V) (lo hi mx : Option V) : Option (V × Upd) :=
  match x with
  | .sc .nil => match boundOr mx 0 0, boundOr hi 0 0, boundOr lo 0 0 with
    | some _, some _, some _ => some (.sc .nil, [])
    | _, _, _ => none
  | .sc (.c (.sl rows)) => match boundOr mx rows.length rows.length with
    | none => none
    | some m => match boundOr hi rows.length m with
      | none => none
      | some h => match boundOr lo 0 h with
        | none => none
        | some l => bif rowsFit s rows then
            bif mx.isSome && m == h then some (.sc (.full ((rows.take h).drop l)), []) else some (.sc (.c (.sl ((rows.take h).drop l))), [])
          else none
  | .sc (.full rows) => match boundOr mx rows.length rows.length with
    | none => none
    | some m => match boundOr hi rows.length m with
      | none => none
      | some h => match boundOr lo 0 h with
        | none => none
        | some l => bif rowsFit s rows then
            bif m == h then some (.sc (.full ((rows.take h).drop l)), []) else some (.sc (.c (.sl ((rows.take h).drop l))), [])
          else none
  | .sc (.arr k n) => match L k with
    | some (.arr s' rows _) => match boundOr hi n n with
      | none => none
      | some h => match boundOr lo 0 h with
        | none => none
        | some l => bif rows.length == n && s' == s then
            match mx with
            | none => some (.sc (.vw k n l (h - l)), [])
            | some m => match natBelow m (n + 1) with
              | some m => bif m == h && l == h then some (.sc (.full []), []) else none
              | none => none
          else none
    | _ => none
  | .sc (.vw k N lo0 n) => match L k with
    | some (.arr s' rows _) => match boundOr hi n n with
      | none => none
      | some h => match boundOr lo 0 h with
        | none => none
        | some l => bif rows.length == N && Nat.ble (lo0 + n) N && s' == s && mx.isNone then some (.sc (.vw k N (lo0 + l) (h - l)), []) else none
    | _ => none
  | _ => none

def maxRows : Nat := 9223372036854775807
def maxBytes : Nat := 140737488355328

/-- append(x, y...). -/
def append1 (L : Nat → Option Obj) (oid s bytes : Nat) (_mk : Bool) (x y : V) : Option (V × Upd) :=
  match rowsOf L y with
  | none => none
  | some ys => bif ys.all (fun r => r.length == s && r.all notUn) then
    match x with
    | .sc (.arr k n) => match L k with
      | some (.arr s' rows p) =>
        bif rows.length == n && s' == s && Nat.ble (n + ys.length) maxRows && Nat.ble ((n + ys.length) * bytes) maxBytes then
          some (.sc (.arr k (n + ys.length)), [(k, some (.arr s (rows ++ ys) p))])
        else none
      | _ => none
    | .sc (.vw k N 0 n) => match L k with
      | some (.arr s' rows p) =>
        bif rows.length == N && s' == s && Nat.ble p n && Nat.ble n N && Nat.ble (n + ys.length) maxRows && Nat.ble ((n + ys.length) * bytes) maxBytes then
          some (.sc (bif Nat.blt N (n + ys.length) then .arr k (n + ys.length) else .vw k N 0 (n + ys.length)), [(k, some (.arr s (rows.take n ++ ys ++ rows.drop (n + ys.length)) p))])
        else none
      | _ => none
    | _ => match (match x with | .sc .nil => some [] | .sc (.full rows) => some rows | _ => none) with
      | none => none
      | some rows => match L oid with
        | some _ => none
        | none =>
          bif (rows.isEmpty || !ys.isEmpty) && rows.all (fun r => r.length == s) && Nat.ble (rows.length + ys.length) maxRows && Nat.ble ((rows.length + ys.length) * bytes) maxBytes then
            some (.sc (.arr oid (rows.length + ys.length)), [(oid, some (.arr s (rows.map (·.map W.c) ++ ys) 0))])
          else none
    else none

/-- copy(x, y). -/
def copy1 (L : Nat → Option Obj) (s : Nat) (x y : V) : Option (V × Upd) :=
  match rowsOf L y with
  | none => none
  | some ys => bif ys.all (fun r => r.length == s && r.all notUn) then
    match x with
    | .sc (.arr k n) => match L k with
      | some (.arr s' rows p) =>
        bif rows.length == n && s' == s && p == 0 then
          some (.sc (.c (.int .i64 (ys.take n).length)), bif (ys.take n).isEmpty then [] else [(k, some (.arr s (ys.take n ++ rows.drop (ys.take n).length) 0))])
        else none
      | _ => none
    | _ => none
    else none

def updO (L : Nat → Option Obj) (k : Nat) (x : Option Obj) : Nat → Option Obj := fun j => bif j == k then x else L j

def updL (L : Nat → Option Obj) : Upd → Nat → Option Obj
  | [] => L
  | (k, x) :: r => updL (updO L k x) r

/- ## Calls -/

def flatW : W → Bool
  | .c (.int ..) | .c (.bool _) | .c (.str _) => true
  | _ => false

def flatV : V → Bool
  | .sc w => flatW w
  | .ag cs => cs.all flatW
  | .tu l => l.all fun | .sc w => flatW w | .ag cs => cs.all flatW | .tu _ => false

def V.toD (L : Nat → Option Obj) : V → Option V
  | .sc w => (w.toC L deep).map fun x => .sc (.c x)
  | .ag cs => (listM (W.toC L deep) cs).map fun l => .ag (l.map W.c)
  | .tu _ => none

/-- What a result becomes: data, but nil stays nil in a struct's cells. -/
def W.toR (L : Nat → Option Obj) : W → Option W
  | .nil => some .nil
  | x => (x.toC L deep).map W.c

def V.toR (L : Nat → Option Obj) : V → Option V
  | .sc (.full rows) => some (.sc (.full rows))
  | .sc w => (w.toC L deep).map fun x => .sc (.c x)
  | .ag cs => (listM (W.toR L) cs).map .ag
  | .tu _ => none

def nubs : List Nat → List Nat
  | [] => []
  | k :: r => if k ∈ nubs r then nubs r else k :: nubs r

def growRefs (L : Nat → Option Obj) (ks : List Nat) : List Nat :=
  nubs (ks ++ ks.flatMap fun k => match L k with | some o => o.refs | none => [])

/-- On until nothing is new. -/
def reachN (L : Nat → Option Obj) : Nat → List Nat → List Nat
  | 0, ks => ks
  | n + 1, ks => bif (growRefs L ks).length == ks.length then ks else reachN L n (growRefs L ks)

def reach (L : Nat → Option Obj) (ks : List Nat) : List Nat :=
  match ks with
  | [] => []
  | _ => reachN L 40 (growRefs L (growRefs L (growRefs L (growRefs L ks))))

def indexIn : List Nat → Nat → Option Nat
  | [], _ => none
  | j :: r, k => bif j == k then some 0 else (indexIn r k).map (· + 1)

def sameKind : Obj → Obj → Bool
  | .box a, .box b => a.length == b.length
  | .arr s rows _, .arr s' rows' _ => s == s' && Nat.ble rows.length rows'.length
  | .mp _, .mp _ => true
  | _, _ => false

/-- The arguments of a call: as data, or as they are; with the arrays whose rows are handed over as data. -/
def argsOf (L : Nat → Option Obj) : List (Bool × V) → Option (List V × List Nat × List Nat)
  | [] => some ([], [], [])
  | (true, v) :: r => match v, argsOf L r with
    | .tu _, _ => none
    | _, none => none
    | v, some (vs, ds, rs) => some (v :: vs, ds, v.refs ++ rs)
  | (false, v) :: r => match v.toD L, argsOf L r with
    | some d, some (vs, ds, rs) => some (d :: vs, v.cells.flatMap (W.ids L deep) ++ ds, rs)
    | _, _ => none

def allSome {α : Type} : List (Option α) → Option (List α) := listM id

def updOf : List Nat → List Obj → Upd
  | k :: ks, o :: os => (k, some o) :: updOf ks os
  | _, _ => []

def newIds (oid : Nat) : Nat → Nat → List Nat
  | _, 0 => []
  | i, n + 1 => (oid + i) :: newIds oid (i + 1) n

/-- What a call can be made of: the function, and what it has captured. -/
def calleeOf : V → Option (FuncId × List (Bool × V))
  | .sc (.c (.fn f ones caps)) => some (f, (ones.zip caps).map fun (o, cs) => (false, match o, cs with | true, [x] => V.sc (.c x) | _, cs => V.ag (cs.map W.c)))
  | .sc (.clo f ones caps) => some (f, (ones.zip caps).map fun (o, cs) => (true, match o, cs with | true, [w] => V.sc w | _, cs => V.ag cs))
  | _ => none

def call1 (call : Oracle) (L : Nat → Option Obj) (oid : Nat) (f : V) (args : List (Bool × V)) : Option (V × Upd) :=
  match calleeOf f with
  | none => none
  | some (g, caps) => match argsOf L (args ++ caps) with
    | none => none
    | some (vs, ds, rs) =>
      let ids := reach L rs
      match listM L ids with
      | none => none
      | some os =>
        let ρ := indexIn ids
        bif ids.all (fun k => !ds.contains k) && (reach L ids).length == ids.length then
          match call g (vs.map (V.ren ρ)) (os.map (Obj.ren ρ)) with
          | none => none
          | some (rv, os') =>
            let m := ids.length
            let fresh := newIds oid 0 (os'.length - m)
            let σ : Nat → Option Nat := fun i => (ids ++ fresh)[i]?
            bif Nat.ble m os'.length && (os.zip os').all (fun x => sameKind x.1 x.2) && fresh.all (fun k => (L k).isNone) then
              let u := updOf (ids ++ fresh) (os'.map (Obj.ren σ))
              match ds with
              | [] => some (rv.ren σ, u)
              | _ => bif flatV rv && ids.isEmpty && fresh.isEmpty then some (rv, []) else
                match pubUpd L ds ds with
                | some p => some (rv.ren σ, p ++ u)
                | none => none
            else none
        else none

/-- nil arguments become arrays of the frame's own, where that is asked for. -/
def ownArgs (oid : Nat) (own : List (Nat × Nat)) : Nat → List (Bool × V) → List (Bool × V) × Upd
  | _, [] => ([], [])
  | j, (b, v) :: r =>
    let rest := ownArgs oid own (j + 1) r
    match v, get? own j with
    | .sc .nil, some s => ((true, .sc (.arr (oid + 1 + j) 0)) :: rest.1, (oid + 1 + j, some (.arr s [] 0)) :: rest.2)
    | _, _ => ((b, v) :: rest.1, rest.2)

/- ## One operation -/

/-- What a closure captures. -/
def capC : V → Option (Bool × List Cell)
  | .sc (.c x) => some (true, [x])
  | _ => none
def capW : V → Option (Bool × List W)
  | .tu _ => none
  | .sc w => some (true, [w])
  | .ag cs => some (false, cs)


def vals (C : Ctx) (E : Nat → Option V) (l : List (Bool × Opd)) : List (Bool × V) := l.map fun x => (x.1, x.2.val C E)

/-- A value made data, its arrays published. -/
def sealV (L : Nat → Option Obj) (v : V) : Option (V × Upd) := match v.toD L with
  | none => none
  | some d => (pubUpd L (nubs (v.cells.flatMap (W.ids L deep))) (nubs (v.cells.flatMap (W.ids L deep)))).map fun p => (d, p)

def load1 (L : Nat → Option Obj) (ag : Bool) (n : Nat) : V → Option V
  | .sc (.ptr k off) => match L k with
    | some (.box cells) => (cut cells off n).bind (asV ag)
    | _ => none
  | .sc (.el k N i off) => match L k with
    | some (.arr _ rows _) => bif rows.length == N then (rows[i]?).bind fun row => (cut row off n).bind (asV ag) else none
    | _ => none
  | .sc (.c (.ro row off)) => (cut row off n).bind fun cs => asV ag (cs.map W.c)
  | _ => none

/-- A row that is one byte. -/
def byteRow : List W → Option UInt8
  | [.c (.int .u8 n)] => bif decide (0 ≤ n) && decide (n < 256) then some (UInt8.ofNat n.toNat) else none
  | _ => none

/- Maps: keys are numbers of one kind, or strings. -/
def sameKey : Cell → Cell → Option Bool
  | .int k a, .int k' b => if k = k' then some (a == b) else none
  | .str a, .str b => some (a == b)
  | _, _ => none
/-- Is the key of that kind? -/
def keyIs : Option IntKind → Cell → Bool
  | some k, .int k' _ => decide (k' = k)
  | none, .str _ => true
  | _, _ => false
abbrev Ents := List (Cell × Bool × List Cell)
def findE (x : Cell) : Ents → Option (Option (Bool × List Cell))
  | [] => some none
  | e :: r => match sameKey x e.1 with
    | some true => some (some e.2)
    | some false => findE x r
    | none => none
def setE (x : Cell) (y : Bool × List Cell) : Ents → Option Ents
  | [] => some [(x, y)]
  | e :: r => match sameKey x e.1 with
    | some true => some ((x, y) :: r)
    | some false => (setE x y r).map (e :: ·)
    | none => none
def oneV : Bool → List Cell → Option V
  | true, [x] => some (.sc (.c x))
  | true, _ => none
  | false, cs => some (.ag (cs.map W.c))
/-- A value that is data: whether it is one cell, and its cells. -/
def dataV : V → Option (Bool × List Cell)
  | .sc (.c x) => some (true, [x])
  | .sc _ => none
  | .ag cs => (listM (fun w => match w with | W.c x => some x | _ => none) cs).map fun l => (false, l)
  | .tu _ => none

def exec1 (C : Ctx) (E : Nat → Option V) (L : Nat → Option Obj) (oid : Nat) : VOp → Option (V × Upd)
  | .mv x => some (x.val C E, [])
  | .pick c a b => match c.val C E with
    | .sc (.c (.bool t)) => some (bif t then a.val C E else b.val C E, [])
    | _ => none
  | .bin op tag x y => match x.val C E, y.val C E with
    | .sc a, .sc b => (binW op tag a b).map fun r => (.sc (.c r), [])
    | _, _ => none
  | .un op x => match x.val C E with
    | .sc a => (unW op a).map fun r => (.sc (.c r), [])
    | _ => none
  | .new cells own => match L oid with
    | some _ => none
    | none => let x := ownW oid own 0 cells
      bif x.2.all (fun u => (L u.1).isNone) then some (.sc (.ptr oid 0), x.2 ++ [(oid, some (.box x.1))]) else none
  | .box x => match L oid, x.val C E with
    | none, .sc w => bif notUn w then some (.sc (.ptr oid 0), [(oid, some (.box [w]))]) else none
    | none, .ag cs => bif cs.all notUn then some (.sc (.ptr oid 0), [(oid, some (.box cs))]) else none
    | _, _ => none
  | .build zero parts => match listM (fun (x : Nat × Nat × Opd) => match x.2.2.val C E with
        | .tu _ => none
        | v => bif v.cells.length == x.2.1 && v.cells.all notUn then some (x.1, v.cells) else none) parts with
    | none => none
    | some ps => (fillW zero ps).map fun cs => (.ag cs, [])
  | .mkSl s parts => match L oid with
    | some _ => none
    | none => match listM (fun (x : Opd) => match x.val C E with
        | .tu _ => none
        | v => bif v.cells.length == s && v.cells.all notUn then some v.cells else none) parts with
      | none => none
      | some rows => some (.sc (.arr oid rows.length), [(oid, some (.arr s rows 0))])
  | .load ag n a => match a.val C E with
    | .sc (.ptr k off) => match L k with
      | some (.box cells) => match cut cells off n with
        | some cs => (asV ag cs).map fun v => (v, [])
        | none => none
      | _ => none
    | .sc (.el k N i off) => match L k with
      | some (.arr _ rows _) => bif rows.length == N then match rows[i]? with
        | some row => match cut row off n with
          | some cs => (asV ag cs).map fun v => (v, [])
          | none => none
        | none => none
        else none
      | _ => none
    | .sc (.c (.ro row off)) => match cut row off n with
      | some cs => (asV ag (cs.map W.c)).map fun v => (v, [])
      | none => none
    | _ => none
  | .store n a x own => match x.val C E with
    | .tu _ => none
    | v => let y := ownW oid own 0 v.cells
      bif v.cells.length == n && v.cells.all notUn && y.2.all (fun u => (L u.1).isNone) then match a.val C E with
      | .sc (.ptr k off) => match L k with
        | some (.box cells) => (splice cells off y.1).map fun cs => (.sc .un, y.2 ++ [(k, some (.box cs))])
        | _ => none
      | .sc (.el k N i off) => match L k with
        | some (.arr s rows p) => bif rows.length == N && Nat.ble p i then match rows[i]? with
          | some row => (splice row off y.1).map fun cs => (.sc .un, y.2 ++ [(k, some (.arr s (setRow rows i cs) p))])
          | none => none
          else none
        | _ => none
      | _ => none
      else none
  | .fld off a => onBy L off (a.val C E)
  | .part ag off n x => match x.val C E with
    | .ag cs => match cut cs off n with
      | some cs => (asV ag cs).map fun v => (v, [])
      | none => none
    | _ => none
  | .idxA s x i => match x.val C E with
    | .sc (.c (.sl rows)) => match natBelow (i.val C E) rows.length with
      | some j => match rows[j]? with
        | some row => bif row.length == s then some (.sc (.c (.ro row 0)), []) else none
        | none => none
      | none => none
    | .sc (.full rows) => match natBelow (i.val C E) rows.length with
      | some j => match rows[j]? with
        | some row => bif row.length == s then some (.sc (.c (.ro row 0)), []) else none
        | none => none
      | none => none
    | .sc (.arr k n) => match L k with
      | some (.arr s' rows _) => bif rows.length == n && s' == s then
          (natBelow (i.val C E) n).map fun j => (.sc (.el k n j 0), [])
        else none
      | _ => none
    | .sc (.vw k N lo n) => match L k with
      | some (.arr s' rows _) => bif rows.length == N && Nat.ble (lo + n) N && s' == s then
          (natBelow (i.val C E) n).map fun j => (.sc (.el k N (lo + j) 0), [])
        else none
      | _ => none
    | _ => none
  | .idxAA s len x i => match natBelow (i.val C E) len with
    | none => none
    | some j => onBy L (j * s) (x.val C E)
  | .idxS x i => match x.val C E with
    | .sc (.c (.str s)) => match natBelow (i.val C E) s.length with
      | some j => (s[j]?).map fun b => (.sc (.c (.int .u8 b.toNat)), [])
      | none => none
    | _ => none
  | .slS x lo hi => match x.val C E with
    | .sc (.c (.str s)) => match boundOr (hi.map (·.val C E)) s.length s.length with
      | none => none
      | some h => (boundOr (lo.map (·.val C E)) 0 h).map fun l => (.sc (.c (.str ((s.take h).drop l))), [])
    | _ => none
  | .sl s x lo hi mx => slice1 L s (x.val C E) (lo.map (·.val C E)) (hi.map (·.val C E)) (mx.map (·.val C E))
  | .len str x => bif isStr (x.val C E) == str then (lenV L (x.val C E)).map fun n => (.sc (.c (.int .i64 n)), []) else none
  | .mx x y => match x.val C E, y.val C E with
    | .sc (.c (.int k a)), .sc (.c (.int _ b)) => some (.sc (.c (.int k (if b > a then b else a))), [])
    | _, _ => none
  | .mn x y => match x.val C E, y.val C E with
    | .sc (.c (.int k a)), .sc (.c (.int _ b)) => some (.sc (.c (.int k (if b < a then b else a))), [])
    | _, _ => none
  | .app s bytes mk x y => append1 L oid s bytes mk (x.val C E) (y.val C E)
  | .mkS s bytes zero n => match L oid, intOf (n.val C E) with
    | none, some (.ofNat m) => bif Nat.ble (m * bytes) maxBytes && zero.length == s && Nat.blt 0 s && Nat.ble m maxRows then
        some (.sc (.arr oid m), [(oid, some (.arr s (List.replicate m zero) 0))]) else none
    | _, _ => none
  | .fn f caps => match listM capC (caps.map (·.val C E)) with
    | some l => some (.sc (.c (.fn f (l.map (·.1)) (l.map (·.2)))), [])
    | none => match listM capW (caps.map (·.val C E)) with
      | some l => some (.sc (.clo f (l.map (·.1)) (l.map (·.2))), [])
      | none => none
  | .call f args own =>
    let q := ownArgs oid own 0 (vals C E args)
    bif q.2.all (fun u => (L u.1).isNone) then match call1 C.call (updL L q.2) (oid + 32) (f.val C E) q.1 with
      | none => none
      | some (v, u) => some (v, q.2 ++ u)
    else none
  | .ext i x => match x.val C E with
    | .tu l => (l[i]?).map fun v => (v, [])
    | _ => none
  | .cvI k x => match x.val C E with
    | .sc (.c (.int _ n)) => some (.sc (.c (wrapI k n)), [])
    | _ => none
  | .ifc t x => match x.val C E with
    | .sc (.c y) => some (.sc (.c (.ifc t true [y])), [])
    | .sc w => bif notUn w then some (.sc (.ifw t true [w]), []) else none
    | .ag cs => match listM (fun w => match w with | .c y => some y | _ => none) cs with
      | some l => some (.sc (.c (.ifc t false l)), [])
      | none => some (.sc (.ifw t false cs), [])
    | .tu _ => none
  | .nn x => match x.val C E with
    | .sc (.ptr k o) => some (.sc (.ptr k o), [])
    | .sc (.c (.ro r o)) => some (.sc (.c (.ro r o)), [])
    | .sc (.el k N i o) => bif elOk L k N i then some (.sc (.el k N i o), []) else none
    | _ => none
  | .cp s x y => copy1 L s (x.val C E) (y.val C E)
  | .cvB x => match x.val C E with
    | .sc (.c (.str s)) => bif Nat.ble s.length maxRows then some (.sc (.c (.sl (s.map fun b => [.int .u8 b.toNat]))), []) else none
    | _ => none
  | .appN s bytes y => match rowsOf L (y.val C E) with
    | some [] => some (.sc .nil, [])
    | _ => append1 L oid s bytes true (.sc .nil) (y.val C E)
  | .mkE => some (.sc (.full []), [])
  | .mkM => some (.sc (.c .mp), [])
  | .appF s bytes x y => match x.val C E with
    | .sc (.full rows) => (match rowsOf L (y.val C E) with
      | some [] => some (.sc (.full rows), [])
      | _ => append1 L oid s bytes true (.sc (.full rows)) (y.val C E))
    | _ => none
  | .ldD ag n a => (load1 L ag n (a.val C E)).bind (sealV L)
  | .mvD x => sealV L (x.val C E)
  | .bldD zero parts => match listM (fun (x : Nat × Nat × Opd) => match x.2.2.val C E with
        | .tu _ => none
        | v => bif v.cells.length == x.2.1 && v.cells.all notUn then some (x.1, v.cells) else none) parts with
    | none => none
    | some ps => (fillW zero ps).bind fun cs => sealV L (.ag cs)
  | .clr s zero x => match x.val C E with
    | .sc (.vw k N lo n) => match L k with
      | some (.arr s' rows p) => bif rows.length == N && s' == s && zero.length == s && zero.all notUn && Nat.ble (lo + n) N && Nat.ble p lo && Nat.blt 0 n then
          some (.sc .un, [(k, some (.arr s (rows.take lo ++ List.replicate n zero ++ rows.drop (lo + n)) p))]) else none
      | _ => none
    | _ => none
  | .newA n zero => match L oid with
    | some _ => none
    | none => bif Nat.ble n maxRows then some (.sc (.el oid n 0 0), [(oid, some (.arr zero.length (List.replicate n zero) 0))]) else none
  | .slA s n x lo hi => match x.val C E with
    | .sc (.el k N i off) => match L k with
      | some (.arr s' rows _) => match boundOr (hi.map (·.val C E)) n n with
        | none => none
        | some h => match boundOr (lo.map (·.val C E)) 0 h with
          | none => none
          | some l => bif N == n && i == 0 && off == 0 && rows.length == N && s' == s && Nat.blt 0 N then some (.sc (.vw k N l (h - l)), []) else none
      | _ => none
    | _ => none
  | .cvS x => match rowsOf L (x.val C E) with
    | none => none
    | some rows => bif rows.isEmpty then none else (listM byteRow rows).map fun l => (.sc (.c (.str l)), [])
  | .newM => match L oid with
    | some _ => none
    | none => some (.sc (.mr oid), [(oid, some (.mp []))])
  | .lkM kd zero one ok m x => match m.val C E, x.val C E with
    | .sc (.mr k), .sc (.c x) => match L k with
      | some (.mp es) => match (bif keyIs kd x then findE x es else none) with
        | none => none
        | some r => (oneV (r.getD (one, zero)).1 (r.getD (one, zero)).2).map fun v => (bif ok then .tu [v, .sc (.c (.bool r.isSome))] else v, [])
      | _ => none
    | _, _ => none
  | .upM kd m x y => match m.val C E, x.val C E, dataV (y.val C E) with
    | .sc (.mr k), .sc (.c x), some y => match L k with
      | some (.mp es) => (bif keyIs kd x then setE x y es else none).map fun es => (.sc .un, [(k, some (.mp es))])
      | _ => none
    | _, _, _ => none
  | .boxD x => (dataV (x.val C E)).map fun r => (.sc (.c (.ro r.2 0)), [])
  | .bad => none

/-- The value with its nil cells made arrays, where that is asked for. -/
def ownV (oid : Nat) (own : List (Nat × Nat)) (L : Nat → Option Obj) (r : V × Upd) : Option (V × Upd) :=
  match own with
  | [] => some r
  | _ => match r.1 with
    | .sc w => let x := ownW oid own 0 [w]; bif x.2.all (fun u => (L u.1).isNone) then x.1.head?.map fun w => (.sc w, r.2 ++ x.2) else none
    | .ag cs => let x := ownW oid own 0 cs; bif x.2.all (fun u => (L u.1).isNone) then some (.ag x.1, r.2 ++ x.2) else none
    | .tu _ => none

/-- One operation with its guard: the value for its slot, and what becomes of the objects. -/
def runO (C : Ctx) (o : VOper) (E : Nat → Option V) (L : Nat → Option Obj) : Option (V × Upd) :=
  match o.guard with
  | none => match exec1 C E L o.oid o.op with
    | none => none
    | some r => ownV o.oid o.own L r
  | some (t, want) => match E t with
    | some (.sc (.c (.bool b))) => bif b == want then
        match exec1 C E L o.oid o.op with
        | none => none
        | some r => ownV o.oid o.own L r
      else some (.sc .sk, [])
    | some (.sc .sk) => some (.sc .sk, [])
    | _ => none

def execO (C : Ctx) (o : VOper) (s : St) : Option St :=
  match runO C o (get? s.env) (look s.objs) with
  | none => none
  | some (v, u) => some ⟨match o.dst with | some d => put s.env d v | none => s.env, putAll s.objs u⟩

def execL (C : Ctx) : List VOper → St → Option St
  | [], s => some s
  | o :: r, s => match execO C o s with
    | none => none
    | some s => execL C r s

/- ## What an operation looks at, where the order is open -/

def V.direct : V → List Nat
  | .sc (.arr k _) | .sc (.vw k _ _ _) | .sc (.ptr k _) | .sc (.el k _ _ _) | .sc (.mr k) => [k]
  | _ => []

/-- Does the operation look at no object and change none? -/
def plainOp : VOp → Bool
  | .mv _ | .pick .. | .bin .. | .un .. | .build .. | .part .. | .idxS .. | .slS .. | .mx .. | .mn .. | .fn .. | .ext .. | .cvI .. | .ifc .. | .mkE | .mkM => true
  | _ => false

/-- The objects behind what is handed over as data. -/
def dataIds (L : Nat → Option Obj) : List (Bool × V) → List Nat
  | [] => []
  | (true, _) :: r => dataIds L r
  | (false, v) :: r => v.cells.flatMap (W.ids L deep) ++ dataIds L r

/-- (all objects may matter, the objects that are looked at) -/
def recO (C : Ctx) (E : Nat → Option V) (L : Nat → Option Obj) (o : VOper) (u : Upd) : Bool × List Nat :=
  match o.own with
  | _ :: _ => (true, [])
  | [] => match o.op with
    | .load _ _ a => (false, (a.val C E).direct)
    | .fld _ a => (false, (a.val C E).direct)
    | .nn a => (false, (a.val C E).direct)
    | .ldD _ _ a => (false, (a.val C E).direct ++ u.map (·.1))
    | .mvD _ => (false, u.map (·.1))
    | .bldD _ _ => (false, u.map (·.1))
    | .cvB _ => (false, [])
    | .boxD _ => (false, [])
    | .store _ a _ _ => (false, (a.val C E).direct ++ u.map (·.1))
    | .idxA _ x _ => (false, (x.val C E).direct)
    | .idxAA _ _ x _ => (false, (x.val C E).direct)
    | .len _ x => (false, (x.val C E).direct)
    | .sl _ x _ _ _ => (false, (x.val C E).direct)
    | .clr _ _ x => (false, (x.val C E).direct)
    | .newA _ _ => (false, [o.oid])
    | .slA _ _ x _ _ => (false, (x.val C E).direct)
    | .cvS x => (false, (x.val C E).direct)
    | .newM => (false, [o.oid])
    | .lkM _ _ _ _ m _ => (false, (m.val C E).direct)
    | .upM _ m _ _ => (false, (m.val C E).direct ++ u.map (·.1))
    | .new _ [] => (false, [o.oid])
    | .box _ => (false, [o.oid])
    | .mkSl _ _ => (false, [o.oid])
    | .mkS .. => (false, [o.oid])
    | .app _ _ _ x y => (false, o.oid :: (x.val C E).direct ++ (y.val C E).direct)
    | .cp _ x y => (false, (x.val C E).direct ++ (y.val C E).direct)
    | .appN _ _ y => (false, o.oid :: (y.val C E).direct)
    | .appF _ _ _ y => (false, o.oid :: (y.val C E).direct)
    | .call f args [] => match calleeOf (f.val C E) with
      | some (_, caps) => (false, dataIds L (vals C E args ++ caps) ++ u.map (·.1))
      | none => (true, [])
    | op => bif plainOp op then (false, []) else (true, [])

structure Rec where
  all : Bool
  reads : List Nat
  keys : List Nat
  deriving Inhabited

def Rec.touch (r : Rec) : Bool := r.all || !r.reads.isEmpty || !r.keys.isEmpty

def apart (a b : List Nat) : Bool := a.all fun k => !b.contains k

def indep (a b : Rec) : Bool := !a.touch || !b.touch || (!a.all && !b.all && apart a.reads b.keys && apart b.reads a.keys && apart a.keys b.keys)

def execR (C : Ctx) : List VOper → St → Option (List Rec × St)
  | [], s => some ([], s)
  | o :: r, s => match runO C o (get? s.env) (look s.objs) with
    | none => none
    | some (v, u) =>
      let q := recO C (get? s.env) (look s.objs) o u
      match execR C r ⟨match o.dst with | some d => put s.env d v | none => s.env, putAll s.objs u⟩ with
      | none => none
      | some (rs, s') => some (⟨q.1, q.2, u.map (·.1)⟩ :: rs, s')

def chkOk (recs : List Rec) (chk : List (Nat × Nat)) : Bool :=
  chk.all fun (i, j) => match recs[i]?, recs[j]? with | some a, some b => indep a b | _, _ => false

end Go.Vs

/- The value semantics, 3: what a frame's values and objects stand for in the model's memory, and what keeps that. -/
namespace Go.Vs
open Go

/-- A cell of a block. -/
def at? (w : World) (b i : Nat) : Option Value := w.cell? ⟨b, i, none⟩

/-- Cells as one value: the cell itself, or a struct or array of them. -/
def packs : Bool → List Value → Value → Prop
  | true, vs, v => vs = [v]
  | false, vs, v => v = .agg vs.toArray

mutual
/-- The value is this data; of block b the first 'ω b' cells are never written again. -/
def RD (w : World) (ω : Nat → Nat) : Cell → Value → Prop
  | .int k n, v => v = .int k n
  | .bool b, v => v = .bool b
  | .str s, v => ∃ a : ByteArray, v = .string a ∧ a.data.toList = s
  | .sl rows, v => ∃ base cap, v = .slice base rows.length cap ∧ rows.length ≤ cap ∧ cap ≤ maxRows ∧
      (rows = [] ∨ ∃ b o s, base = some ⟨b, o, none⟩ ∧ 0 < s ∧ RDrows w ω b s o rows)
  | .fn f ones caps, v => ∃ cs : Array Value, v = .func (.func f) #[] cs ∧ RDcaps w ω ones caps cs.toList
  | .nilfn, v => v = .nilFunc
  | .nilptr, v => v = .pointer none
  | .nilif, v => v = .nilIface
  | .ifc t one row, v => ∃ x vs, v = .iface t x ∧ RDlist w ω row vs ∧ packs one vs x
  | .ro row off, v => ∃ b o, v = .pointer (some ⟨b, o + off, none⟩) ∧ RDcells w ω b o row
  | .mp, v => ∃ r, v = .map r
def RDrows (w : World) (ω : Nat → Nat) (b s : Nat) : Nat → List (List Cell) → Prop
  | _, [] => True
  | o, r :: rs => r.length = s ∧ RDcells w ω b o r ∧ RDrows w ω b s (o + s) rs
def RDcells (w : World) (ω : Nat → Nat) (b : Nat) : Nat → List Cell → Prop
  | _, [] => True
  | o, c :: cs => (o < ω b ∧ ∃ v, at? w b o = some v ∧ RD w ω c v) ∧ RDcells w ω b (o + 1) cs
def RDcaps (w : World) (ω : Nat → Nat) : List Bool → List (List Cell) → List Value → Prop
  | [], [], [] => True
  | o :: os, r :: rs, v :: vs => (∃ xs, RDlist w ω r xs ∧ packs o xs v) ∧ RDcaps w ω os rs vs
  | _, _, _ => False
def RDlist (w : World) (ω : Nat → Nat) : List Cell → List Value → Prop
  | [], [] => True
  | c :: cs, v :: vs => RD w ω c v ∧ RDlist w ω cs vs
  | _, _ => False
end

/-- What is published stays, as far as it is published. -/
structure Grows (w : World) (ω : Nat → Nat) (w' : World) (ω' : Nat → Nat) : Prop where
  pub : ∀ b i, i < ω b → ∀ v, at? w b i = some v → at? w' b i = some v ∧ i < ω' b

theorem Grows.refl (w : World) (ω : Nat → Nat) : Grows w ω w ω := ⟨fun _ _ h _ hv => ⟨hv, h⟩⟩
theorem Grows.trans {w w' w'' : World} {ω ω' ω'' : Nat → Nat} (h : Grows w ω w' ω') (h' : Grows w' ω' w'' ω'') : Grows w ω w'' ω'' :=
  ⟨fun b i hi v hv => let ⟨h1, h2⟩ := h.pub b i hi v hv; h'.pub b i h2 v h1⟩

section
variable {w w' : World} {ω ω' : Nat → Nat}

mutual
theorem RD.grow (g : Grows w ω w' ω') : ∀ (c : Cell) {v : Value}, RD w ω c v → RD w' ω' c v
  | .int .., _, h => by simpa only [RD] using h
  | .bool _, _, h => by simpa only [RD] using h
  | .str _, _, h => by simpa only [RD] using h
  | .nilfn, _, h => by simpa only [RD] using h
  | .nilptr, _, h => by simpa only [RD] using h
  | .nilif, _, h => by simpa only [RD] using h
  | .mp, _, h => by simpa only [RD] using h
  | .sl rows, v, h => by
    simp only [RD] at h ⊢
    obtain ⟨base, cap, h1, h2, h3, h4⟩ := h
    refine ⟨base, cap, h1, h2, h3, ?_⟩
    rcases h4 with h4 | ⟨b, o, s, h5, h6, h7⟩
    grind
    · exact .inr ⟨b, o, s, h5, h6, RDrows.grow g rows h7⟩
  | .fn f ones caps, v, h => by
    simp only [RD] at h ⊢
    obtain ⟨cs, h1, h2⟩ := h
    exact ⟨cs, h1, RDcaps.grow g caps h2⟩
  | .ifc t one row, v, h => by
    simp only [RD] at h ⊢
    obtain ⟨x, vs, h1, h2, h3⟩ := h
    exact ⟨x, vs, h1, RDlist.grow g row h2, h3⟩
  | .ro row off, v, h => by
    simp only [RD] at h ⊢
    obtain ⟨b, o, h1, h2⟩ := h
    exact ⟨b, o, h1, RDcells.grow g row h2⟩
theorem RDrows.grow (g : Grows w ω w' ω') : ∀ (rows : List (List Cell)) {b s o : Nat}, RDrows w ω b s o rows → RDrows w' ω' b s o rows
  | [], _, _, _, _ => by simp [RDrows]
  | r :: rs, b, s, o, h => by
    simp only [RDrows] at h ⊢
    exact ⟨h.1, RDcells.grow g r h.2.1, RDrows.grow g rs h.2.2⟩
theorem RDcells.grow (g : Grows w ω w' ω') : ∀ (cs : List Cell) {b o : Nat}, RDcells w ω b o cs → RDcells w' ω' b o cs
  | [], _, _, _ => by simp [RDcells]
  | c :: cs, b, o, h => by
    simp only [RDcells] at h ⊢
    obtain ⟨⟨h1, v, h2, h3⟩, h4⟩ := h
    have := g.pub b o h1 v h2
    exact ⟨⟨this.2, v, this.1, RD.grow g c h3⟩, RDcells.grow g cs h4⟩
theorem RDcaps.grow (g : Grows w ω w' ω') : ∀ (caps : List (List Cell)) {ones : List Bool} {vs : List Value}, RDcaps w ω ones caps vs → RDcaps w' ω' ones caps vs
  | [], ones, vs, h => by grind [RDcaps]
  | r :: rs, ones, vs, h => by
    cases ones with
    | nil => simp [RDcaps] at h
    | cons o os => cases vs with
      | nil => simp [RDcaps] at h
      | cons v vs =>
        simp only [RDcaps] at h ⊢
        obtain ⟨⟨xs, h1, h2⟩, h3⟩ := h
        exact ⟨⟨xs, RDlist.grow g r h1, h2⟩, RDcaps.grow g rs h3⟩
theorem RDlist.grow (g : Grows w ω w' ω') : ∀ (cs : List Cell) {vs : List Value}, RDlist w ω cs vs → RDlist w' ω' cs vs
  | [], vs, h => by grind [RDlist]
  | c :: cs, vs, h => by
    cases vs with
    | nil => simp [RDlist] at h
    | cons v vs =>
      simp only [RDlist] at h ⊢
      exact ⟨RD.grow g c h.1, RDlist.grow g cs h.2⟩
end
end

/- ## A frame's values and objects -/

/-- The slice value of the whole array k. -/
def ArrV (w : World) (β : Nat → Option Nat) (k s n : Nat) (v : Value) : Prop :=
  (∃ b cap cur t, β k = some b ∧ v = .slice (some ⟨b, 0, none⟩) n cap ∧ w.heap[b]? = some (.cells cur t (0, 0)) ∧ cur.size = cap * s) ∨
  (β k = none ∧ n = 0 ∧ ∃ base, v = .slice base 0 0)

def VwV (w : World) (β : Nat → Option Nat) (k s N lo n : Nat) (v : Value) : Prop :=
  (n = 0 ∧ (lo = 0 → β k = none ∧ ∃ base, v = .slice base 0 0) ∧ ∃ base cap, v = .slice base 0 cap ∧ cap ≤ maxRows) ∨
  (∃ b cap cur t, β k = some b ∧ v = .slice (some ⟨b, lo * s, none⟩) n cap ∧ n ≤ cap ∧ cap ≤ maxRows ∧ w.heap[b]? = some (.cells cur t (0, 0)) ∧ (lo + cap) * s ≤ cur.size ∧ (lo = 0 → cap * s = cur.size ∨ cap = N))

def isSlice (v : Value) : Prop := ∃ base n cap, v = .slice base n cap
def isPtr (v : Value) : Prop := ∃ p, v = .pointer p

mutual
def RW (w : World) (ω : Nat → Nat) (β : Nat → Option Nat) (L : Nat → Option Obj) : W → Value → Prop
  | .c x, v => RD w ω x v
  | .nil, v => v = .slice none 0 0
  | .full rows, v => RD w ω (.sl rows) v ∧ ∃ base n, v = .slice base n n
  | .arr k n, v => ∃ s rows p, L k = some (.arr s rows p) ∧ n ≤ rows.length ∧ isSlice v ∧ (n = rows.length → ArrV w β k s n v)
  | .vw k N lo n, v => ∃ s rows p, L k = some (.arr s rows p) ∧ N ≤ rows.length ∧ isSlice v ∧ (N = rows.length → lo + n ≤ N → VwV w β k s N lo n v)
  | .ptr k off, v => ∃ cells b, L k = some (.box cells) ∧ β k = some b ∧ v = .pointer (some ⟨b, off, none⟩)
  | .el k N i off, v => ∃ s rows p, L k = some (.arr s rows p) ∧ N ≤ rows.length ∧ isPtr v ∧
      (N = rows.length → i < N → ∃ b, β k = some b ∧ v = .pointer (some ⟨b, i * s + off, none⟩))
  | .clo f ones caps, v => ∃ cs : Array Value, v = .func (.func f) #[] cs ∧ RWcaps w ω β L ones caps cs.toList
  | .ifw t one row, v => ∃ x vs, v = .iface t x ∧ RWlist w ω β L row vs ∧ packs one vs x
  | .e0 b, v => ∃ a cap, v = .slice a 0 cap ∧ cap ≤ maxRows ∧ a.isNone = b
  | .sk, v => v = undef
  | .un, _ => True
  | .mr k, v => ∃ es b, L k = some (.mp es) ∧ β k = some b ∧ v = .map (some b)
def RWcaps (w : World) (ω : Nat → Nat) (β : Nat → Option Nat) (L : Nat → Option Obj) : List Bool → List (List W) → List Value → Prop
  | [], [], [] => True
  | o :: os, r :: rs, v :: vs => (∃ xs, RWlist w ω β L r xs ∧ packs o xs v) ∧ RWcaps w ω β L os rs vs
  | _, _, _ => False
def RWlist (w : World) (ω : Nat → Nat) (β : Nat → Option Nat) (L : Nat → Option Obj) : List W → List Value → Prop
  | [], [] => True
  | x :: xs, v :: vs => RW w ω β L x v ∧ RWlist w ω β L xs vs
  | _, _ => False
end

def RV1 (w : World) (ω : Nat → Nat) (β : Nat → Option Nat) (L : Nat → Option Obj) : V → Value → Prop
  | .sc x, v => RW w ω β L x v
  | .ag cs, v => ∃ a : Array Value, v = .agg a ∧ RWlist w ω β L cs a.toList
  | .tu _, _ => False

def RVs (w : World) (ω : Nat → Nat) (β : Nat → Option Nat) (L : Nat → Option Obj) : List V → List Value → Prop
  | [], [] => True
  | x :: xs, v :: vs => RV1 w ω β L x v ∧ RVs w ω β L xs vs
  | _, _ => False

def RV (w : World) (ω : Nat → Nat) (β : Nat → Option Nat) (L : Nat → Option Obj) : V → Value → Prop
  | .tu l, v => ∃ a : Array Value, v = .tuple a ∧ RVs w ω β L l a.toList
  | x, v => RV1 w ω β L x v

/-- The entries of a map. -/
def EntsOk (w : World) (ω : Nat → Nat) : Ents → List MapEntry → Prop
  | [], [] => True
  | (x, one, row) :: r, e :: es => (RD w ω x e.key ∧ ∃ vs, RDlist w ω row vs ∧ packs one vs e.val) ∧ EntsOk w ω r es
  | _, _ => False
theorem EntsOk.grow {w w' : World} {ω ω' : Nat → Nat} (g : Grows w ω w' ω') : ∀ {l : Ents} {es : List MapEntry}, EntsOk w ω l es → EntsOk w' ω' l es
  | [], [], h => h
  | [], _ :: _, h => h.elim
  | _ :: _, [], h => h.elim
  | (x, one, row) :: r, e :: es, h => by
    obtain ⟨⟨h1, vs, h2, h3⟩, h4⟩ := h
    exact ⟨⟨RD.grow g x h1, vs, RDlist.grow g row h2, h3⟩, EntsOk.grow g h4⟩

def ObjOk (w : World) (ω : Nat → Nat) (β : Nat → Option Nat) (L : Nat → Option Obj) (k : Nat) : Obj → Prop
  | .box cells => ∃ b cs t, β k = some b ∧ w.heap[b]? = some (.cells cs t (0, 0)) ∧ RWlist w ω β L cells cs.toList ∧ ω b = 0
  | .arr s rows p => 0 < s ∧ (∀ r ∈ rows, r.length = s) ∧ p ≤ rows.length ∧
      ((∃ b cap cur t, β k = some b ∧ w.heap[b]? = some (.cells cur t (0, 0)) ∧ cur.size = cap * s ∧ rows.length ≤ cap ∧ cap ≤ maxRows ∧
          RWlist w ω β L rows.flatten (cur.toList.take (rows.length * s)) ∧ ω b = p * s) ∨
       (β k = none ∧ rows = []))
  | .mp es => ∃ b arr clock, β k = some b ∧ w.heap[b]? = some (.map arr clock) ∧ EntsOk w ω es arr.toList ∧ ω b = 0

/-- What a frame has not been handed stays as it was. -/
structure Keeps (w : World) (ω : Nat → Nat) (S : Nat → Prop) (w' : World) (ω' : Nat → Nat) : Prop where
  grows : Grows w ω w' ω'
  size : w.heap.size ≤ w'.heap.size
  same : ∀ b, b < w.heap.size → ¬ S b → w'.heap[b]? = w.heap[b]? ∧ ω' b = ω b
  os : w'.os = w.os
  tape : w'.tape = w.tape
  output : w'.output = w.output

theorem Keeps.refl (w : World) (ω : Nat → Nat) (S : Nat → Prop) : Keeps w ω S w ω :=
  ⟨Grows.refl w ω, Nat.le_refl _, fun _ _ _ => ⟨rfl, rfl⟩, rfl, rfl, rfl⟩

theorem Keeps.step {w w' w'' : World} {ω ω' ω'' : Nat → Nat} {S : Nat → Prop} (h : Keeps w ω S w' ω') (g : Grows w' ω' w'' ω'') (hs : w'.heap.size ≤ w''.heap.size)
    (hb : ∀ b, b < w.heap.size → ¬ S b → w''.heap[b]? = w'.heap[b]? ∧ ω'' b = ω' b) (hos : w''.os = w'.os) (htp : w''.tape = w'.tape) (hout : w''.output = w'.output) : Keeps w ω S w'' ω'' :=
  ⟨h.grows.trans g, Nat.le_trans h.size hs, fun b hb' hs' =>
    let ⟨h1, h2⟩ := h.same b hb' hs'
    let ⟨h3, h4⟩ := hb b hb' hs'
    ⟨h3.trans h1, h4.trans h2⟩, hos.trans h.os, htp.trans h.tape, hout.trans h.output⟩

theorem Keeps.trans {w w' w'' : World} {ω ω' ω'' : Nat → Nat} {S : Nat → Prop} (h : Keeps w ω S w' ω') (h' : Keeps w' ω' S w'' ω'') : Keeps w ω S w'' ω'' :=
  ⟨h.grows.trans h'.grows, Nat.le_trans h.size h'.size, fun b hb hs =>
    let ⟨h1, h2⟩ := h.same b hb hs
    let ⟨h3, h4⟩ := h'.same b (Nat.lt_of_lt_of_le hb h.size) hs
    ⟨h3.trans h1, h4.trans h2⟩, h'.os.trans h.os, h'.tape.trans h.tape, h'.output.trans h.output⟩

/-- What may become of an object that values refer to. -/
def Tr (w : World) (β : Nat → Option Nat) (w' : World) (β' : Nat → Option Nat) (L L' : Nat → Option Obj) (k : Nat) : Prop :=
  match L k with
  | none => True
  | some (.box cs) => (∃ cs', L' k = some (.box cs') ∧ cs'.length = cs.length) ∧ β' k = β k
  | some (.arr s rows _) => ∃ rows' p', L' k = some (.arr s rows' p') ∧ rows.length ≤ rows'.length ∧
      (rows.length = rows'.length → β' k = β k ∧ ∀ b cur t, β k = some b → w.heap[b]? = some (.cells cur t (0, 0)) → ∃ cur', w'.heap[b]? = some (.cells cur' t (0, 0)) ∧ cur'.size = cur.size)
  | some (.mp _) => (∃ es', L' k = some (.mp es')) ∧ β' k = β k

/-- What a frame owes beyond its values: the blocks it may write, and what it keeps of the objects that it was handed. -/
structure Fr where
  lo : Nat
  fd : Option (List Deferred)
  S : Nat → Prop
  kept : Nat → Prop
  J : World → (Nat → Option Nat) → (Nat → Option Obj) → Prop
  closed : ∀ w β L w' β' L', J w β L → (∀ k, kept k → Tr w β w' β' L L' k) → J w' β' L'

/-- Marks of loops over functions: their blocks are there, each mark once. -/
def Marks (lo : Nat) (w : World) : List Deferred → Prop
  | [] => True
  | d :: ds => (∃ D, d = { target := .collected D, args := #[] } ∧ lo ≤ D ∧ w.heap[D]? = some (.deferred (some [])) ∧ ∀ D', ({ target := .collected D', args := #[] } : Deferred) ∈ ds → D' ≠ D) ∧ Marks lo w ds

theorem Marks.step {lo : Nat} {w w' : World} : ∀ {ds : List Deferred}, Marks lo w ds → (∀ D, ({ target := .collected D, args := #[] } : Deferred) ∈ ds → w.heap[D]? = some (.deferred (some [])) → w'.heap[D]? = some (.deferred (some []))) → Marks lo w' ds
  | [], _, _ => trivial
  | d :: ds, ⟨⟨D, h1, hlo, h2, h3⟩, h4⟩, h => ⟨⟨D, h1, hlo, h D (by grind) h2, h3⟩, h4.step fun D hD => h D (by grind)⟩

/-- The deferred calls of a frame: marks alone, or just these. -/
def Defs (fd : Option (List Deferred)) (lo : Nat) (w : World) (ds : List Deferred) : Prop := match fd with
  | none => Marks lo w ds
  | some l => ds = l

theorem Defs.step {fd : Option (List Deferred)} {lo : Nat} {w w' : World} {ds : List Deferred} (h : Defs fd lo w ds) (hs : ∀ D, ({ target := .collected D, args := #[] } : Deferred) ∈ ds → w.heap[D]? = some (.deferred (some [])) → w'.heap[D]? = some (.deferred (some []))) : Defs fd lo w' ds := by
  cases fd with
  | none => exact Marks.step h hs
  | some l => exact h

/-- A frame: its variables E, its objects L, at memory w. -/
structure Rel (GL : Nat → List Cell) (N : Nat) (w0 : World) (ω0 : Nat → Nat) (S : Fr) (E : Nat → Option V) (L : Nat → Option Obj) (a : Act) (w : World) (ω : Nat → Nat) (β : Nat → Option Nat) : Prop where
  size : a.tmps.size = N
  defers : Defs S.fd S.lo w a.defers
  env : ∀ t v, E t = some v → t < N ∧ RV w ω β L v (a.tmps.getD t undef)
  obj : ∀ k o, L k = some o → ObjOk w ω β L k o
  inj : ∀ j k b, L j ≠ none → L k ≠ none → β j = some b → β k = some b → j = k
  keeps : Keeps w0 ω0 S.S w ω
  mine : ∀ k b, L k ≠ none → β k = some b → S.S b ∨ w0.heap.size ≤ b
  gl : ∀ g, RDcells w ω g 0 (GL g)
  inv : S.J w β L

/- ## Steps of the memory under which values keep their meaning -/

section
variable {w w' : World} {ω ω' : Nat → Nat} {β β' : Nat → Option Nat} {L L' : Nat → Option Obj}

theorem ArrV.step {k s n : Nat} {v : Value} (h : ArrV w β k s n v)
    (hb : β' k = β k ∧ ∀ b cur t, β k = some b → w.heap[b]? = some (.cells cur t (0, 0)) → ∃ cur', w'.heap[b]? = some (.cells cur' t (0, 0)) ∧ cur'.size = cur.size) :
    ArrV w' β' k s n v := by
  obtain ⟨hb1, hb2⟩ := hb
  rcases h with ⟨b, cap, cur, t, h1, h2, h3, h4⟩ | ⟨h1, h2, h3⟩
  · obtain ⟨cur', h5, h6⟩ := hb2 b cur t h1 h3
    exact .inl ⟨b, cap, cur', t, hb1.trans h1, h2, h5, h6.trans h4⟩
  · exact .inr ⟨hb1.trans h1, h2, h3⟩

theorem VwV.step {k s N lo n : Nat} {v : Value} (h : VwV w β k s N lo n v)
    (hb : β' k = β k ∧ ∀ b cur t, β k = some b → w.heap[b]? = some (.cells cur t (0, 0)) → ∃ cur', w'.heap[b]? = some (.cells cur' t (0, 0)) ∧ cur'.size = cur.size) :
    VwV w' β' k s N lo n v := by
  obtain ⟨hb1, hb2⟩ := hb
  rcases h with ⟨h, h', h''⟩ | ⟨b, cap, cur, t, h1, h2, h3, h4, h5, h6, h9⟩
  · exact .inl ⟨h, fun e => ⟨hb1.trans (h' e).1, (h' e).2⟩, h''⟩
  · obtain ⟨cur', h7, h8⟩ := hb2 b cur t h1 h5
    exact .inr ⟨b, cap, cur', t, hb1.trans h1, h2, h3, h4, h7, h8 ▸ h6, h8 ▸ h9⟩

mutual
theorem RW.step (g : Grows w ω w' ω') (tr : ∀ k, Tr w β w' β' L L' k) : ∀ (x : W) {v : Value}, RW w ω β L x v → RW w' ω' β' L' x v
  | .c x, v, h => by simp only [RW] at h ⊢; exact h.grow g
  | .nil, v, h => by simpa only [RW] using h
  | .sk, v, h => by simpa only [RW] using h
  | .e0 _, v, h => by grind [RW]
  | .un, v, h => by simp only [RW]
  | .mr k, v, h => by
    simp only [RW] at h ⊢
    obtain ⟨es, b, h1, h2, h3⟩ := h
    have ht := tr k
    grind [Tr]
  | .full rows, v, h => by simp only [RW] at h ⊢; exact ⟨h.1.grow g, h.2⟩
  | .ptr k off, v, h => by
    simp only [RW] at h ⊢
    obtain ⟨cells, b, h1, h2, h3⟩ := h
    have ht := tr k
    grind [Tr]
  | .arr k n, v, h => by
    simp only [RW] at h ⊢
    obtain ⟨s, rows, p, h1, h2, h0, h3⟩ := h
    have ht := tr k
    grind [Tr, ArrV.step]
  | .vw k N lo n, v, h => by
    simp only [RW] at h ⊢
    obtain ⟨s, rows, p, h1, h2, h0, h3⟩ := h
    have ht := tr k
    grind [Tr, VwV.step]
  | .el k N i off, v, h => by
    simp only [RW] at h ⊢
    obtain ⟨s, rows, p, h1, h2, h0, h3⟩ := h
    have ht := tr k
    grind [Tr]
  | .clo f ones caps, v, h => by
    simp only [RW] at h ⊢
    obtain ⟨cs, h1, h2⟩ := h
    exact ⟨cs, h1, RWcaps.step g tr caps h2⟩
  | .ifw t one row, v, h => by
    simp only [RW] at h ⊢
    obtain ⟨x, vs, h1, h2, h3⟩ := h
    exact ⟨x, vs, h1, RWlist.step g tr row h2, h3⟩
theorem RWcaps.step (g : Grows w ω w' ω') (tr : ∀ k, Tr w β w' β' L L' k) : ∀ (caps : List (List W)) {ones : List Bool} {vs : List Value}, RWcaps w ω β L ones caps vs → RWcaps w' ω' β' L' ones caps vs
  | [], ones, vs, h => by grind [RWcaps]
  | r :: rs, ones, vs, h => by
    cases ones with
    | nil => simp [RWcaps] at h
    | cons o os => cases vs with
      | nil => simp [RWcaps] at h
      | cons v vs =>
        simp only [RWcaps] at h ⊢
        obtain ⟨⟨xs, h1, h2⟩, h3⟩ := h
        exact ⟨⟨xs, RWlist.step g tr r h1, h2⟩, RWcaps.step g tr rs h3⟩
theorem RWlist.step (g : Grows w ω w' ω') (tr : ∀ k, Tr w β w' β' L L' k) : ∀ (xs : List W) {vs : List Value}, RWlist w ω β L xs vs → RWlist w' ω' β' L' xs vs
  | [], vs, h => by grind [RWlist]
  | x :: xs, vs, h => by
    cases vs with
    | nil => simp [RWlist] at h
    | cons v vs =>
      simp only [RWlist] at h ⊢
      exact ⟨RW.step g tr x h.1, RWlist.step g tr xs h.2⟩
end

theorem RV1.step (g : Grows w ω w' ω') (tr : ∀ k, Tr w β w' β' L L' k) {x : V} {v : Value} (h : RV1 w ω β L x v) : RV1 w' ω' β' L' x v := by
  cases x with
  | sc x => exact RW.step g tr x h
  | ag cs => obtain ⟨a, h1, h2⟩ := h; exact ⟨a, h1, RWlist.step g tr cs h2⟩
  | tu l => exact h.elim

theorem RVs.step (g : Grows w ω w' ω') (tr : ∀ k, Tr w β w' β' L L' k) : ∀ {xs : List V} {vs : List Value}, RVs w ω β L xs vs → RVs w' ω' β' L' xs vs
  | [], [], _ => trivial
  | [], _ :: _, h => h.elim
  | _ :: _, [], h => h.elim
  | _ :: _, _ :: _, h => ⟨h.1.step g tr, RVs.step g tr h.2⟩

theorem RV.step (g : Grows w ω w' ω') (tr : ∀ k, Tr w β w' β' L L' k) {x : V} {v : Value} (h : RV w ω β L x v) : RV w' ω' β' L' x v := by
  cases x with
  | tu l => obtain ⟨a, h1, h2⟩ := h; exact ⟨a, h1, h2.step g tr⟩
  | sc x => exact RV1.step (x := .sc x) g tr h
  | ag x => exact RV1.step (x := .ag x) g tr h

/-- An object that is not touched keeps its meaning. -/
theorem ObjOk.step (g : Grows w ω w' ω') (tr : ∀ k, Tr w β w' β' L L' k) {k : Nat} {o : Obj} (h : ObjOk w ω β L k o) (hβ : β' k = β k)
    (hb : ∀ b, β k = some b → w'.heap[b]? = w.heap[b]? ∧ ω' b = ω b) : ObjOk w' ω' β' L' k o := by
  cases o with
  | box cells =>
    obtain ⟨b, cs, t, h1, h2, h3, h4⟩ := h
    obtain ⟨h5, h6⟩ := hb b h1
    exact ⟨b, cs, t, hβ.trans h1, h5.trans h2, RWlist.step g tr cells h3, h6.trans h4⟩
  | arr s rows p =>
    obtain ⟨h1, h2, h3, h4⟩ := h
    refine ⟨h1, h2, h3, ?_⟩
    rcases h4 with ⟨b, cap, cur, t, h4, h5, h6, h7, h8, h9, h10⟩ | ⟨h4, h5⟩
    · obtain ⟨h11, h12⟩ := hb b h4
      exact .inl ⟨b, cap, cur, t, hβ.trans h4, h11.trans h5, h6, h7, h8, RWlist.step g tr _ h9, h12.trans h10⟩
    grind
  | mp es =>
    obtain ⟨b, arr, clock, h1, h2, h3, h4⟩ := h
    obtain ⟨h5, h6⟩ := hb b h1
    exact ⟨b, arr, clock, hβ.trans h1, h5.trans h2, h3.grow g, h6.trans h4⟩
end

theorem Tr.trans {w w' w'' : World} {β β' β'' : Nat → Option Nat} {L L' L'' : Nat → Option Obj} {k : Nat} (h : Tr w β w' β' L L' k) (h' : Tr w' β' w'' β'' L' L'' k) : Tr w β w'' β'' L L'' k := by
  unfold Tr at h ⊢
  cases hL : L k with
  | none => simp
  | some o =>
    rw [hL] at h
    cases o with
    | box cs => grind [Tr]
    | arr s rows p => grind [Tr, Nat.le_trans]
    | mp es => grind [Tr]

/-- One step of a frame's memory: the objects in C are changed, made or left; all else stays. -/
theorem Rel.step {GL : Nat → List Cell} {N : Nat} {w0 : World} {ω0 : Nat → Nat} {S : Fr} {E : Nat → Option V} {L : Nat → Option Obj} {a : Act} {w : World} {ω : Nat → Nat} {β : Nat → Option Nat}
    (h : Rel GL N w0 ω0 S E L a w ω β) (C : Nat → Prop) {w' : World} {ω' : Nat → Nat} {β' : Nat → Option Nat} {L' : Nat → Option Obj}
    (g : Grows w ω w' ω') (hsz : w.heap.size ≤ w'.heap.size) (hos : w'.os = w.os) (htp : w'.tape = w.tape) (hout : w'.output = w.output)
    (hold : ∀ b, b < w.heap.size → (∀ k, C k → L k ≠ none → β k ≠ some b) → w'.heap[b]? = w.heap[b]? ∧ ω' b = ω b)
    (hsame : ∀ k, ¬ C k → L' k = L k ∧ (L k ≠ none → β' k = β k))
    (htr : ∀ k, C k → Tr w β w' β' L L' k)
    (hobj : (∀ k, Tr w β w' β' L L' k) → ∀ k, C k → ∀ o, L' k = some o → ObjOk w' ω' β' L' k o)
    (hblk : ∀ k, C k → ∀ b, L' k ≠ none → β' k = some b → (∃ j, C j ∧ L j ≠ none ∧ β j = some b) ∨ w.heap.size ≤ b)
    (hinj : ∀ j k b, C j → C k → L' j ≠ none → L' k ≠ none → β' j = some b → β' k = some b → j = k) :
    Rel GL N w0 ω0 S E L' a w' ω' β' ∧ ∀ k, Tr w β w' β' L L' k := by
  have blt : ∀ k b, L k ≠ none → β k = some b → b < w.heap.size := by
    intro k b hk hb
    cases hL : L k with
    | none => grind
    | some o =>
      have ho := h.obj k o hL
      cases o with
      | box cells =>
        obtain ⟨b', cs, t, h1, h2, _⟩ := ho
        grind
      | arr s rows p =>
        obtain ⟨_, _, _, h4⟩ := ho
        grind
      | mp es =>
        obtain ⟨b', arr, clock, h1, h2, _⟩ := ho
        grind
  have isC : ∀ k b, L k ≠ none → β k = some b → (∃ cs t fr, w.heap[b]? = some (.cells cs t fr)) ∨ ∃ arr clock, w.heap[b]? = some (.map arr clock) := by
    intro k b hk hb
    cases hL : L k with
    | none => grind
    | some o =>
      have ho := h.obj k o hL
      cases o with
      | box cells =>
        obtain ⟨b', cs, t, h1, h2, _⟩ := ho
        grind
      | arr s rows p =>
        obtain ⟨_, _, _, h4⟩ := ho
        grind
      | mp es =>
        obtain ⟨b', arr, clock, h1, h2, _⟩ := ho
        grind
  have hdef : Defs S.fd S.lo w' a.defers := h.defers.step fun D _ hD => by
    grind
  -- blocks of what is not touched are not touched
  have hother : ∀ k b, ¬ C k → L k ≠ none → β k = some b → w'.heap[b]? = w.heap[b]? ∧ ω' b = ω b := by
    intro k b hC hk hb
    refine hold b (blt k b hk hb) fun j hj hLj e => ?_
    have := h.inj j k b hLj hk e hb
    grind
  have tr : ∀ k, Tr w β w' β' L L' k := by
    grind [Tr]
  refine ⟨⟨h.size, hdef, fun t v ht => ⟨(h.env t v ht).1, (h.env t v ht).2.step g tr⟩, ?_, ?_, ?_, ?_, fun b => (h.gl b).grow g, S.closed _ _ _ _ _ _ h.inv fun k _ => tr k⟩, tr⟩
  · intro k o hk
    by_cases hC : C k
    grind
    · obtain ⟨h1, h2⟩ := hsame k hC
      rw [h1] at hk
      have hn : L k ≠ none := by grind
      exact (h.obj k o hk).step g tr (h2 hn) fun b hb => hother k b hC hn hb
  · intro j k b hj hk hbj hbk
    by_cases hCj : C j <;> by_cases hCk : C k
    grind
    · obtain ⟨h1, h2⟩ := hsame k hCk
      rw [h1] at hk
      rw [h2 hk] at hbk
      rcases hblk j hCj b hj hbj with ⟨i, h5, h3, h4⟩ | h3
      · have := h.inj i k b h3 hk h4 hbk
        grind
      grind
    · obtain ⟨h1, h2⟩ := hsame j hCj
      rw [h1] at hj
      rw [h2 hj] at hbj
      rcases hblk k hCk b hk hbk with ⟨i, h5, h3, h4⟩ | h3
      · have := h.inj j i b hj h3 hbj h4
        grind
      grind
    · obtain ⟨h1, h2⟩ := hsame j hCj
      obtain ⟨h3, h4⟩ := hsame k hCk
      rw [h1] at hj
      rw [h3] at hk
      rw [h2 hj] at hbj
      rw [h4 hk] at hbk
      exact h.inj j k b hj hk hbj hbk
  · refine h.keeps.step g hsz (fun b hb hs => ?_) hos htp hout
    refine hold b (Nat.lt_of_lt_of_le hb h.keeps.size) fun k hC hk hbk => ?_
    rcases h.mine k b hk hbk with h1 | h1 <;> grind
  · intro k b hk hb
    by_cases hC : C k
    · rcases hblk k hC b hk hb with ⟨i, _, h1, h2⟩ | h1
      · exact h.mine i b h1 h2
      · exact .inr (Nat.le_trans h.keeps.size h1)
    · obtain ⟨h1, h2⟩ := hsame k hC
      rw [h1] at hk
      rw [h2 hk] at hb
      exact h.mine k b hk hb

end Go.Vs

/- The value semantics, 4: lists of cells, reading and writing of blocks, and the simple operations. -/
namespace Go.Vs
open Go

section
variable {w : World} {ω : Nat → Nat} {β : Nat → Option Nat} {L : Nat → Option Obj}

theorem RWlist.length : ∀ {xs : List W} {vs : List Value}, RWlist w ω β L xs vs → xs.length = vs.length
  | [], [], _ => rfl
  | [], _ :: _, h => by simp [RWlist] at h
  | _ :: _, [], h => by simp [RWlist] at h
  | _ :: _, _ :: _, h => by simp only [RWlist] at h; simp [RWlist.length h.2]

theorem RWlist.append : ∀ {xs ys : List W} {vs us : List Value}, RWlist w ω β L xs vs → RWlist w ω β L ys us → RWlist w ω β L (xs ++ ys) (vs ++ us)
  | [], _, [], _, _, h => h
  | [], _, _ :: _, _, h, _ => by simp [RWlist] at h
  | _ :: _, _, [], _, h, _ => by simp [RWlist] at h
  | _ :: _, _, _ :: _, _, h, h' => by simp only [RWlist, List.cons_append] at h ⊢; exact ⟨h.1, RWlist.append h.2 h'⟩

theorem RWlist.take (n : Nat) : ∀ {xs : List W} {vs : List Value}, RWlist w ω β L xs vs → RWlist w ω β L (xs.take n) (vs.take n) := by
  induction n with
  | zero => grind [RWlist]
  | succ n ih =>
    intro xs vs h
    cases xs <;> cases vs <;> simp_all [RWlist]

theorem RWlist.drop (n : Nat) : ∀ {xs : List W} {vs : List Value}, RWlist w ω β L xs vs → RWlist w ω β L (xs.drop n) (vs.drop n) := by
  induction n with
  | zero => simp
  | succ n ih =>
    intro xs vs h
    cases xs <;> cases vs <;> simp_all [RWlist]

theorem RWlist.cut {xs cs : List W} {vs : List Value} {off n : Nat} (h : RWlist w ω β L xs vs) (hc : cut xs off n = some cs) :
    RWlist w ω β L cs ((vs.drop off).take n) ∧ off + n ≤ vs.length := by
  unfold Vs.cut at hc
  cases hb : Nat.ble (off + n) xs.length with
  | false => grind
  | true =>
    simp only [hb, cond_true, Option.some.injEq] at hc
    subst hc
    exact ⟨(h.drop off).take n, by rw [← h.length]; simp_all⟩

theorem RWlist.splice {xs ys cs : List W} {vs us : List Value} {off : Nat} (h : RWlist w ω β L xs vs) (h' : RWlist w ω β L ys us) (hc : splice xs off ys = some cs) :
    RWlist w ω β L cs (vs.take off ++ us ++ vs.drop (off + us.length)) ∧ off + us.length ≤ vs.length ∧ cs.length = xs.length := by
  unfold Vs.splice at hc
  cases hb : Nat.ble (off + ys.length) xs.length with
  | false => grind
  | true =>
    simp only [hb, cond_true, Option.some.injEq] at hc
    subst hc
    have hle := Nat.le_of_ble_eq_true hb
    rw [← h'.length, ← h.length]
    refine ⟨((h.take off).append h').append (h.drop _), hle, ?_⟩
    grind

theorem RDlist.to : ∀ {cs : List Cell} {vs : List Value}, RDlist w ω cs vs → RWlist w ω β L (cs.map W.c) vs
  | [], [], _ => by simp [RWlist]
  | [], _ :: _, h => by simp [RDlist] at h
  | _ :: _, [], h => by simp [RDlist] at h
  | _ :: _, _ :: _, h => by simp only [RDlist] at h; simp only [List.map_cons, RWlist, RW]; exact ⟨h.1, RDlist.to h.2⟩

theorem RDlist.of : ∀ {cs : List Cell} {vs : List Value}, RWlist w ω β L (cs.map W.c) vs → RDlist w ω cs vs
  | [], [], _ => by simp [RDlist]
  | [], _ :: _, h => by simp [RWlist] at h
  | _ :: _, [], h => by simp [RWlist] at h
  | _ :: _, _ :: _, h => by simp only [List.map_cons, RWlist, RW] at h; simp only [RDlist]; exact ⟨h.1, RDlist.of h.2⟩

theorem RDlist.length {cs : List Cell} {vs : List Value} (h : RDlist w ω cs vs) : cs.length = vs.length := by
  simpa using (RDlist.to (β := fun _ => none) (L := fun _ => none) h).length

/-- Published cells, as a list of values that lie there. -/
theorem RDcells.list : ∀ {cs : List Cell} {b o : Nat}, RDcells w ω b o cs →
    ∃ vs : List Value, RDlist w ω cs vs ∧ ∀ j v, vs[j]? = some v → at? w b (o + j) = some v ∧ o + j < ω b
  | [], _, _, _ => ⟨[], by simp [RDlist], by simp⟩
  | c :: cs, b, o, h => by
    simp only [RDcells] at h
    obtain ⟨⟨h1, v, h2, h3⟩, h4⟩ := h
    obtain ⟨vs, h5, h6⟩ := RDcells.list h4
    refine ⟨v :: vs, by grind [RDlist], fun j u hu => ?_⟩
    grind

theorem RDcells.mk : ∀ {cs : List Cell} {vs : List Value} {b o : Nat}, RDlist w ω cs vs → (∀ j v, vs[j]? = some v → at? w b (o + j) = some v ∧ o + j < ω b) → RDcells w ω b o cs
  | [], _, _, _, _, _ => by simp [RDcells]
  | _ :: _, [], _, _, h, _ => by simp [RDlist] at h
  | c :: cs, v :: vs, b, o, h, h' => by
    simp only [RDlist] at h
    simp only [RDcells]
    have h0 := h' 0 v (by simp)
    refine ⟨⟨h0.2, v, h0.1, h.1⟩, RDcells.mk h.2 fun j u hu => ?_⟩
    have := h' (j + 1) u (by grind)
    grind

theorem RDcells.cut {cs ds : List Cell} {b o off n : Nat} (h : RDcells w ω b o cs) (hc : cut cs off n = some ds) : RDcells w ω b (o + off) ds := by
  unfold Vs.cut at hc
  cases hb : Nat.ble (off + n) cs.length with
  | false => grind
  | true =>
    simp only [hb, cond_true, Option.some.injEq] at hc
    subst hc
    obtain ⟨vs, h1, h2⟩ := h.list
    have h3 : RDlist w ω ((cs.drop off).take n) ((vs.drop off).take n) := by
      have := ((RDlist.to (β := fun _ => none) (L := fun _ => none) h1).drop off).take n
      rw [← List.map_drop, ← List.map_take] at this
      exact RDlist.of this
    grind [RDcells.mk]

theorem RDrows.get : ∀ {rows : List (List Cell)} {b s o i : Nat} {row : List Cell}, RDrows w ω b s o rows → rows[i]? = some row → row.length = s ∧ RDcells w ω b (o + i * s) row
  | [], _, _, _, _, _, _, h => by grind
  | r :: rs, b, s, o, i, row, h, hi => by
    simp only [RDrows] at h
    cases i with
    | zero => grind
    | succ i =>
      have := RDrows.get h.2.2 (by simpa using hi)
      grind

theorem RDrows.drop {b s : Nat} (n : Nat) : ∀ {rows : List (List Cell)} {o : Nat}, RDrows w ω b s o rows → RDrows w ω b s (o + n * s) (rows.drop n) := by
  induction n with
  | zero => simp
  | succ n ih =>
    intro rows o h
    cases rows <;> grind [RDrows]

theorem RDrows.take {b s : Nat} (n : Nat) : ∀ {rows : List (List Cell)} {o : Nat}, RDrows w ω b s o rows → RDrows w ω b s o (rows.take n) := by
  induction n with
  | zero => grind [RDrows]
  | succ n ih =>
    intro rows o h
    cases rows <;> grind [RDrows]

theorem RD.oneCell {c : Cell} {v : Value} (h : RD w ω c v) : v.oneCell' = true := by
  cases c <;> simp only [RD] at h
  case int => subst h; rfl
  case bool => subst h; rfl
  case str => obtain ⟨a, rfl, _⟩ := h; rfl
  case sl => obtain ⟨base, cap, rfl, _⟩ := h; rfl
  case fn => obtain ⟨cs, rfl, _⟩ := h; rfl
  case nilfn => subst h; rfl
  case nilptr => subst h; rfl
  case nilif => subst h; rfl
  case ifc => obtain ⟨x, vs, rfl, _⟩ := h; rfl
  case ro => obtain ⟨b, o, rfl, _⟩ := h; rfl
  case mp => obtain ⟨_, rfl⟩ := h; rfl

theorem ArrV.oneCell {k s n : Nat} {v : Value} (h : ArrV w β k s n v) : v.oneCell' = true := by
  rcases h with ⟨b, cap, cur, t, _, rfl, _⟩ | ⟨_, _, base, rfl⟩ <;> rfl
theorem RW.oneCell {x : W} {v : Value} (h : RW w ω β L x v) (hn : notUn x = true) : v.oneCell' = true := by
  cases x <;> simp only [RW] at h
  case c => exact h.oneCell
  case nil => subst h; rfl
  case full => exact h.1.oneCell
  case e0 => obtain ⟨_, _, rfl, _⟩ := h; rfl
  case arr => obtain ⟨_, _, _, _, _, ⟨_, _, _, rfl⟩, _⟩ := h; rfl
  case vw => obtain ⟨_, _, _, _, _, ⟨_, _, _, rfl⟩, _⟩ := h; rfl
  case ptr => obtain ⟨_, _, _, _, rfl⟩ := h; rfl
  case el => obtain ⟨_, _, _, _, _, ⟨_, rfl⟩, _⟩ := h; rfl
  case clo => obtain ⟨_, rfl, _⟩ := h; rfl
  case ifw => obtain ⟨_, _, rfl, _⟩ := h; rfl
  case mr => obtain ⟨_, _, _, _, rfl⟩ := h; rfl
  grind [notUn]
  grind [notUn]

theorem RWlist.oneCells : ∀ {xs : List W} {vs : List Value}, RWlist w ω β L xs vs → xs.all notUn = true → ∀ v ∈ vs, v.oneCell' = true
  | [], [], _, _, v, hv => by grind
  | [], _ :: _, h, _, _, _ => by simp [RWlist] at h
  | _ :: _, [], h, _, _, _ => by grind
  | x :: xs, u :: vs, h, hn, v, hv => by
    simp only [RWlist] at h
    simp only [List.all_cons, Bool.and_eq_true] at hn
    simp only [List.mem_cons] at hv
    rcases hv with rfl | hv
    · exact h.1.oneCell hn.1
    · exact RWlist.oneCells h.2 hn.2 v hv

theorem cells_one {v : Value} (h : v.oneCell' = true) : v.cells = #[v] := by
  cases v <;> first | rfl | simp [Value.oneCell'] at h

/-- A value's cells. -/
theorem RV.cells {x : V} {v : Value} (h : RV w ω β L x v) (ht : ∀ l, x ≠ .tu l) (hn : x.cells.all notUn = true) : RWlist w ω β L x.cells v.cells.toList := by
  cases x with
  | sc x =>
    have h1 := RW.oneCell h (by simpa [V.cells] using hn)
    rw [cells_one h1]
    simp only [V.cells, RWlist]
    exact ⟨h, trivial⟩
  | ag cs => obtain ⟨a, rfl, h2⟩ := h; exact h2
  | tu l => grind
end

/- ## Runs of the model's operations on blocks -/

section
variable {P : Program} {w : World}

theorem at?_block {b i : Nat} {cs : Array Value} {t : TypeId} {fr : Nat × Nat} (h : w.heap[b]? = some (.cells cs t fr)) : at? w b i = cs[i]? := by
  simp [at?, World.cell?, h]

def isAggB (P : Program) (t : TypeId) : Bool := match P.underlying t with
  | some (.struct _) | some (.array _ _) => true
  | _ => false

theorem run_isAgg {t : TypeId} (h : (P.underlying t).isSome = true) : (isAgg t).run P w = .ok (isAggB P t) w := by
  cases hu : P.underlying t with
  | none => grind
  | some d =>
    unfold isAgg isAggB
    simp only [Sem.run_bind, run_underlying hu, Result.andThen_ok, hu]
    cases d <;> rfl

theorem run_sizeOf' {t : TypeId} {i : TypeInfo} (h : P.info? t = some i) : (sizeOf t).run P w = .ok i.size w := by
  simp [sizeOf, typeInfo, h]

/-- Cells as one value: a struct of them, or the one cell. -/
def packV (ag : Bool) (vs : List Value) : Value := if ag then .agg vs.toArray else vs.headD undef

theorem run_loadVar {t : TypeId} {i : TypeInfo} {b off : Nat} {vs : List Value} (hu : (P.underlying t).isSome = true) (hi : P.info? t = some i) (hl : vs.length = i.size)
    (hag : isAggB P t = true ∨ vs.length = 1) (h : ∀ j v, vs[j]? = some v → at? w b (off + j) = some v) :
    (loadVar t ⟨b, off, none⟩).run P w = .ok (packV (isAggB P t) vs) w := by
  unfold loadVar
  simp only [Sem.run_bind, run_isAgg hu, Result.andThen_ok]
  have hadd : ∀ j, (⟨b, off, none⟩ : Addr).add j = ⟨b, off + j, none⟩ := by grind [Addr.add]
  cases hb : isAggB P t with
  | true =>
    have hlc := run_loadCells_list (P := P) w ⟨b, off, none⟩ vs (by intro j v hv; rw [hadd]; exact h j v hv)
    rw [hl] at hlc
    simp only [if_true, Sem.run_bind, run_sizeOf' hi, Result.andThen_ok, hlc, Sem.run_pure, packV]
  | false =>
    have h1 : vs.length = 1 := by grind
    obtain ⟨v, rfl⟩ : ∃ v, vs = [v] := by
      cases vs <;> grind
    have hc := h 0 v (by simp)
    grind [at?, packV, load, Sem.run]
end

end Go.Vs

/- The value semantics, 5: steps of a frame's memory: new blocks, writes into blocks, objects without a block, published rows. -/
namespace Go.Vs
open Go

def updE (E : Nat → Option V) (d : Nat) (v : V) : Nat → Option V := fun t => if t = d then some v else E t

theorem updL_append (L : Nat → Option Obj) (u u' : Upd) : updL L (u ++ u') = updL (updL L u) u' := by
  induction u generalizing L <;> grind [updL]

theorem updO_same (L : Nat → Option Obj) (k : Nat) (x : Option Obj) : updO L k x k = x := by simp [updO]
theorem updO_ne {L : Nat → Option Obj} {k j : Nat} {x : Option Obj} (h : j ≠ k) : updO L k x j = L j := by
  grind [updO]

theorem get?_put {α : Type} (l : List (Nat × α)) (k : Nat) (a : α) (j : Nat) : get? (put l k a) j = if j = k then some a else get? l j := by
  induction l <;> grind [put, get?]

theorem get?_put_fun (l : Env) (k : Nat) (a : V) : get? (put l k a) = updE (get? l) k a := by
  funext j; rw [get?_put]; rfl

theorem look_put (o : Objs) (k : Nat) (x : Option Obj) : look (put o k x) = updO (look o) k x := by
  grind [look, get?_put, updO]

theorem look_putAll (o : Objs) (u : Upd) : look (putAll o u) = updL (look o) u := by
  induction u generalizing o <;> grind [putAll, updL, look_put]

section
variable {GL : Nat → List Cell} {N : Nat} {w0 : World} {ω0 : Nat → Nat} {S : Fr} {E : Nat → Option V} {L : Nat → Option Obj} {a : Act} {w w' : World} {ω ω' : Nat → Nat} {β β' : Nat → Option Nat}

/-- A slot of the frame is written. -/
theorem Rel.put (h : Rel GL N w0 ω0 S E L a w ω β) {d : Nat} (hd : d < N) {v : V} {vv : Value} (hv : RV w ω β L v vv) :
    Rel GL N w0 ω0 S (updE E d v) L (a.put (some d) vv) w ω β := by
  refine ⟨by simp [Act.put, h.size], h.defers, fun t u ht => ?_, h.obj, h.inj, h.keeps, h.mine, h.gl, h.inv⟩
  unfold updE at ht
  by_cases htd : t = d
  · subst htd
    simp only [if_true, Option.some.injEq] at ht
    subst ht
    refine ⟨hd, ?_⟩
    have : (a.put (some t) vv).tmps.getD t undef = vv := by
      simp [Act.put, h.size, hd]
    grind
  · simp only [htd, if_false] at ht
    obtain ⟨h1, h2⟩ := h.env t u ht
    refine ⟨h1, ?_⟩
    have : (a.put (some d) vv).tmps.getD t undef = a.tmps.getD t undef := by
      simp [Act.put, Array.getElem?_setIfInBounds_ne (Ne.symm htd)]
    grind

theorem Rel.putNone (h : Rel GL N w0 ω0 S E L a w ω β) (vv : Value) : Rel GL N w0 ω0 S E L (a.put none vv) w ω β := h

/-- Fewer variables. -/
theorem Rel.fewer (h : Rel GL N w0 ω0 S E L a w ω β) {E' : Nat → Option V} (hE : ∀ t v, E' t = some v → E t = some v) : Rel GL N w0 ω0 S E' L a w ω β :=
  ⟨h.size, h.defers, fun t v ht => h.env t v (hE t v ht), h.obj, h.inj, h.keeps, h.mine, h.gl, h.inv⟩

theorem Rel.val (h : Rel GL N w0 ω0 S E L a w ω β) {t : Nat} {v : V} (ht : E t = some v) : RV w ω β L v (a.tmps.getD t undef) := (h.env t v ht).2

theorem Rel.blt (h : Rel GL N w0 ω0 S E L a w ω β) {k b : Nat} (hk : L k ≠ none) (hb : β k = some b) : b < w.heap.size := by
  cases hL : L k with
  | none => grind
  | some o =>
    have ho := h.obj k o hL
    cases o with
    | box cells =>
      obtain ⟨b', cs, t, h1, h2, _⟩ := ho
      grind
    | arr s rows p =>
      obtain ⟨_, _, _, h4⟩ := ho
      grind
    | mp es =>
      obtain ⟨b', arr, clock, h1, h2, _⟩ := ho
      grind

def setN {α : Type} (f : Nat → α) (k : Nat) (x : α) : Nat → α := fun j => if j = k then x else f j

theorem Grows.alloc (w : World) (ω : Nat → Nat) (o : Go.Obj) (n : Nat) : Grows w ω (w.alloc o) (setN ω w.heap.size n) := by
  refine ⟨fun b i hi v hv => ?_⟩
  have hb : b < w.heap.size := block_lt_of_cell hv
  refine ⟨?_, by grind [setN]⟩
  exact (World.cell?_alloc_lt w _ ⟨b, i, none⟩ hb).trans hv

theorem heap_ne_of_lt {b : Nat} (hb : b < w.heap.size) (o : Go.Obj) : (w.alloc o).heap[b]? = w.heap[b]? := heap_alloc_old w o hb

/-- Only the heap and what is outside count. -/
theorem Rel.heapEq (h : Rel GL N w0 ω0 S E L a w ω β) (hh : w'.heap = w.heap) (hos : w'.os = w.os) (htp : w'.tape = w.tape) (hout : w'.output = w.output) : Rel GL N w0 ω0 S E L a w' ω β := by
  have g : Grows w ω w' ω := ⟨fun b i hi v hv => ⟨by grind [at?, World.cell?], hi⟩⟩
  exact (h.step (fun _ => False) (β' := β) (L' := L) g (by grind) hos htp hout (fun b _ _ => ⟨by rw [hh], rfl⟩) (fun k _ => ⟨rfl, fun _ => rfl⟩) (fun _ h => h.elim) (fun _ _ h => h.elim) (fun _ h => h.elim) (fun _ _ _ h => h.elim)).1

/-- A new object in a new block. -/
theorem Rel.alloc (h : Rel GL N w0 ω0 S E L a w ω β) {k : Nat} {o : Obj} (hk : L k = none) (cs : Array Value) (t : TypeId) (n : Nat)
    (hok : (∀ j, Tr w β (w.alloc (.cells cs t)) (setN β k (some w.heap.size)) L (updO L k (some o)) j) →
      ObjOk (w.alloc (.cells cs t)) (setN ω w.heap.size n) (setN β k (some w.heap.size)) (updO L k (some o)) k o) :
    Rel GL N w0 ω0 S E (updO L k (some o)) a (w.alloc (.cells cs t)) (setN ω w.heap.size n) (setN β k (some w.heap.size)) ∧
      ∀ j, Tr w β (w.alloc (.cells cs t)) (setN β k (some w.heap.size)) L (updO L k (some o)) j := by
  refine h.step (fun j => j = k) (Grows.alloc w ω _ n) (by simp) rfl rfl rfl ?_ ?_ ?_ ?_ ?_ ?_ <;> grind [heap_ne_of_lt, setN, updO_ne, Tr, updO_same]

/-- A block of nobody's. -/
theorem Rel.allocFree (h : Rel GL N w0 ω0 S E L a w ω β) (cs : Array Value) (t : TypeId) : Rel GL N w0 ω0 S E L a (w.alloc (.cells cs t)) (setN ω w.heap.size 0) β :=
  (h.step (fun _ => False) (Grows.alloc w ω _ 0) (by simp) rfl rfl rfl (fun b hb _ => ⟨heap_ne_of_lt hb _, by grind [setN]⟩) (fun _ _ => ⟨rfl, fun _ => rfl⟩) (fun _ h => h.elim) (fun _ _ h => h.elim) (fun _ h => h.elim) (fun _ _ _ h => h.elim)).1

/-- A block of nobody's, published. -/
theorem Rel.allocPub (h : Rel GL N w0 ω0 S E L a w ω β) (cs : Array Value) (t : TypeId) (n : Nat) : Rel GL N w0 ω0 S E L a (w.alloc (.cells cs t)) (setN ω w.heap.size n) β :=
  (h.step (fun _ => False) (Grows.alloc w ω _ n) (by simp) rfl rfl rfl (fun b hb _ => ⟨heap_ne_of_lt hb _, by grind [setN]⟩) (fun _ _ => ⟨rfl, fun _ => rfl⟩) (fun _ h => h.elim) (fun _ _ h => h.elim) (fun _ h => h.elim) (fun _ _ _ h => h.elim)).1

/-- A map that nobody looks up. -/
theorem Rel.allocMap (h : Rel GL N w0 ω0 S E L a w ω β) : Rel GL N w0 ω0 S E L a (w.alloc (.map #[] 0)) (setN ω w.heap.size 0) β :=
  (h.step (fun _ => False) (Grows.alloc w ω _ 0) (by simp) rfl rfl rfl (fun b hb _ => ⟨heap_ne_of_lt hb _, by grind [setN]⟩) (fun _ _ => ⟨rfl, fun _ => rfl⟩) (fun _ h => h.elim) (fun _ _ h => h.elim) (fun _ h => h.elim) (fun _ _ _ h => h.elim)).1

/-- A new array without a block. -/
theorem Rel.newNil (h : Rel GL N w0 ω0 S E L a w ω β) {k s : Nat} (hk : L k = none) (hs : 0 < s) :
    Rel GL N w0 ω0 S E (updO L k (some (.arr s [] 0))) a w ω (setN β k none) ∧ ∀ j, Tr w β w (setN β k none) L (updO L k (some (.arr s [] 0))) j := by
  refine h.step (fun j => j = k) (Grows.refl w ω) (Nat.le_refl _) rfl rfl rfl ?_ ?_ ?_ ?_ ?_ ?_
  simp
  grind [updO_ne, setN]
  grind [Tr]
  · rintro tr j rfl o' ho'
    rw [updO_same] at ho'
    cases ho'
    exact ⟨hs, by simp, by simp, .inr ⟨by simp [setN], rfl⟩⟩
  grind [setN]
  omega

theorem at?_setRow_other (w : World) (g b i : Nat) (cs : Array Value) (h : b ≠ g) : at? (w.setRow g cs) b i = at? w b i := by
  grind [setRow_other, at?, World.cell?]

/-- A write into the block of an object that is there. -/
theorem Rel.write (h : Rel GL N w0 ω0 S E L a w ω β) {k g : Nat} {o o' : Obj} (hk : L k = some o) (hg : β k = some g) (cur cs : Array Value) (t : TypeId)
    (hcur : w.heap[g]? = some (.cells cur t (0, 0))) (hsz : cs.size = cur.size) (n : Nat) (hn : ω g ≤ n)
    (hpub : ∀ i, i < ω g → cs[i]? = cur[i]?)
    (hkind : match o, o' with
      | .box a, .box b => b.length = a.length
      | .arr s rows _, .arr s' rows' _ => s' = s ∧ rows.length ≤ rows'.length
      | _, _ => False)
    (hok : (∀ j, Tr w β (w.setRow g cs) β L (updO L k (some o')) j) → (w.setRow g cs).heap[g]? = some (.cells cs t (0, 0)) →
      ObjOk (w.setRow g cs) (setN ω g n) β (updO L k (some o')) k o') :
    Rel GL N w0 ω0 S E (updO L k (some o')) a (w.setRow g cs) (setN ω g n) β ∧ ∀ j, Tr w β (w.setRow g cs) β L (updO L k (some o')) j := by
  have hnew : (w.setRow g cs).heap[g]? = some (.cells cs t (0, 0)) := setRow_heap w g cur cs t _ hcur
  refine h.step (fun j => j = k) ?_ (by simp) rfl rfl rfl ?_ ?_ ?_ ?_ ?_ ?_
  · refine ⟨fun b i hi v hv => ?_⟩
    grind [at?_block, setN, at?_setRow_other]
  grind [setRow_other, setN]
  grind [updO_ne]
  · rintro j rfl
    unfold Tr
    rw [hk]
    cases o with
    | box cells => cases o' <;> grind [updO_same]
    | arr s rows p => cases o' <;> grind [updO_same]
    | mp es => grind
  grind [updO_same]
  grind
  omega

/-- An array that moves into a new block. -/
theorem Rel.move (h : Rel GL N w0 ω0 S E L a w ω β) {k s : Nat} {rows rows' : List (List W)} {p p' : Nat} (hk : L k = some (.arr s rows p)) (hlt : rows.length < rows'.length)
    (cs : Array Value) (t : TypeId) (n : Nat)
    (hok : (∀ j, Tr w β (w.alloc (.cells cs t)) (setN β k (some w.heap.size)) L (updO L k (some (.arr s rows' p'))) j) →
      ObjOk (w.alloc (.cells cs t)) (setN ω w.heap.size n) (setN β k (some w.heap.size)) (updO L k (some (.arr s rows' p'))) k (.arr s rows' p')) :
    Rel GL N w0 ω0 S E (updO L k (some (.arr s rows' p'))) a (w.alloc (.cells cs t)) (setN ω w.heap.size n) (setN β k (some w.heap.size)) ∧
      ∀ j, Tr w β (w.alloc (.cells cs t)) (setN β k (some w.heap.size)) L (updO L k (some (.arr s rows' p'))) j := by
  refine h.step (fun j => j = k) (Grows.alloc w ω _ n) (by simp) rfl rfl rfl ?_ ?_ ?_ ?_ ?_ ?_ <;> grind [heap_ne_of_lt, setN, updO_ne, Tr, updO_same]
end
end Go.Vs

/- The value semantics, 6: when an operation of the value semantics stands for an operation of the model; the operations that leave memory alone. -/
namespace Go.Vs
open Go

def cvCell : Value → Cell → Bool
  | .int k n, .int k' n' => k == k' && n == n'
  | .bool b, .bool b' => b == b'
  | .string s, .str l => s.data.toList == l
  | .slice none 0 0, .sl [] => true
  | .pointer none, .nilptr => true
  | .nilFunc, .nilfn => true
  | .nilIface, .nilif => true
  | .map _, .mp => true
  | _, _ => false

def cvW : Value → W → Bool
  | .slice none 0 0, .nil => true
  | v, .c x => cvCell v x
  | _, _ => false

def cvList : List Value → List W → Bool
  | [], [] => true
  | v :: vs, x :: xs => cvW v x && cvList vs xs
  | _, _ => false

def cvV : Value → V → Bool
  | .agg a, .ag xs => cvList a.toList xs
  | v, .sc x => cvW v x
  | _, _ => false

def mOpd : Operand → Opd → Bool
  | .tmp t, .t n => t == n
  | .global g, .g n => g == n
  | .const v, .k x => cvV v x
  | .func f, .k (.sc (.c (.fn g [] []))) => f == g
  | _, _ => false

section
variable {w : World} {ω : Nat → Nat} {β : Nat → Option Nat} {L : Nat → Option Obj}

theorem cvCell_ok {v : Value} {x : Cell} (h : cvCell v x = true) : RD w ω x v := by
  unfold cvCell at h
  grind [RD]

theorem cvW_ok {v : Value} {x : W} (h : cvW v x = true) : RW w ω β L x v := by
  unfold cvW at h
  grind [RW, cvCell_ok]

theorem cvList_ok : ∀ {vs : List Value} {xs : List W}, cvList vs xs = true → RWlist w ω β L xs vs
  | [], [], _ => by simp [RWlist]
  | [], _ :: _, h => by simp [cvList] at h
  | _ :: _, [], h => by simp [cvList] at h
  | _ :: _, _ :: _, h => by
    simp only [cvList, Bool.and_eq_true] at h
    simp only [RWlist]
    exact ⟨cvW_ok h.1, cvList_ok h.2⟩

theorem cvV_ok {v : Value} {x : V} (h : cvV v x = true) : RV w ω β L x v := by
  unfold cvV at h
  split at h
  · exact ⟨_, rfl, cvList_ok h⟩
  · exact cvW_ok h
  grind

theorem mOpd_ok {C : Ctx} {N : Nat} {w0 : World} {ω0 : Nat → Nat} {S : Fr} {E : Nat → Option V} {a : Act} (r : Rel C.gl N w0 ω0 S E L a w ω β) {y : Operand} {x : Opd} (h : mOpd y x = true) :
    RV w ω β L (x.val C E) (a.eval y) := by
  unfold mOpd at h
  split at h
  · rename_i t n
    have : t = n := by grind
    subst this
    simp only [Opd.val, Act.eval]
    cases hE : E t with
    | none => simp [RV, RV1, RW]
    | some v => exact r.val hE
  · rename_i g n
    have : g = n := by grind
    subst this
    simp only [Opd.val, Act.eval, RV, RV1, RW, RD]
    exact ⟨g, 0, by simp, r.gl g⟩
  · exact cvV_ok h
  · rename_i f g
    have : f = g := by grind
    subst this
    simp only [Opd.val, Act.eval]
    grind [RV, RV1, RW, RD, RDcaps]
  grind
end

/-- A run that only gives a value. -/
def Gives (P : Program) (o : Oper) (a : Act) (w : World) (ω : Nat → Nat) (β : Nat → Option Nat) (L : Nat → Option Obj) (v : V) : Prop :=
  ∃ vv, (execOp a.eval o).run P w = .ok (.value vv) w ∧ RV w ω β L v vv

section
variable {P : Program} {C : Ctx} {N : Nat} {w0 : World} {ω0 : Nat → Nat} {S : Fr} {E : Nat → Option V} {L : Nat → Option Obj} {a : Act} {w : World} {ω : Nat → Nat} {β : Nat → Option Nat}
variable {o : Oper} {v : V}

theorem run_value {s : Sem Value} {vv : Value} (h : s.run P w = .ok vv w) : (do pure (Next.value (← s)) : Sem Next).run P w = .ok (.value vv) w := by
  simp_all

theorem gives_mv (r : Rel C.gl N w0 ω0 S E L a w ω β) {y : Operand} {x : Opd} (ho : o.op = .move y ∨ o.op = .assign y) (hm : mOpd y x = true) (h : v = x.val C E) : Gives P o a w ω β L v := by
  subst h
  refine ⟨a.eval y, ?_, mOpd_ok r hm⟩
  rcases ho with ho | ho <;> simp [execOp, ho]

theorem gives_pick (r : Rel C.gl N w0 ω0 S E L a w ω β) {c x y : Operand} {c' x' y' : Opd} (ho : o.op = .pick c x y) (hc : mOpd c c' = true) (hx : mOpd x x' = true) (hy : mOpd y y' = true)
    {t : Bool} (ht : c'.val C E = .sc (.c (.bool t))) (h : v = bif t then x'.val C E else y'.val C E) : Gives P o a w ω β L v := by
  have h1 := mOpd_ok r hc
  rw [ht] at h1
  simp only [RV, RV1, RW, RD] at h1
  subst h
  refine ⟨if t then a.eval x else a.eval y, ?_, ?_⟩
  · simp [execOp, ho, h1, asBool]
  grind [mOpd_ok]

theorem shift_is {op : BinOp} {k k' : IntKind} {p q : Int} {x : Cell} (h : intShift op k p q = some x) :
    ∃ m, x = .int k m ∧ (Op.shift op k p k' q).run P w = .ok (.int k m) w := by
  unfold intShift at h
  split at h
  grind
  · rename_i hq
    unfold Op.shift
    rw [if_neg hq]
    cases op <;> simp only [reduceCtorEq, Option.some.injEq] at h <;> simp_all

theorem intBin_is {op : BinOp} {k : IntKind} {p q : Int} {x : Cell} (hs : isShift op = false) (t : TypeId) (h : intBin op k p q = some x) :
    ∃ vv, RD w ω x vv ∧ (binOp op t (.int k p) (.int k q)).run P w = .ok vv w := by
  unfold intBin at h
  cases op <;> simp only [isShift, reduceCtorEq, Option.some.injEq] at h hs <;>
    first
    | (subst h
       first
       | exact ⟨_, by simp [wrapI, RD]; rfl, by simp [binOp, Op.intArith, Op.intCmp, Op.intBits]⟩)
    | (split at h
       · cases h
       · rename_i hq
         simp only [Option.some.injEq] at h
         subst h
         exact ⟨_, by simp [wrapI, RD]; rfl, by simp [binOp, Op.intDiv, hq]⟩)

theorem strBin_is {op : BinOp} {p q : ByteArray} {x : Cell} (t : TypeId) (h : strBin op p.data.toList q.data.toList = some x) :
    ∃ vv, RD w ω x vv ∧ (binOp op t (.string p) (.string q)).run P w = .ok vv w := by
  unfold strBin at h
  cases op <;> simp only [reduceCtorEq, Option.some.injEq] at h <;>
    first
    | (subst h
       refine ⟨_, (by simp only [RD]; rfl), ?_⟩
       simp only [binOp, Op.stringOp, ByteArray.toList_eq]
       rfl)
    | (split at h
       · rename_i hl
         simp only [Option.some.injEq] at h
         subst h
         refine ⟨.string (p ++ q), ?_, ?_⟩
         · simp only [RD]
           exact ⟨p ++ q, rfl, by simp⟩
         · have hl' : ¬ ((p.size + q.size : Nat) : Int) > IntKind.i64.max := by
             have e : IntKind.i64.max = 9223372036854775807 := by decide
             have e1 : p.size = p.data.toList.length := by show p.data.size = _; simp
             have e2 : q.size = q.data.toList.length := by show q.data.size = _; simp
             rw [e]; omega
           simp only [binOp, Op.stringOp]
           rw [if_neg hl']
           rfl
       · cases h)

theorem shiftOp_is {op : BinOp} {k k' : IntKind} {p q : Int} {x : Cell} (hs : isShift op = true) (t : TypeId) (h : intShift op k p q = some x) :
    ∃ vv, RD w ω x vv ∧ (binOp op t (.int k p) (.int k' q)).run P w = .ok vv w := by
  obtain ⟨m, rfl, hr⟩ := shift_is (P := P) (w := w) (k' := k') h
  refine ⟨.int k m, by rfl, ?_⟩
  cases op <;> first | (simp [isShift] at hs; done) | (simp only [binOp]; exact hr)

/-- The comparison's own look ahead finds nothing, where one operand is no nil interface and no struct. -/
theorem eqGuard_none {op : BinOp} {t : TypeId} {x y : Operand} {p q : Value} (h : (match p, q with | .nilIface, .nilIface => false | .agg _, .agg _ => false | _, _ => true) = true) :
    (eqGuard op t x y p q).run P w = .ok () w := by
  unfold eqGuard
  split <;> simp only [Bool.not_true, Bool.not_false, Bool.false_eq_true, if_true, if_false] <;> first
    | rfl
    | (cases p <;> cases q <;> first | (simp at h; done) | rfl)

theorem eqGuard_const {op : BinOp} {t : TypeId} {x y : Operand} (h : (match y with | .const _ => true | _ => false) = true) :
    (eqGuard op t x y .nilIface .nilIface).run P w = .ok () w := by
  unfold eqGuard
  split <;> simp only [Bool.not_true, Bool.not_false, Bool.false_eq_true, if_true, if_false] <;> first
    | rfl
    | (cases y <;> first | (simp at h; done) | (simp; done))

/-- The type that a comparison's tag asks for. -/
def mTag (P : Program) (t : TypeId) (y : Operand) : Nat → Bool
  | 0 => true
  | 1 => match P.underlying t with | some .bool => true | _ => false
  | 2 => match P.underlying t with | some (.slice _) => true | _ => false
  | 3 => match P.underlying t with | some (.pointer _) => true | _ => false
  | 4 => match P.underlying t with | some (.func ..) => true | _ => false
  | 5 => (match P.underlying t with | some (.interface _) => true | _ => false) && (match y with | .const _ => true | _ => false)
  | T + 6 => (match P.underlying t with | some (.interface _) => true | _ => false) && (match P.underlying T with | some (.int _) => true | _ => false) && (match P.info? T with | some i => i.comparable | _ => false)

theorem nilEq_is {op : BinOp} {t : TypeId} {p q : Value} {b : Bool} {x : Cell} (h : nilEq op b = some x) (hnum : (match p with | .int .. | .float .. | .complex .. | .string _ => false | _ => true) = true)
    (he : (Op.equal t p q).run P w = .ok b w) : ∃ vv, RD w ω x vv ∧ (binOp op t p q).run P w = .ok vv w := by
  cases op <;> simp only [nilEq, reduceCtorEq, Option.some.injEq] at h
  · subst h
    refine ⟨.bool b, by rfl, ?_⟩
    cases p <;> first | (simp at hnum; done) | simp [binOp, he]
  · subst h
    refine ⟨.bool (!b), by rfl, ?_⟩
    cases p <;> first | (simp at hnum; done) | simp [binOp, he]

theorem equal_run {t : TypeId} {p q : Value} {b : Bool} (h : ∀ n : Nat, (Op.equalIn (n + 1) t p q).run P w = .ok b w) : (Op.equal t p q).run P w = .ok b w := h 9999

theorem equal_ints {t T : TypeId} {e : Array (String × TypeId)} {e2 : IntKind} {i : TypeInfo} {k : IntKind} {m n : Int} (hd : P.underlying t = some (.interface e)) (hd2 : P.underlying T = some (.int e2)) (hi : P.info? T = some i) (hic : i.comparable = true) (j : Nat) :
    (Op.equalIn (j + 2) t (.iface T (.int k m)) (.iface T (.int k n))).run P w = .ok (m == n) w := by
  have h1 : (Op.equalIn (j + 1) T (.int k m) (.int k n)).run P w = .ok (m == n) w := by simp [Op.equalIn, run_underlying hd2]
  have h2 : (typeInfo T).run P w = .ok i w := by simp [typeInfo, Sem.run_bind, hi, Result.andThen]
  rw [Op.equalIn]
  simp only [Sem.run_bind, run_underlying hd, Result.andThen_ok, ne_eq, not_true_eq_false, if_false, h2, hic, Bool.not_true, Bool.false_eq_true, h1]

theorem gives_bin (r : Rel C.gl N w0 ω0 S E L a w ω β) {op : BinOp} {t t' : TypeId} {x y : Operand} {x' y' : Opd} {tag : Nat} (ho : o.op = .binOp op t x y t') (hx : mOpd x x' = true) (hy : mOpd y y' = true) (ht : mTag P t y tag = true)
    {p q : W} (hp : x'.val C E = .sc p) (hq : y'.val C E = .sc q) {c : Cell} (hc : binW op tag p q = some c) (h : v = .sc (.c c)) : Gives P o a w ω β L v := by
  subst h
  have h1 := mOpd_ok r hx
  have h2 := mOpd_ok r hy
  rw [hp] at h1
  rw [hq] at h2
  simp only [RV, RV1] at h1 h2
  suffices ∃ vv, RD w ω c vv ∧ (eqGuard op t x y (a.eval x) (a.eval y)).run P w = .ok () w ∧ (binOp op t (a.eval x) (a.eval y)).run P w = .ok vv w by
    obtain ⟨vv, h3, h4, h5⟩ := this
    refine ⟨vv, ?_, h3⟩
    grind [execOp, Sem.run_bind, Result.andThen_ok, Sem.run_pure]
  unfold binW at hc
  split at hc
  · split at hc
    · rename_i k m k' n
      simp only [RW, RD] at h1 h2
      rw [h1, h2]
      cases hs : isShift op with
      | true =>
        simp only [hs, cond_true] at hc
        obtain ⟨vv, h3, h4⟩ := shiftOp_is (P := P) (w := w) (ω := ω) (k' := k') hs t hc
        grind [eqGuard_none]
      | false =>
        simp only [hs, cond_false] at hc
        split at hc
        · rename_i hk
          subst hk
          obtain ⟨vv, h3, h4⟩ := intBin_is (P := P) (w := w) (ω := ω) hs t hc
          grind [eqGuard_none]
        grind
    · rename_i p q
      simp only [RW, RD] at h1 h2
      obtain ⟨p', h1, rfl⟩ := h1
      obtain ⟨q', h2, rfl⟩ := h2
      rw [h1, h2]
      obtain ⟨vv, h3, h4⟩ := strBin_is (P := P) (w := w) (ω := ω) t hc
      grind [eqGuard_none]
    grind
  · split at hc
    · rename_i m n
      simp only [RW, RD] at h1 h2
      rw [h1, h2]
      have hd : P.underlying t = some .bool := by
        grind [mTag]
      obtain ⟨vv, h3, h4⟩ := nilEq_is (P := P) (w := w) (ω := ω) (t := t) (p := .bool m) (q := .bool n) hc rfl
        (equal_run fun n => by simp [Op.equalIn, run_underlying hd])
      grind [eqGuard_none]
    grind
  · obtain ⟨e, hd⟩ : ∃ e, P.underlying t = some (.slice e) := by
      grind [mTag]
    split at hc
    · simp only [RW] at h1 h2
      rw [h1, h2]
      obtain ⟨vv, h3, h4⟩ := nilEq_is (P := P) (w := w) (ω := ω) (t := t) (p := .slice none 0 0) (q := .slice none 0 0) hc rfl
        (equal_run fun n => by simp [Op.equalIn, run_underlying hd])
      grind [eqGuard_none]
    · simp only [RW, RD] at h1 h2
      obtain ⟨base, cap, h1, _, _, h3⟩ := h1
      rcases h3 with h3 | ⟨b, off, s, rfl, _⟩
      grind
      · rw [h1, h2]
        obtain ⟨vv, h3, h4⟩ := nilEq_is (P := P) (w := w) (ω := ω) (t := t) (p := .slice (some ⟨b, off, none⟩) _ cap) (q := .slice none 0 0) hc rfl
          (equal_run fun n => by simp [Op.equalIn, run_underlying hd])
        exact ⟨vv, h3, eqGuard_none rfl, h4⟩
    · simp only [RW] at h1 h2
      obtain ⟨base, cap, h1, _, rfl⟩ := h1
      rw [h1, h2]
      obtain ⟨vv, h3, h4⟩ := nilEq_is (P := P) (w := w) (ω := ω) (t := t) (p := .slice base 0 cap) (q := .slice none 0 0) hc rfl
        (equal_run fun n => by cases base <;> simp [Op.equalIn, run_underlying hd])
      grind [eqGuard_none]
    grind
  · obtain ⟨e, hd⟩ : ∃ e, P.underlying t = some (.pointer e) := by
      grind [mTag]
    split at hc
    · simp only [RW, RD] at h1 h2
      rw [h1, h2]
      obtain ⟨vv, h3, h4⟩ := nilEq_is (P := P) (w := w) (ω := ω) (t := t) (p := .pointer none) (q := .pointer none) hc rfl
        (equal_run fun n => by simp [Op.equalIn, run_underlying hd])
      grind [eqGuard_none]
    · simp only [RW, RD] at h1 h2
      obtain ⟨cells, b, _, _, h1⟩ := h1
      rw [h1, h2]
      obtain ⟨vv, h3, h4⟩ := nilEq_is (P := P) (w := w) (ω := ω) (t := t) (p := .pointer (some ⟨b, _, none⟩)) (q := .pointer none) hc rfl
        (equal_run fun n => by simp [Op.equalIn, run_underlying hd])
      exact ⟨vv, h3, eqGuard_none rfl, h4⟩
    · simp only [RW, RD] at h1 h2
      obtain ⟨b, off, h1, _⟩ := h1
      rw [h1, h2]
      obtain ⟨vv, h3, h4⟩ := nilEq_is (P := P) (w := w) (ω := ω) (t := t) (p := .pointer (some ⟨b, _, none⟩)) (q := .pointer none) hc rfl
        (equal_run fun n => by simp [Op.equalIn, run_underlying hd])
      exact ⟨vv, h3, eqGuard_none rfl, h4⟩
    grind
  · obtain ⟨e1, e2, e3, hd⟩ : ∃ e1 e2 e3, P.underlying t = some (.func e1 e2 e3) := by
      grind [mTag]
    split at hc
    · simp only [RW, RD] at h1 h2
      rw [h1, h2]
      obtain ⟨vv, h3, h4⟩ := nilEq_is (P := P) (w := w) (ω := ω) (t := t) (p := .nilFunc) (q := .nilFunc) hc rfl
        (equal_run fun n => by simp [Op.equalIn, run_underlying hd])
      grind [eqGuard_none]
    · simp only [RW, RD] at h1 h2
      obtain ⟨cs, h1, _⟩ := h1
      rw [h1, h2]
      obtain ⟨vv, h3, h4⟩ := nilEq_is (P := P) (w := w) (ω := ω) (t := t) (p := .func (.func _) #[] cs) (q := .nilFunc) hc rfl
        (equal_run fun n => by simp [Op.equalIn, run_underlying hd])
      exact ⟨vv, h3, eqGuard_none rfl, h4⟩
    · simp only [RW, RD] at h1 h2
      obtain ⟨cs, h1, _⟩ := h1
      rw [h1, h2]
      obtain ⟨vv, h3, h4⟩ := nilEq_is (P := P) (w := w) (ω := ω) (t := t) (p := .func (.func _) #[] cs) (q := .nilFunc) hc rfl
        (equal_run fun n => by simp [Op.equalIn, run_underlying hd])
      exact ⟨vv, h3, eqGuard_none rfl, h4⟩
    grind
  · simp only [mTag, Bool.and_eq_true] at ht
    obtain ⟨ht1, ht2⟩ := ht
    obtain ⟨e, hd⟩ : ∃ e, P.underlying t = some (.interface e) := by
      grind
    split at hc
    · simp only [RW, RD] at h1 h2
      rw [h1, h2]
      obtain ⟨vv, h3, h4⟩ := nilEq_is (P := P) (w := w) (ω := ω) (t := t) (p := .nilIface) (q := .nilIface) hc rfl
        (equal_run fun n => by simp [Op.equalIn, run_underlying hd])
      grind [eqGuard_const]
    · simp only [RW, RD] at h1 h2
      obtain ⟨x0, vs, h1, _⟩ := h1
      rw [h1, h2]
      obtain ⟨vv, h3, h4⟩ := nilEq_is (P := P) (w := w) (ω := ω) (t := t) (p := .iface _ x0) (q := .nilIface) hc rfl
        (equal_run fun n => by simp [Op.equalIn, run_underlying hd])
      exact ⟨vv, h3, eqGuard_none rfl, h4⟩
    · simp only [RW, RD] at h1 h2
      obtain ⟨x0, vs, h1, _⟩ := h1
      rw [h1, h2]
      obtain ⟨vv, h3, h4⟩ := nilEq_is (P := P) (w := w) (ω := ω) (t := t) (p := .iface _ x0) (q := .nilIface) hc rfl
        (equal_run fun n => by simp [Op.equalIn, run_underlying hd])
      exact ⟨vv, h3, eqGuard_none rfl, h4⟩
    grind
  · rename_i T
    simp only [mTag, Bool.and_eq_true] at ht
    obtain ⟨⟨ht1, ht2⟩, ht3⟩ := ht
    obtain ⟨e, hd⟩ : ∃ e, P.underlying t = some (.interface e) := by
      split at ht1 <;> simp_all
    obtain ⟨e2, hd2⟩ : ∃ e, P.underlying T = some (.int e) := by
      grind
    obtain ⟨i, hi, hic⟩ : ∃ i, P.info? T = some i ∧ i.comparable = true := by
      grind
    split at hc
    · rename_i t1 k m t2 k' n
      cases hT : (t1 == T && t2 == T) with
      | false => grind
      | true =>
        rw [hT] at hc
        simp only [Bool.and_eq_true, beq_iff_eq] at hT
        obtain ⟨rfl, rfl⟩ := hT
        simp only [cond_true] at hc
        split at hc
        · rename_i hk
          subst hk
          simp only [RW, RD] at h1 h2
          obtain ⟨x0, vs, h1, hx0, hp0⟩ := h1
          obtain ⟨y0, us, h2, hy0, hq0⟩ := h2
          rw [h1, h2]
          have e0 : x0 = .int k m := by
            grind [RDlist, RD, packs]
          have e1 : y0 = .int k n := by
            grind [RDlist, RD, packs]
          subst e0 e1
          obtain ⟨vv, h3, h4⟩ := nilEq_is (P := P) (w := w) (ω := ω) (t := t) (p := .iface _ (.int k m)) (q := .iface _ (.int k n)) hc rfl (equal_ints hd hd2 hi hic 9998)
          grind [eqGuard_none]
        grind
    grind

theorem gives_un (r : Rel C.gl N w0 ω0 S E L a w ω β) {op : UnOp} {t : TypeId} {x : Operand} {x' : Opd} (ho : o.op = .unOp op t x) (hx : mOpd x x' = true)
    {p : W} (hp : x'.val C E = .sc p) {c : Cell} (hc : unW op p = some c) (h : v = .sc (.c c)) : Gives P o a w ω β L v := by
  subst h
  have h1 := mOpd_ok r hx
  rw [hp] at h1
  simp only [RV, RV1] at h1
  unfold unW at hc
  split at hc
  · simp only [RW, RD] at h1
    cases op <;> simp only [reduceCtorEq, Option.some.injEq] at hc
    subst hc
    refine ⟨_, by simp only [execOp, ho, h1]; rfl, ?_⟩
    rfl
  · simp only [RW, RD] at h1
    cases op <;> simp only [reduceCtorEq, Option.some.injEq] at hc
    subst hc
    refine ⟨_, by simp only [execOp, ho, h1]; rfl, ?_⟩
    rfl
  grind

end
end Go.Vs

/- The value semantics, 7: the other operations that leave memory alone. -/
namespace Go.Vs
open Go

section
variable {P : Program} {C : Ctx} {N : Nat} {w0 : World} {ω0 : Nat → Nat} {S : Fr} {E : Nat → Option V} {L : Nat → Option Obj} {a : Act} {w : World} {ω : Nat → Nat} {β : Nat → Option Nat}
variable {o : Oper} {v : V}

theorem RVs.get : ∀ {l : List V} {vs : List Value} {i : Nat} {x : V}, RVs w ω β L l vs → l[i]? = some x → ∃ vv, vs[i]? = some vv ∧ RV1 w ω β L x vv
  | [], _, _, _, _, h => by grind
  | _ :: _, [], _, _, h, _ => h.elim
  | y :: l, u :: vs, i, x, h, hi => by
    cases i with
    | zero => simp at hi; subst hi; exact ⟨u, by simp, h.1⟩
    | succ i =>
      obtain ⟨vv, h1, h2⟩ := RVs.get h.2 (by simpa using hi)
      grind

theorem RV1.RV {x : V} {vv : Value} (h : RV1 w ω β L x vv) : RV w ω β L x vv := by
  cases x with
  | sc x => exact h
  | ag x => exact h
  | tu x => exact h.elim

theorem gives_ext (r : Rel C.gl N w0 ω0 S E L a w ω β) {x : Operand} {x' : Opd} {i : Nat} (ho : o.op = .extract x i) (hx : mOpd x x' = true) {l : List V} (hl : x'.val C E = .tu l) (hi : l[i]? = some v) :
    Gives P o a w ω β L v := by
  have h1 := mOpd_ok r hx
  rw [hl] at h1
  obtain ⟨arr, h1, h2⟩ := h1
  obtain ⟨vv, h3, h4⟩ := h2.get hi
  refine ⟨vv, ?_, h4.RV⟩
  have h3' : arr[i]? = some vv := by grind
  simp [execOp, ho, h1, Instr.extract, h3']

theorem gives_cvI (r : Rel C.gl N w0 ω0 S E L a w ω β) {x : Operand} {x' : Opd} {src dst : TypeId} {k k0 : IntKind} (ho : o.op = .convert src dst x) (hx : mOpd x x' = true)
    (hs : P.underlying src = some (.int k0)) (hd : P.underlying dst = some (.int k)) {j : IntKind} {n : Int} (hn : x'.val C E = .sc (.c (.int j n))) (h : v = .sc (.c (wrapI k n))) : Gives P o a w ω β L v := by
  subst h
  have h1 := mOpd_ok r hx
  rw [hn] at h1
  simp only [RV, RV1, RW, RD] at h1
  refine ⟨.int k (k.wrap n), ?_, by rfl⟩
  simp [execOp, ho, h1, convert, run_underlying hs, run_underlying hd, Conv.intToInt]

theorem notIface_run {t : TypeId} (h : (match P.underlying t with | some (.interface _) => false | some _ => true | none => false) = true) (x : Value) :
    (Instr.makeInterface t x).run P w = .ok (.iface t x) w := by
  unfold Instr.makeInterface
  cases hu : P.underlying t with
  | none => grind
  | some d =>
    simp only [Sem.run_bind, run_underlying hu, Result.andThen_ok]
    cases d <;> first | (simp [hu] at h; done) | rfl

theorem listM_some {α γ : Type} {f : α → Option γ} : ∀ {l : List α} {r : List γ}, listM f l = some r → r.length = l.length ∧ ∀ (i : Nat) (x : α), l[i]? = some x → ∃ y, r[i]? = some y ∧ f x = some y
  | [], r, h => by grind [listM]
  | a :: l, r, h => by
    simp only [listM] at h
    cases hf : f a with
    | none => grind
    | some b =>
      simp only [hf] at h
      cases hr : listM f l with
      | none => grind
      | some r' =>
        simp only [hr, Option.some.injEq] at h
        subst h
        obtain ⟨h1, h2⟩ := listM_some hr
        grind

def isC : W → Option Cell := fun w => match w with | .c y => some y | _ => none

theorem listM_isC : ∀ {cs : List W} {l : List Cell}, listM (fun w => match w with | .c y => some y | _ => none) cs = some l → cs = l.map W.c
  | [], l, h => by grind [listM]
  | x :: cs, l, h => by
    simp only [listM] at h
    cases x with
    | c y =>
      simp only at h
      cases hr : listM (fun w => match w with | W.c y => some y | _ => none) cs with
      | none => grind
      | some l' =>
        simp only [hr, Option.some.injEq] at h
        subst h
        simp [listM_isC hr]
    | _ => simp at h

theorem gives_ifc (r : Rel C.gl N w0 ω0 S E L a w ω β) {x : Operand} {x' : Opd} {t : TypeId} (ho : o.op = .makeInterface t x) (hx : mOpd x x' = true)
    (ht : (match P.underlying t with | some (.interface _) => false | some _ => true | none => false) = true)
    (h : (match x'.val C E with
      | .sc (.c y) => some (V.sc (.c (.ifc t true [y])), ([] : Upd))
      | .sc w => bif notUn w then some (.sc (.ifw t true [w]), []) else none
      | .ag cs => match listM (fun w => match w with | .c y => some y | _ => none) cs with
        | some l => some (.sc (.c (.ifc t false l)), [])
        | none => some (.sc (.ifw t false cs), [])
      | .tu _ => none) = some (v, [])) : Gives P o a w ω β L v := by
  have h1 := mOpd_ok r hx
  refine ⟨.iface t (a.eval x), ?_, ?_⟩
  grind [execOp, Sem.run_bind, notIface_run, Result.andThen_ok, Sem.run_pure]
  · split at h
    · rename_i y hv
      rw [hv] at h1
      simp only [Option.some.injEq, Prod.mk.injEq, and_true] at h
      subst h
      simp only [RV, RV1, RW] at h1 ⊢
      simp only [RD]
      exact ⟨_, [a.eval x], rfl, by grind [RDlist], rfl⟩
    · rename_i y _ hv
      rw [hv] at h1
      cases hn : notUn y with
      | false => grind
      | true =>
        simp only [hn, cond_true, Option.some.injEq, Prod.mk.injEq, and_true] at h
        subst h
        simp only [RV, RV1] at h1 ⊢
        simp only [RW]
        exact ⟨_, [a.eval x], rfl, by grind [RWlist], rfl⟩
    · rename_i cs hv
      rw [hv] at h1
      obtain ⟨arr, h2, h3⟩ := h1
      split at h
      · rename_i l hl
        simp only [Option.some.injEq, Prod.mk.injEq, and_true] at h
        subst h
        have := listM_isC hl
        subst this
        simp only [RV, RV1, RW, RD]
        exact ⟨_, arr.toList, rfl, RDlist.of h3, by simp [packs, h2]⟩
      · simp only [Option.some.injEq, Prod.mk.injEq, and_true] at h
        subst h
        simp only [RV, RV1, RW]
        exact ⟨_, arr.toList, rfl, h3, by simp [packs, h2]⟩
    grind

theorem elOk_ok {k M i : Nat} (h : elOk L k M i = true) : ∃ s rows p, L k = some (.arr s rows p) ∧ rows.length = M ∧ i < M := by
  unfold elOk at h
  split at h
  · rename_i s rows p hL
    simp only [Bool.and_eq_true, beq_iff_eq] at h
    exact ⟨s, rows, p, hL, h.1, by simp_all⟩
  grind

theorem el_place {k M i off : Nat} {vv : Value} (h : elOk L k M i = true) (hr : RW w ω β L (.el k M i off) vv) :
    ∃ s rows p b, L k = some (.arr s rows p) ∧ rows.length = M ∧ i < M ∧ β k = some b ∧ vv = .pointer (some ⟨b, i * s + off, none⟩) := by
  grind [elOk_ok, RW]

theorem gives_nn (r : Rel C.gl N w0 ω0 S E L a w ω β) {x : Operand} {x' : Opd} (ho : o.op = .nilCheck x) (hx : mOpd x x' = true)
    (h : (match x'.val C E with
      | .sc (.ptr k o) => some (V.sc (.ptr k o), ([] : Upd))
      | .sc (.c (.ro r o)) => some (.sc (.c (.ro r o)), [])
      | .sc (.el k N i o) => bif elOk L k N i then some (.sc (.el k N i o), []) else none
      | _ => none) = some (v, [])) : Gives P o a w ω β L v := by
  have h1 := mOpd_ok r hx
  split at h
  · rename_i k off hv
    rw [hv] at h1
    simp only [Option.some.injEq, Prod.mk.injEq, and_true] at h
    subst h
    have h2 := h1
    simp only [RV, RV1, RW] at h2
    obtain ⟨cells, b, _, _, h2⟩ := h2
    exact ⟨a.eval x, by simp [execOp, ho, h2], h1⟩
  · rename_i row off hv
    rw [hv] at h1
    simp only [Option.some.injEq, Prod.mk.injEq, and_true] at h
    subst h
    have h2 := h1
    simp only [RV, RV1, RW, RD] at h2
    obtain ⟨b, o', h2, _⟩ := h2
    exact ⟨a.eval x, by simp [execOp, ho, h2], h1⟩
  · rename_i k M i off hv
    rw [hv] at h1
    cases he : elOk L k M i with
    | false => grind
    | true =>
      simp only [he, cond_true, Option.some.injEq, Prod.mk.injEq, and_true] at h
      subst h
      obtain ⟨s, rows, p, b, _, _, _, _, h2⟩ := el_place (w := w) (ω := ω) he h1
      exact ⟨a.eval x, by simp [execOp, ho, h2], h1⟩
  grind

theorem natBelow_ok {x : V} {b n : Nat} {vv : Value} (h : natBelow x b = some n) (hr : RV w ω β L x vv) : ∃ k, vv = .int k n ∧ n < b := by
  unfold natBelow at h
  split at h
  · rename_i k m
    cases hb : Nat.blt m b with
    | false => grind
    | true =>
      simp only [hb, cond_true, Option.some.injEq] at h
      subst h
      simp only [RV, RV1, RW, RD] at hr
      simp_all
  grind

/- addresses -/

theorem sureAddr_run (A : Addr) : (Instr.sureAddr (.pointer (some A))).run P w = .ok A w := rfl

theorem fieldPlace_run {A : Addr} {f : Field} {i : TypeInfo} (hi : P.info? f.type = some i) (hz : i.size ≠ 0) : (fieldPlace A f).run P w = .ok (A.add f.offset) w := by
  grind [fieldPlace, Sem.run_bind, run_sizeOf', Result.andThen_ok, Sem.run_pure]

theorem addr_add (b o n : Nat) : (⟨b, o, none⟩ : Addr).add n = ⟨b, o + n, none⟩ := by grind [Addr.add]

theorem onBy_ok {x : V} {vv : Value} {n : Nat} (hr : RV w ω β L x vv) (h : onBy L n x = some (v, [])) :
    ∃ b off, vv = .pointer (some ⟨b, off, none⟩) ∧ RV w ω β L v (.pointer (some ⟨b, off + n, none⟩)) := by
  unfold onBy at h
  split at h
  grind [RV, RV1, RW]
  · rename_i k M i off
    cases he : elOk L k M i with
    | false => grind
    | true =>
      simp only [he, cond_true, Option.some.injEq, Prod.mk.injEq, and_true] at h
      subst h
      obtain ⟨s, rows, p, b, h1, h2, h3, h4, h5⟩ := el_place (w := w) (ω := ω) he hr
      refine ⟨b, _, h5, ?_⟩
      simp only [RV, RV1, RW]
      exact ⟨s, rows, p, h1, Nat.le_of_eq h2.symm, ⟨_, rfl⟩, fun _ _ => ⟨b, h4, by simp⟩⟩
  · rename_i row off
    simp only [Option.some.injEq, Prod.mk.injEq, and_true] at h
    subst h
    simp only [RV, RV1, RW, RD] at hr
    grind [RV, RV1, RW, RD]
  grind

theorem gives_fld (r : Rel C.gl N w0 ω0 S E L a w ω β) {x : Operand} {x' : Opd} {t : TypeId} {f : Nat} {fs : Array Field} {fd : Field} {i : TypeInfo} (ho : o.op = .fieldAddr t x f) (hx : mOpd x x' = true)
    (ht : P.underlying t = some (.struct fs)) (hf : fs[f]? = some fd) (hi : P.info? fd.type = some i) (hz : i.size ≠ 0)
    (h : onBy L fd.offset (x'.val C E) = some (v, [])) : Gives P o a w ω β L v := by
  obtain ⟨b, off, he, h2⟩ := onBy_ok (mOpd_ok r hx) h
  refine ⟨_, ?_, h2⟩
  simp only [execOp, ho, Instr.fieldAt, Sem.run_bind, run_underlying ht, Result.andThen_ok, hf, he, sureAddr_run, fieldPlace_run hi hz, addr_add, Sem.run_pure]

theorem gives_idxAA (r : Rel C.gl N w0 ω0 S E L a w ω β) {x y : Operand} {x' y' : Opd} {t e : TypeId} {len : Nat} {i : TypeInfo} (ho : o.op = .indexAddr t x y) (hx : mOpd x x' = true) (hy : mOpd y y' = true)
    (ht : P.underlying t = some (.array len e)) (hi : P.info? e = some i) {j : Nat} (hj : natBelow (y'.val C E) len = some j)
    (h : onBy L (j * i.size) (x'.val C E) = some (v, [])) : Gives P o a w ω β L v := by
  obtain ⟨b, off, he, h2⟩ := onBy_ok (mOpd_ok r hx) h
  obtain ⟨k, h3, h4⟩ := natBelow_ok hj (mOpd_ok r hy)
  refine ⟨_, ?_, h2⟩
  have h5 : (0 : Int) ≤ (j : Int) ∧ (j : Int) < (len : Int) := ⟨by omega, by omega⟩
  simp only [execOp, ho, Instr.indexAt, Sem.run_bind, run_underlying ht, Result.andThen_ok, he, h3, asIntOf, sureAddr_run, Sem.run_pure, h5, and_self, if_true, run_sizeOf' hi, addr_add, Int.toNat_natCast]

theorem gives_part (r : Rel C.gl N w0 ω0 S E L a w ω β) {x : Operand} {x' : Opd} {t : TypeId} {f : Nat} {fs : Array Field} {fd : Field} {i : TypeInfo} (ho : o.op = .field t x f) (hx : mOpd x x' = true)
    (ht : P.underlying t = some (.struct fs)) (hf : fs[f]? = some fd) (hu : (P.underlying fd.type).isSome = true) (hi : P.info? fd.type = some i)
    {cs ds : List W} (hcs : x'.val C E = .ag cs) (hcut : cut cs fd.offset i.size = some ds) (h : asV (isAggB P fd.type) ds = some v) : Gives P o a w ω β L v := by
  have h1 := mOpd_ok r hx
  rw [hcs] at h1
  obtain ⟨arr, h1, h2⟩ := h1
  obtain ⟨h3, h4⟩ := h2.cut hcut
  unfold asV at h
  cases hag : isAggB P fd.type with
  | true =>
    simp only [hag, cond_true, Option.some.injEq] at h
    subst h
    refine ⟨.agg (arr.extract fd.offset (fd.offset + i.size)), ?_, ?_⟩
    · simp only [execOp, ho, Instr.field, Sem.run_bind, run_underlying ht, Result.andThen_ok, hf, h1, asAgg, Sem.run_pure, part, run_isAgg hu, hag, if_true, run_sizeOf' hi]
    · refine ⟨_, rfl, ?_⟩
      simp_all
  | false =>
    simp only [hag, cond_false] at h
    split at h
    · rename_i x0
      simp only [Option.some.injEq] at h
      subst h
      have hl := h3.length
      simp only [List.length_cons, List.length_nil] at hl
      cases hd : (arr.toList.drop fd.offset).take i.size with
      | nil => grind
      | cons y ys =>
        rw [hd] at h3
        have hget : arr[fd.offset]? = some y := by
          rw [← Array.getElem?_toList]
          have : ((arr.toList.drop fd.offset).take i.size)[0]? = some y := by grind
          grind
        simp only [RWlist] at h3
        refine ⟨y, ?_, h3.1⟩
        simp only [execOp, ho, Instr.field, Sem.run_bind, run_underlying ht, Result.andThen_ok, hf, h1, asAgg, Sem.run_pure, part, run_isAgg hu, hag, Bool.false_eq_true, if_false, hget]
    grind

end
end Go.Vs

/- The value semantics, 8: strings, slices and loads. -/
namespace Go.Vs
open Go

section
variable {P : Program} {C : Ctx} {N : Nat} {w0 : World} {ω0 : Nat → Nat} {S : Fr} {E : Nat → Option V} {L : Nat → Option Obj} {a : Act} {w : World} {ω : Nat → Nat} {β : Nat → Option Nat}
variable {o : Oper} {v : V}

theorem gives_idxS (r : Rel C.gl N w0 ω0 S E L a w ω β) {x y : Operand} {x' y' : Opd} {t : TypeId} (ho : o.op = .index t x y) (hx : mOpd x x' = true) (hy : mOpd y y' = true)
    (ht : P.underlying t = some .string) {s : List UInt8} (hs : x'.val C E = .sc (.c (.str s))) {j : Nat} (hj : natBelow (y'.val C E) s.length = some j) {b : UInt8} (hb : s[j]? = some b)
    (h : v = .sc (.c (.int .u8 b.toNat))) : Gives P o a w ω β L v := by
  subst h
  have h1 := mOpd_ok r hx
  rw [hs] at h1
  simp only [RV, RV1, RW, RD] at h1
  obtain ⟨arr, h1, rfl⟩ := h1
  obtain ⟨k, h3, h4⟩ := natBelow_ok hj (mOpd_ok r hy)
  have hget : arr[j]? = some b := by
    have h5 : arr.data[j]? = some b := by grind
    have hlt : j < arr.size := by
      simp_all
    rw [getElem?_pos arr j hlt]
    have := (Array.getElem?_eq_some_iff.1 h5).2
    exact congrArg some this
  refine ⟨.int .u8 b.toNat, ?_, by rfl⟩
  have h0 : (0 : Int) ≤ (j : Int) := by omega
  simp only [execOp, ho, Instr.index, Sem.run_bind, run_underlying ht, Result.andThen_ok, h1, h3, asIntOf, Sem.run_pure, h0, if_true, Int.toNat_natCast, hget]

/-- How the model's own bound relates to ours: absent both, or both this number. -/
def BoundIs (x : Option Value) (d n b : Nat) : Prop := (x = none ∧ n = d) ∨ (∃ k, x = some (.int k n) ∧ n ≤ b)

theorem BoundIs.self {x : Option Value} {d n b : Nat} (h : BoundIs x d n b) : BoundIs x d n n :=
  h.imp id fun ⟨k, h1, _⟩ => ⟨k, h1, Nat.le_refl _⟩

def mOpt : Option Operand → Option Opd → Bool
  | none, none => true
  | some y, some x => mOpd y x
  | _, _ => false

theorem boundOr_ok {x : Option Opd} {y : Option Operand} (r : Rel C.gl N w0 ω0 S E L a w ω β) (hm : mOpt y x = true) {d b n : Nat}
    (h : boundOr (x.map (·.val C E)) d b = some n) : BoundIs (y.map a.eval) d n b ∧ n ≤ b := by
  unfold boundOr at h
  cases x with
  | none => cases y with
    | none =>
      simp only [Option.map_none] at h
      cases hb : Nat.ble d b with
      | false => grind
      | true =>
        simp only [hb, cond_true, Option.some.injEq] at h
        subst h
        exact ⟨.inl ⟨rfl, rfl⟩, Nat.le_of_ble_eq_true hb⟩
    | some _ => simp [mOpt] at hm
  | some x => cases y with
    | none => simp [mOpt] at hm
    | some y =>
      simp only [Option.map_some] at h
      obtain ⟨k, h1, h2⟩ := natBelow_ok h (mOpd_ok r hm)
      exact ⟨.inr ⟨k, by grind, by omega⟩, by omega⟩

theorem sliceBound_run {k : IntKind} {n b : Nat} (h : n ≤ b) (c : BoundsCode) : (Instr.sliceBound (.int k n) b c).run P w = .ok n w := by
  grind [Instr.sliceBound, asIntOf, Sem.run_pure]

theorem sliceBounds_run {isS : Bool} {len cap : Nat} {lo hi mx : Option Value} {l h m b1 b2 b3 : Nat} (hmx : BoundIs mx cap m b1) (hb1 : b1 ≤ cap) (hhi : BoundIs hi len h b2) (hb2 : b2 ≤ m) (hlo : BoundIs lo 0 l b3) (hb3 : b3 ≤ h)
    (hno : mx.isSome = true → hi.isSome = true) : (Instr.sliceBounds isS len cap lo hi mx).run P w = .ok (l, h, m) w := by
  unfold Instr.sliceBounds
  rcases hmx with ⟨rfl, rfl⟩ | ⟨k1, rfl, hm⟩
  · rcases hhi with ⟨rfl, rfl⟩ | ⟨k2, rfl, hh⟩
    · rcases hlo with ⟨rfl, rfl⟩ | ⟨k3, rfl, hl⟩ <;> grind [Sem.run_bind, Sem.run_pure, Result.andThen_ok, sliceBound_run]
    · rcases hlo with ⟨rfl, rfl⟩ | ⟨k3, rfl, hl⟩ <;> grind [Sem.run_bind, Sem.run_pure, Result.andThen_ok, sliceBound_run]
  · rcases hhi with ⟨rfl, rfl⟩ | ⟨k2, rfl, hh⟩
    grind
    · rcases hlo with ⟨rfl, rfl⟩ | ⟨k3, rfl, hl⟩
      grind [Sem.run_bind, Sem.run_pure, Result.andThen_ok, sliceBound_run]
      · simp only [Sem.run_bind, Sem.run_pure, Result.andThen_ok, sliceBound_run (P := P) (w := w) (k := k1) (show m ≤ cap by omega), sliceBound_run (P := P) (w := w) (k := k2) (show h ≤ m by omega), sliceBound_run (P := P) (w := w) (k := k3) (show l ≤ h by omega)]

theorem gives_slS (r : Rel C.gl N w0 ω0 S E L a w ω β) {x : Operand} {x' : Opd} {t : TypeId} {lo hi : Option Operand} {lo' hi' : Option Opd} (ho : o.op = .slice t x lo hi none) (hx : mOpd x x' = true)
    (hlo : mOpt lo lo' = true) (hhi : mOpt hi hi' = true)
    (ht : P.underlying t = some .string) {s : List UInt8} (hs : x'.val C E = .sc (.c (.str s))) {l hh : Nat} (hh1 : boundOr (hi'.map (·.val C E)) s.length s.length = some hh) (hl1 : boundOr (lo'.map (·.val C E)) 0 hh = some l)
    (h : v = .sc (.c (.str ((s.take hh).drop l)))) : Gives P o a w ω β L v := by
  subst h
  have h1 := mOpd_ok r hx
  rw [hs] at h1
  simp only [RV, RV1, RW, RD] at h1
  obtain ⟨arr, h1, rfl⟩ := h1
  have hsz : arr.data.toList.length = arr.size := by rfl
  rw [hsz] at hh1
  obtain ⟨h2, h3⟩ := boundOr_ok r hhi hh1
  obtain ⟨h4, h5⟩ := boundOr_ok r hlo hl1
  have hb := sliceBounds_run (P := P) (w := w) (isS := false) (mx := none) (.inl ⟨rfl, rfl⟩) (Nat.le_refl _) h2 (Nat.le_refl arr.size) h4 (Nat.le_refl _) (by simp)
  refine ⟨.string (arr.extract l hh), ?_, ?_⟩
  · simp only [execOp, ho, Instr.sliceAt, Instr.slice, Sem.run_bind, run_underlying ht, Result.andThen_ok, h1, Option.map_none, Option.isSome_none, Bool.false_eq_true, if_false, hb, Sem.run_pure]
  · simp only [RV, RV1, RW, RD]
    refine ⟨_, rfl, ?_⟩
    simp [ByteArray.data_extract, List.drop_take]

theorem gives_mx (r : Rel C.gl N w0 ω0 S E L a w ω β) {x y : Operand} {x' y' : Opd} {ts : Array TypeId} {bi : Builtin} (hbi : bi = .max ∨ bi = .min) (ho : o.op = .call { callee := .builtin bi, args := #[x, y], argTypes := ts })
    (hx : mOpd x x' = true) (hy : mOpd y y' = true) {k j : IntKind} {m n : Int} (hm : x'.val C E = .sc (.c (.int k m))) (hn : y'.val C E = .sc (.c (.int j n)))
    (h : v = .sc (.c (.int k (if bi = .max then (if n > m then n else m) else (if n < m then n else m))))) : Gives P o a w ω β L v := by
  subst h
  have h1 := mOpd_ok r hx
  have h2 := mOpd_ok r hy
  rw [hm] at h1
  rw [hn] at h2
  simp only [RV, RV1, RW, RD] at h1 h2
  rcases hbi with rfl | rfl
  · exact ⟨_, by simp [execOp, ho, resolve, invoke, builtin, h1, h2, Builtin.max_, Builtin.max2]; rfl, by rfl⟩
  · exact ⟨_, by simp [execOp, ho, resolve, invoke, builtin, h1, h2, Builtin.min_, Builtin.min2]; rfl, by rfl⟩

/- lengths -/

theorem lenV_ok {x : V} {vv : Value} {n : Nat} (h : lenV L x = some n) (hr : RV w ω β L x vv) : (∃ s : ByteArray, vv = .string s ∧ s.size = n ∧ ∃ l, x = .sc (.c (.str l))) ∨ ∃ base cap, vv = .slice base n cap := by
  unfold lenV at h
  split at h
  · simp only [Option.some.injEq] at h
    subst h
    simp only [RV, RV1, RW, RD] at hr
    obtain ⟨arr, h1, rfl⟩ := hr
    simp_all
  grind [RV, RV1, RW, RD]
  grind [RV, RV1, RW]
  grind [RV, RV1, RW]
  grind [RV, RV1, RW, RD]
  · rename_i k m
    split at h
    · rename_i s rows p hL
      cases hb : (rows.length == m) with
      | false => grind
      | true =>
        simp only [hb, cond_true, Option.some.injEq] at h
        subst h
        simp only [RV, RV1, RW] at hr
        obtain ⟨s', rows', p', h1, h2, _, h3⟩ := hr
        rw [hL] at h1
        cases h1
        have e : m = rows.length := (by grind : rows.length = m).symm
        rcases h3 e with ⟨b, cap, cur, t, _, h4, _⟩ | ⟨_, h4, base, h5⟩ <;> grind
    grind
  · rename_i k M lo m
    split at h
    · rename_i s rows p hL
      cases hb : (rows.length == M) with
      | false => grind
      | true =>
        simp only [hb, cond_true] at h
        cases hc : cut rows lo m with
        | none => grind
        | some q =>
          simp only [hc, Option.map_some, Option.some.injEq] at h
          subst h
          simp only [RV, RV1, RW] at hr
          obtain ⟨s', rows', p', h1, h2, _, h3⟩ := hr
          rw [hL] at h1
          cases h1
          have e : M = rows.length := (by grind : rows.length = M).symm
          have hle : lo + m ≤ M := by
            grind [cut, Nat.le_of_ble_eq_true]
          rcases h3 e hle with ⟨h4, base, cap, h5, _⟩ | ⟨b, cap, cur, t, _, h4, _⟩ <;> grind
    grind
  grind

theorem gives_len (r : Rel C.gl N w0 ω0 S E L a w ω β) {x : Operand} {x' : Opd} {t : TypeId} (ho : o.op = .call { callee := .builtin .len, args := #[x], argTypes := #[t] }) (hx : mOpd x x' = true) {tag : Bool}
    (ht : (match P.underlying t, tag with | some .string, true => true | some (.slice _), false => true | _, _ => false) = true)
    (htag : isStr (x'.val C E) = tag) {n : Nat} (hn : lenV L (x'.val C E) = some n) (h : v = .sc (.c (.int .i64 n))) : Gives P o a w ω β L v := by
  subst h
  refine ⟨.int .i64 n, ?_, by rfl⟩
  rcases lenV_ok hn (mOpd_ok r hx) with ⟨s, h1, h2, l, h3⟩ | ⟨base, cap, h1⟩
  · rw [h3] at htag
    simp only [isStr] at htag
    subst htag
    cases hu : P.underlying t with
    | none => grind
    | some d =>
      rw [hu] at ht
      cases d <;> first | (simp at ht; done) | skip
      simp [execOp, ho, resolve, invoke, builtin, Builtin.len_, run_underlying hu, h1, h2, goInt]
  · have htag' : tag = false := by
      have h4 := mOpd_ok r hx
      cases tag with
      | false => rfl
      | true =>
        unfold isStr at htag
        grind [RV, RV1, RW, RD]
    subst htag'
    cases hu : P.underlying t with
    | none => grind
    | some d =>
      rw [hu] at ht
      cases d <;> first | (simp at ht; done) | skip
      simp [execOp, ho, resolve, invoke, builtin, Builtin.len_, run_underlying hu, h1, goInt]

end
end Go.Vs

/- The value semantics, 9: elements and parts of slices, loads, struct values, closures. -/
namespace Go.Vs
open Go

theorem rowCells {w : World} {ω : Nat → Nat} {β : Nat → Option Nat} {L : Nat → Option Obj} {s : Nat} : ∀ {rows : List (List W)} {vs : List Value} {j : Nat} {row : List W}, (∀ r ∈ rows, r.length = s) → rows[j]? = some row →
    RWlist w ω β L rows.flatten vs → RWlist w ω β L row ((vs.drop (j * s)).take s)
  | [], _, _, _, _, h, _ => by grind
  | r :: rs, vs, j, row, hs, hj, h => by
    have hr : r.length = s := hs r (by simp)
    cases j with
    | zero =>
      simp at hj
      subst hj
      have := h.take s
      grind
    | succ j =>
      have h2 := h.drop s
      simp only [List.flatten_cons, ← hr, List.drop_left'] at h2
      have := rowCells (fun r hr => hs r (by grind)) (by simpa using hj) h2
      grind [List.drop_drop]

section
variable {P : Program} {C : Ctx} {N : Nat} {w0 : World} {ω0 : Nat → Nat} {S : Fr} {E : Nat → Option V} {L : Nat → Option Obj} {a : Act} {w : World} {ω : Nat → Nat} {β : Nat → Option Nat}
variable {o : Oper} {v : V}

theorem indexAt_run {t e : TypeId} {i : TypeInfo} {b off len cap j : Nat} {k : IntKind} (ht : P.underlying t = some (.slice e)) (hi : P.info? e = some i) (hj : j < len) :
    (Instr.indexAt t (.slice (some ⟨b, off, none⟩) len cap) (.int k j)).run P w = .ok (.pointer (some ⟨b, off + j * i.size, none⟩)) w := by
  have h5 : (0 : Int) ≤ (j : Int) ∧ (j : Int) < (len : Int) := ⟨by omega, by omega⟩
  unfold Instr.indexAt
  simp only [Sem.run_bind, run_underlying ht, Result.andThen_ok, asIntOf, Sem.run_pure, h5, and_self, if_true, run_sizeOf' hi, addr_add, Int.toNat_natCast]

theorem gives_idxA (r : Rel C.gl N w0 ω0 S E L a w ω β) {x y : Operand} {x' y' : Opd} {t e : TypeId} {i : TypeInfo} (ho : o.op = .indexAddr t x y) (hx : mOpd x x' = true) (hy : mOpd y y' = true)
    (ht : P.underlying t = some (.slice e)) (hi : P.info? e = some i) {u : Upd}
    (h : exec1 C E L 0 (.idxA i.size x' y') = some (v, u)) : u = [] ∧ Gives P o a w ω β L v := by
  have h1 := mOpd_ok r hx
  have h2 := mOpd_ok r hy
  have pub : ∀ rows : List (List Cell), RD w ω (.sl rows) (a.eval x) → ∀ j row, natBelow (y'.val C E) rows.length = some j → rows[j]? = some row → row.length = i.size → Gives P o a w ω β L (.sc (.c (.ro row 0))) := by
    intro rows hr j row hj hrow hlen
    obtain ⟨k, h3, h4⟩ := natBelow_ok hj h2
    simp only [RD] at hr
    obtain ⟨base, cap, h5, h6, h7, h8⟩ := hr
    rcases h8 with h8 | ⟨b, off, s, rfl, h9, h10⟩
    grind
    · obtain ⟨h11, h12⟩ := h10.get hrow
      have hs : s = i.size := by omega
      subst hs
      refine ⟨.pointer (some ⟨b, off + j * i.size, none⟩), ?_, ?_⟩
      · simp only [execOp, ho, h5, h3, Sem.run_bind, indexAt_run ht hi h4, Result.andThen_ok, Sem.run_pure]
      · simp only [RV, RV1, RW, RD]
        exact ⟨b, _, rfl, h12⟩
  simp only [exec1] at h
  split at h
  · rename_i rows hv
    rw [hv] at h1
    cases hj : natBelow (y'.val C E) rows.length with
    | none => simp [hj] at h
    | some j =>
      simp only [hj] at h
      cases hrow : rows[j]? with
      | none => simp [hrow] at h
      | some row =>
        simp only [hrow] at h
        cases hl : (row.length == i.size) with
        | false => simp [hl] at h
        | true =>
          simp only [hl, cond_true, Option.some.injEq, Prod.mk.injEq] at h
          obtain ⟨rfl, rfl⟩ := h
          exact ⟨rfl, pub rows (by simpa only [RV, RV1, RW] using h1) j row hj hrow (by simpa using hl)⟩
  grind [RV, RV1, RW]
  · rename_i k n hv
    rw [hv] at h1
    split at h
    · rename_i s rows p hL
      cases hb : (rows.length == n && s == i.size) with
      | false => grind
      | true =>
        simp only [hb, cond_true] at h
        simp only [Bool.and_eq_true, beq_iff_eq] at hb
        obtain ⟨hn, rfl⟩ := hb
        cases hj : natBelow (y'.val C E) n with
        | none => grind
        | some j =>
          simp only [hj, Option.map_some, Option.some.injEq, Prod.mk.injEq] at h
          obtain ⟨rfl, rfl⟩ := h
          refine ⟨rfl, ?_⟩
          obtain ⟨kk, h3, h4⟩ := natBelow_ok hj h2
          simp only [RV, RV1, RW] at h1
          obtain ⟨s', rows', p', h5, h6, _, h7⟩ := h1
          rw [hL] at h5
          cases h5
          rcases h7 hn.symm with ⟨b, cap, cur, t', h8, h9, h10, h11⟩ | ⟨_, h9, _⟩
          · refine ⟨.pointer (some ⟨b, 0 + j * i.size, none⟩), ?_, ?_⟩
            · simp only [execOp, ho, h9, h3, Sem.run_bind, indexAt_run ht hi h4, Result.andThen_ok, Sem.run_pure]
            · simp only [RV, RV1, RW]
              exact ⟨i.size, rows, p, hL, h6, ⟨_, rfl⟩, fun _ _ => ⟨b, h8, by simp⟩⟩
          omega
    grind
  · rename_i k M lo n hv
    rw [hv] at h1
    split at h
    · rename_i s rows p hL
      cases hb : (rows.length == M && Nat.ble (lo + n) M && s == i.size) with
      | false => grind
      | true =>
        simp only [hb, cond_true] at h
        simp only [Bool.and_eq_true, beq_iff_eq] at hb
        obtain ⟨⟨hn, hle⟩, rfl⟩ := hb
        have hle := Nat.le_of_ble_eq_true hle
        cases hj : natBelow (y'.val C E) n with
        | none => grind
        | some j =>
          simp only [hj, Option.map_some, Option.some.injEq, Prod.mk.injEq] at h
          obtain ⟨rfl, rfl⟩ := h
          refine ⟨rfl, ?_⟩
          obtain ⟨kk, h3, h4⟩ := natBelow_ok hj h2
          simp only [RV, RV1, RW] at h1
          obtain ⟨s', rows', p', h5, h6, _, h7⟩ := h1
          rw [hL] at h5
          cases h5
          rcases h7 hn.symm hle with ⟨h8, _⟩ | ⟨b, cap, cur, t', h8, h9, h10, h11, h12⟩
          omega
          · refine ⟨.pointer (some ⟨b, lo * i.size + j * i.size, none⟩), ?_, ?_⟩
            grind [execOp, Sem.run_bind, indexAt_run, Result.andThen_ok, Sem.run_pure]
            · simp only [RV, RV1, RW]
              exact ⟨i.size, rows, p, hL, h6, ⟨_, rfl⟩, fun _ _ => ⟨b, h8, by grind⟩⟩
    grind
  grind

/-- The model's slice of a slice. -/
theorem sliceAt_run {t e : TypeId} {i : TypeInfo} {base : Option Addr} {len cap : Nat} {lo hi mx : Option Value} {l h m : Nat} (ht : P.underlying t = some (.slice e)) (hi' : P.info? e = some i)
    (hb : (Instr.sliceBounds true len cap lo hi mx).run P w = .ok (l, h, m) w) :
    (Instr.sliceAt t (.slice base len cap) lo hi mx).run P w = .ok (.slice (if m = l then base else base.map (·.add (l * i.size))) (h - l) (m - l)) w := by
  simp only [Instr.sliceAt, Instr.slice, Sem.run_bind, run_underlying ht, Result.andThen_ok, hb, run_sizeOf' hi', Sem.run_pure]

theorem rowsFit_ok {rows : List (List Cell)} {s s' b off : Nat} (h : rowsFit s rows = true) (hr : RDrows w ω b s' off rows) (hne : rows ≠ []) : s' = s := by
  cases rows with
  | nil => exact absurd rfl hne
  | cons r rs =>
    simp only [rowsFit, beq_iff_eq] at h
    simp only [RDrows] at hr
    omega

/-- What a part of a published slice is. -/
theorem RD.part {rows : List (List Cell)} {s : Nat} {base : Option Addr} {len cap l h m : Nat} (hr : RD w ω (.sl rows) (.slice base len cap)) (hf : rowsFit s rows = true) (hl : l ≤ h) (hh : h ≤ rows.length) (hm : h ≤ m) (hmc : m ≤ cap) :
    RD w ω (.sl ((rows.take h).drop l)) (.slice (if m = l then base else base.map (·.add (l * s))) (h - l) (m - l)) := by
  simp only [RD] at hr ⊢
  obtain ⟨base', cap', h1, h2, h3, h4⟩ := hr
  simp only [Value.slice.injEq] at h1
  obtain ⟨rfl, rfl, rfl⟩ := h1
  have hlen : ((rows.take h).drop l).length = h - l := by grind
  refine ⟨_, m - l, by rw [hlen], by omega, by omega, ?_⟩
  by_cases hz : h = l
  grind
  · rcases h4 with h4 | ⟨b, off, s', rfl, h5, h6⟩
    grind
    · right
      have hne : rows ≠ [] := by grind
      have := rowsFit_ok hf h6 hne
      subst this
      refine ⟨b, off + l * s', s', ?_, h5, (h6.take h).drop l⟩
      grind [addr_add]

theorem gives_sl (r : Rel C.gl N w0 ω0 S E L a w ω β) {x : Operand} {x' : Opd} {t e : TypeId} {i : TypeInfo} {lo hi mx : Option Operand} {lo' hi' mx' : Option Opd} (ho : o.op = .slice t x lo hi mx) (hx : mOpd x x' = true)
    (hlo : mOpt lo lo' = true) (hhi : mOpt hi hi' = true) (hmx : mOpt mx mx' = true) (hno : mx.isSome = true → hi.isSome = true)
    (ht : P.underlying t = some (.slice e)) (hi0 : P.info? e = some i) {u : Upd}
    (h : exec1 C E L 0 (.sl i.size x' lo' hi' mx') = some (v, u)) : u = [] ∧ Gives P o a w ω β L v := by
  have h1 := mOpd_ok r hx
  have hno' : (mx.map a.eval).isSome = true → (hi.map a.eval).isSome = true := by grind
  have run : ∀ base len cap l h m, a.eval x = .slice base len cap → (Instr.sliceBounds true len cap (lo.map a.eval) (hi.map a.eval) (mx.map a.eval)).run P w = .ok (l, h, m) w →
      (execOp a.eval o).run P w = .ok (.value (.slice (if m = l then base else base.map (·.add (l * i.size))) (h - l) (m - l))) w := by
    intro base len cap l h m he hb
    simp only [execOp, ho, he, Sem.run_bind, sliceAt_run ht hi0 hb, Result.andThen_ok, Sem.run_pure]
  have pub : ∀ rows : List (List Cell), RD w ω (.sl rows) (a.eval x) → ∀ m h l, boundOr (mx'.map (·.val C E)) rows.length rows.length = some m → boundOr (hi'.map (·.val C E)) rows.length m = some h → boundOr (lo'.map (·.val C E)) 0 h = some l →
      rowsFit i.size rows = true → ∃ vv, (execOp a.eval o).run P w = .ok (.value vv) w ∧ RD w ω (.sl ((rows.take h).drop l)) vv ∧
        ((mx'.isSome = true ∨ ∃ base, a.eval x = .slice base rows.length rows.length) → m = h → ∃ base n, vv = .slice base n n) := by
    intro rows hr m h l hm hh hl hf
    obtain ⟨b1, b2⟩ := boundOr_ok r hmx hm
    obtain ⟨b3, b4⟩ := boundOr_ok r hhi hh
    obtain ⟨b5, b6⟩ := boundOr_ok r hlo hl
    have hr' := hr
    simp only [RD] at hr'
    obtain ⟨base, cap, h5, h6, h7, _⟩ := hr'
    rcases b1 with ⟨e1, e2⟩ | ⟨k1, e1, e2⟩
    · have hb := sliceBounds_run (P := P) (w := w) (isS := true) (len := rows.length) (cap := cap) (l := l) (h := h) (m := cap) (.inl ⟨e1, rfl⟩) (Nat.le_refl _) b3 (by omega) b5 (Nat.le_refl _) hno'
      refine ⟨_, run _ _ _ _ _ _ h5 hb, ?_, ?_⟩
      · rw [h5] at hr
        exact hr.part hf b6 (by omega) (by omega) (Nat.le_refl _)
      · rintro (hs | ⟨base', hs⟩) hmh
        · cases mx <;> grind [mOpt]
        grind
    · have hb := sliceBounds_run (P := P) (w := w) (isS := true) (len := rows.length) (cap := cap) (l := l) (h := h) (m := m) (.inr ⟨k1, e1, e2⟩) (by omega) b3 (Nat.le_refl _) b5 (Nat.le_refl _) hno'
      refine ⟨_, run _ _ _ _ _ _ h5 hb, ?_, ?_⟩
      · rw [h5] at hr
        exact hr.part hf b6 (by omega) b4 (by omega)
      grind
  simp only [exec1] at h
  unfold slice1 at h
  split at h
  · rename_i hv
    rw [hv] at h1
    simp only [RV, RV1, RW] at h1
    split at h
    · rename_i m hh l hm hhh hl
      simp only [Option.some.injEq, Prod.mk.injEq] at h
      obtain ⟨rfl, rfl⟩ := h
      obtain ⟨b1, b2⟩ := boundOr_ok r hmx hm
      obtain ⟨b3, b4⟩ := boundOr_ok r hhi hhh
      obtain ⟨b5, b6⟩ := boundOr_ok r hlo hl
      have em : m = 0 := by omega
      have eh : hh = 0 := by omega
      have el : l = 0 := by omega
      subst em eh el
      have hb := sliceBounds_run (P := P) (w := w) (isS := true) (len := 0) (cap := 0) (l := 0) (h := 0) (m := 0) b1 (Nat.le_refl _) b3 (Nat.le_refl _) b5 (Nat.le_refl _) hno'
      exact ⟨rfl, _, run _ _ _ _ _ _ h1 hb, by rfl⟩
    grind
  · rename_i rows hv
    rw [hv] at h1
    simp only [RV, RV1, RW] at h1
    split at h
    grind
    · rename_i m hm
      split at h
      grind
      · rename_i hh hhh
        split at h
        grind
        · rename_i l hl
          cases hf : rowsFit i.size rows with
          | false => grind
          | true =>
            simp only [hf, cond_true] at h
            obtain ⟨vv, h2, h3, h4⟩ := pub rows h1 m hh l hm hhh hl hf
            cases hq : ((mx'.map (·.val C E)).isSome && m == hh) with
            | false =>
              simp only [hq, cond_false, Option.some.injEq, Prod.mk.injEq] at h
              obtain ⟨rfl, rfl⟩ := h
              exact ⟨rfl, vv, h2, h3⟩
            | true =>
              simp only [hq, cond_true, Option.some.injEq, Prod.mk.injEq] at h
              obtain ⟨rfl, rfl⟩ := h
              simp only [Bool.and_eq_true, Option.isSome_map, beq_iff_eq] at hq
              exact ⟨rfl, vv, h2, by grind [RV, RV1, RW]⟩
  · rename_i rows hv
    rw [hv] at h1
    simp only [RV, RV1, RW] at h1
    obtain ⟨h1, base, n, hfull⟩ := h1
    split at h
    grind
    · rename_i m hm
      split at h
      grind
      · rename_i hh hhh
        split at h
        grind
        · rename_i l hl
          cases hf : rowsFit i.size rows with
          | false => grind
          | true =>
            simp only [hf, cond_true] at h
            obtain ⟨vv, h2, h3, h4⟩ := pub rows h1 m hh l hm hhh hl hf
            cases hq : (m == hh) with
            | false =>
              simp only [hq, cond_false, Option.some.injEq, Prod.mk.injEq] at h
              obtain ⟨rfl, rfl⟩ := h
              exact ⟨rfl, vv, h2, h3⟩
            | true =>
              simp only [hq, cond_true, Option.some.injEq, Prod.mk.injEq] at h
              obtain ⟨rfl, rfl⟩ := h
              have hn : n = rows.length := by
                grind [RD]
              subst hn
              exact ⟨rfl, vv, h2, by grind [RV, RV1, RW]⟩
  · rename_i k n hv
    rw [hv] at h1
    split at h
    · rename_i s rows p hL
      split at h
      grind
      · rename_i hh hhh
        split at h
        grind
        · rename_i l hl
          cases hb : (rows.length == n && s == i.size) with
          | false => grind
          | true =>
            simp only [hb, cond_true] at h
            simp only [Bool.and_eq_true, beq_iff_eq] at hb
            obtain ⟨hn, rfl⟩ := hb
            obtain ⟨b3, b4⟩ := boundOr_ok r hhi hhh
            obtain ⟨b5, b6⟩ := boundOr_ok r hlo hl
            simp only [RV, RV1, RW] at h1
            obtain ⟨s', rows', p', h5, h6, _, h7⟩ := h1
            rw [hL] at h5
            cases h5
            have hobj := r.obj k _ hL
            obtain ⟨hs0, _, _, hok⟩ := hobj
            cases hmm : mx' with
            | none =>
              have hmx0 : mx = none := by cases mx with
                | none => rfl
                | some _ => simp [hmm, mOpt] at hmx
              simp only [hmm, Option.map_none, Option.some.injEq, Prod.mk.injEq] at h
              obtain ⟨rfl, rfl⟩ := h
              refine ⟨rfl, ?_⟩
              rcases h7 hn.symm with ⟨b, cap, cur, t', h8, h9, h10, h11⟩ | ⟨h8, h9, base, h10⟩
              · obtain ⟨hcap1, hcap2⟩ : rows.length ≤ cap ∧ cap ≤ maxRows := by
                  grind [Nat.eq_of_mul_eq_mul_right]
                have hb := sliceBounds_run (P := P) (w := w) (isS := true) (len := n) (cap := cap) (l := l) (h := hh) (m := cap) (mx := mx.map a.eval) (.inl ⟨by grind, rfl⟩) (Nat.le_refl _) b3 (by omega) b5 (Nat.le_refl _) hno'
                refine ⟨_, run _ _ _ _ _ _ h9 hb, ?_⟩
                simp only [RV, RV1, RW]
                refine ⟨i.size, rows, p, hL, by omega, ⟨_, _, _, rfl⟩, fun _ _ => ?_⟩
                by_cases hz : hh = l ∧ l ≠ 0
                · left; exact ⟨by omega, fun e => absurd e hz.2, _, cap - l, by rw [show hh - l = 0 from by omega], by omega⟩
                · right
                  refine ⟨b, cap - l, cur, t', h8, ?_, by omega, by omega, h10, ?_, fun e => .inl ?_⟩ <;> grind [addr_add]
              · subst h9
                have el : l = 0 := by omega
                have eh : hh = 0 := by omega
                subst el eh
                have hb := sliceBounds_run (P := P) (w := w) (isS := true) (len := 0) (cap := 0) (l := 0) (h := 0) (m := 0) (mx := mx.map a.eval) (.inl ⟨by grind, rfl⟩) (Nat.le_refl _) b3 (by omega) b5 (Nat.le_refl _) hno'
                refine ⟨_, run _ _ _ _ _ _ h10 hb, ?_⟩
                simp only [RV, RV1, RW]
                exact ⟨i.size, rows, p, hL, by omega, ⟨_, _, _, rfl⟩, fun _ _ => .inl ⟨rfl, fun _ => ⟨h8, _, rfl⟩, _, 0, rfl, by decide⟩⟩
            | some mm =>
              simp only [hmm, Option.map_some] at h
              split at h
              · rename_i m hm
                cases hq : (m == hh && l == hh) with
                | false => grind
                | true =>
                  simp only [hq, cond_true, Option.some.injEq, Prod.mk.injEq] at h
                  obtain ⟨rfl, rfl⟩ := h
                  simp only [Bool.and_eq_true, beq_iff_eq] at hq
                  obtain ⟨e3, e4⟩ := hq
                  refine ⟨rfl, ?_⟩
                  cases mx with
                  | none => simp [hmm, mOpt] at hmx
                  | some m0 =>
                    obtain ⟨kk, e1, e2⟩ := natBelow_ok hm (mOpd_ok r (by simpa [hmm, mOpt] using hmx))
                    obtain ⟨base, cap, he, hcap⟩ : ∃ base cap, a.eval x = .slice base n cap ∧ n ≤ cap := by
                      rcases h7 hn.symm with ⟨b, cap, cur, t', h8, h9, h10, h11⟩ | ⟨h8, h9, base, h10⟩ <;> grind [Nat.eq_of_mul_eq_mul_right]
                    have hb := sliceBounds_run (P := P) (w := w) (isS := true) (len := n) (cap := cap) (l := l) (h := hh) (m := m) (.inr ⟨kk, by grind, (by omega : m ≤ n)⟩) hcap b3.self (by omega) b5 (Nat.le_refl _) hno'
                    refine ⟨_, run _ _ _ _ _ _ he hb, ?_⟩
                    rw [show hh - l = 0 from by omega, show m - l = 0 from by omega]
                    grind [RV, RV1, RW, RD]
              grind
    grind
  · rename_i k M lo0 n hv
    rw [hv] at h1
    split at h
    · rename_i s rows p hL
      split at h
      grind
      · rename_i hh hhh
        split at h
        grind
        · rename_i l hl
          cases hb : (rows.length == M && Nat.ble (lo0 + n) M && s == i.size && (mx'.map (·.val C E)).isNone) with
          | false => grind
          | true =>
            rw [hb] at h
            simp only [cond_true, Option.some.injEq, Prod.mk.injEq] at h
            obtain ⟨rfl, rfl⟩ := h
            simp only [Bool.and_eq_true, beq_iff_eq, Option.isNone_map] at hb
            obtain ⟨⟨⟨hn, hle⟩, rfl⟩, hnone⟩ := hb
            have hle := Nat.le_of_ble_eq_true hle
            have hmx0 : mx = none := by cases mx with
              | none => rfl
              | some _ => cases mx' <;> grind [mOpt]
            obtain ⟨b3, b4⟩ := boundOr_ok r hhi hhh
            obtain ⟨b5, b6⟩ := boundOr_ok r hlo hl
            simp only [RV, RV1, RW] at h1
            obtain ⟨s', rows', p', h5, h6, _, h7⟩ := h1
            rw [hL] at h5
            cases h5
            refine ⟨rfl, ?_⟩
            rcases h7 hn.symm hle with ⟨h8, h14, base, cap, h9, h10⟩ | ⟨b, cap, cur, t', h8, h9, h10, h11, h12, h13, h14⟩
            · subst h8
              have el : l = 0 := by omega
              have eh : hh = 0 := by omega
              subst el eh
              have hb := sliceBounds_run (P := P) (w := w) (isS := true) (len := 0) (cap := cap) (l := 0) (h := 0) (m := cap) (mx := mx.map a.eval) (.inl ⟨by grind, rfl⟩) (Nat.le_refl _) b3 (by omega) b5 (Nat.le_refl _) hno'
              refine ⟨_, run _ _ _ _ _ _ h9 hb, ?_⟩
              simp only [RV, RV1, RW]
              exact ⟨i.size, rows, p, hL, by omega, ⟨_, _, _, rfl⟩, fun _ _ => .inl ⟨rfl, fun e => ⟨(h14 (by omega)).1, by obtain ⟨_, q⟩ := (h14 (by omega)).2; rw [h9] at q; injection q with _ _ q; exact ⟨_, congrArg (Value.slice _ 0) (by omega)⟩⟩, _, cap, rfl, h10⟩⟩
            · have hb := sliceBounds_run (P := P) (w := w) (isS := true) (len := n) (cap := cap) (l := l) (h := hh) (m := cap) (mx := mx.map a.eval) (.inl ⟨by grind, rfl⟩) (Nat.le_refl _) b3 (by omega) b5 (Nat.le_refl _) hno'
              refine ⟨_, run _ _ _ _ _ _ h9 hb, ?_⟩
              simp only [RV, RV1, RW]
              refine ⟨i.size, rows, p, hL, by omega, ⟨_, _, _, rfl⟩, fun _ _ => ?_⟩
              by_cases hz : hh = l ∧ lo0 + l ≠ 0
              · left; exact ⟨by omega, fun e => absurd e hz.2, _, cap - l, by rw [show hh - l = 0 from by omega], by omega⟩
              · right
                refine ⟨b, cap - l, cur, t', h8, ?_, by omega, by omega, h12, ?_, fun e => ?_⟩ <;> grind [addr_add]
    grind
  grind

/-- Loads out of a block. -/
theorem load_key (r : Rel C.gl N w0 ω0 S E L a w ω β) {x : Operand} {x' : Opd} {t : TypeId} {i : TypeInfo} (hx : mOpd x x' = true)
    (hu : (P.underlying t).isSome = true) (hi : P.info? t = some i) {u : Upd}
    (h : exec1 C E L 0 (.load (isAggB P t) i.size x') = some (v, u)) : u = [] ∧ ∃ b off vv, a.eval x = .pointer (some ⟨b, off, none⟩) ∧ (loadVar t ⟨b, off, none⟩).run P w = .ok vv w ∧ RV w ω β L v vv := by
  have h1 := mOpd_ok r hx
  have key : ∀ (b off : Nat) (cs : List W) (vs : List Value), a.eval x = .pointer (some ⟨b, off, none⟩) → RWlist w ω β L cs vs → vs.length = i.size → asV (isAggB P t) cs = some v →
      (∀ j v, vs[j]? = some v → at? w b (off + j) = some v) → ∃ b off vv, a.eval x = .pointer (some ⟨b, off, none⟩) ∧ (loadVar t ⟨b, off, none⟩).run P w = .ok vv w ∧ RV w ω β L v vv := by
    intro b off cs vs he hr hl hv hat
    have hl' := hr.length
    have hag : isAggB P t = true ∨ vs.length = 1 := by
      cases hb : isAggB P t with
      | true => simp
      | false =>
        right
        unfold asV at hv
        simp only [hb, cond_false] at hv
        split at hv
        · simpa using hl'.symm
        · cases hv
    refine ⟨b, off, packV (isAggB P t) vs, he, run_loadVar hu hi hl hag hat, ?_⟩
    unfold asV at hv
    cases hb : isAggB P t with
    | true =>
      simp only [hb, cond_true, Option.some.injEq] at hv
      subst hv
      simp only [packV, if_true]
      exact ⟨_, rfl, hr⟩
    | false =>
      simp only [hb, cond_false] at hv
      split at hv
      · simp only [Option.some.injEq] at hv
        subst hv
        cases vs with
        | nil => grind
        | cons y ys =>
          simp only [RWlist] at hr
          simp only [packV, Bool.false_eq_true, if_false, List.headD_cons]
          exact hr.1
      grind
  simp only [exec1] at h
  split at h
  · rename_i k off hv
    rw [hv] at h1
    simp only [RV, RV1, RW] at h1
    obtain ⟨cells, b, h2, h3, h4⟩ := h1
    rw [h2] at h
    simp only at h
    cases hc : cut cells off i.size with
    | none => simp [hc] at h
    | some cs =>
      simp only [hc] at h
      cases hav : asV (isAggB P t) cs with
      | none => grind
      | some v' =>
        simp only [hav, Option.map_some, Option.some.injEq, Prod.mk.injEq] at h
        obtain ⟨rfl, rfl⟩ := h
        refine ⟨rfl, ?_⟩
        obtain ⟨b', cur, t', g1, g2, g3, _⟩ := r.obj k _ h2
        rw [h3] at g1
        cases g1
        obtain ⟨g5, g6⟩ := g3.cut hc
        grind [at?_block]
  · rename_i k M j off hv
    rw [hv] at h1
    split at h
    · rename_i s rows p hL
      cases hb : (rows.length == M) with
      | false => grind
      | true =>
        simp only [hb, cond_true] at h
        cases hrow : rows[j]? with
        | none => simp [hrow] at h
        | some row =>
          simp only [hrow] at h
          cases hc : cut row off i.size with
          | none => simp [hc] at h
          | some cs =>
            simp only [hc] at h
            cases hav : asV (isAggB P t) cs with
            | none => grind
            | some v' =>
              simp only [hav, Option.map_some, Option.some.injEq, Prod.mk.injEq] at h
              obtain ⟨rfl, rfl⟩ := h
              refine ⟨rfl, ?_⟩
              have hM : rows.length = M := by grind
              have hj : j < rows.length := (List.getElem?_eq_some_iff.1 hrow).1
              simp only [RV, RV1, RW] at h1
              obtain ⟨s', rows', p', e1, e2, _, e3⟩ := h1
              rw [hL] at e1
              cases e1
              obtain ⟨b, e4, e5⟩ := e3 hM.symm (by omega)
              obtain ⟨hs0, hrows, _, hok⟩ := r.obj k _ hL
              rcases hok with ⟨b', cap, cur, t', g1, g2, g3, g4, g5, g6, _⟩ | ⟨g1, _⟩
              · rw [e4] at g1
                cases g1
                -- the row's cells
                have hflat := rowCells (w := w) (ω := ω) (β := β) (L := L) hrows hrow g6
                obtain ⟨g7, g8⟩ := hflat.cut hc
                refine key b _ cs _ e5 g7 ?_ hav ?_ <;> grind [at?_block]
              grind
    grind
  · rename_i row off hv
    rw [hv] at h1
    simp only [RV, RV1, RW, RD] at h1
    obtain ⟨b, o', h2, h3⟩ := h1
    cases hc : cut row off i.size with
    | none => grind
    | some cs =>
      simp only [hc] at h
      cases hav : asV (isAggB P t) (cs.map W.c) with
      | none => grind
      | some v' =>
        simp only [hav, Option.map_some, Option.some.injEq, Prod.mk.injEq] at h
        obtain ⟨rfl, rfl⟩ := h
        refine ⟨rfl, ?_⟩
        obtain ⟨vs, g1, g2⟩ := (h3.cut hc).list
        refine key b _ _ vs h2 (RDlist.to g1) ?_ hav ?_
        · rw [← g1.length]
          unfold cut at hc
          cases hb : Nat.ble (off + i.size) row.length with
          | false => grind
          | true =>
            simp only [hb, cond_true, Option.some.injEq] at hc
            subst hc
            have := Nat.le_of_ble_eq_true hb
            grind
        grind
  grind

theorem gives_load (r : Rel C.gl N w0 ω0 S E L a w ω β) {x : Operand} {x' : Opd} {t : TypeId} {i : TypeInfo} (ho : o.op = .load t x) (hx : mOpd x x' = true)
    (hu : (P.underlying t).isSome = true) (hi : P.info? t = some i) {u : Upd}
    (h : exec1 C E L 0 (.load (isAggB P t) i.size x') = some (v, u)) : u = [] ∧ Gives P o a w ω β L v := by
  obtain ⟨h0, b, off, vv, he, hrun, hv⟩ := load_key r hx hu hi h
  refine ⟨h0, vv, ?_, hv⟩
  simp only [execOp, ho, he, Instr.loadAt, Sem.run_bind, sureAddr_run, Result.andThen_ok, hrun, Sem.run_pure]

end
end Go.Vs

/- The value semantics, 10: struct values, closures; new objects, writes. -/
namespace Go.Vs
open Go

section
variable {P : Program} {C : Ctx} {N : Nat} {w0 : World} {ω0 : Nat → Nat} {S : Fr} {E : Nat → Option V} {L : Nat → Option Obj} {a : Act} {w : World} {ω : Nat → Nat} {β : Nat → Option Nat}
variable {o : Oper} {v : V}

theorem Tr.refl (k : Nat) : Tr w β w β L L k := by
  grind [Tr]

theorem get?_mem {α : Type} {l : List (Nat × α)} {k : Nat} {x : α} (h : get? l k = some x) : (k, x) ∈ l := by
  induction l <;> grind [get?]

theorem ownW_gt {oid : Nat} {own : List (Nat × Nat)} : ∀ (cells : List W) (j : Nat), ∀ x ∈ (ownW oid own j cells).2, oid + j < x.1
  | [], _, x, hx => by simp [ownW] at hx
  | c :: cs, j, x, hx => by
    simp only [ownW] at hx
    split at hx
    · simp only [List.mem_cons] at hx
      rcases hx with rfl | hx
      simp
      · have := ownW_gt cs (j + 1) x hx; omega
    · simp only [List.mem_cons] at hx
      rcases hx with rfl | hx
      simp
      · have := ownW_gt cs (j + 1) x hx; omega
    · have := ownW_gt cs (j + 1) x hx; omega

/- struct values -/

theorem foldl_set (off : Nat) : ∀ (xs : List Value) (j : Nat) (cs : Array Value), off + j + xs.length ≤ cs.size →
    ((xs.zipIdx j).foldl (fun cs (x : Value × Nat) => cs.setIfInBounds (off + x.2) x.1) cs).toList = cs.toList.take (off + j) ++ xs ++ cs.toList.drop (off + j + xs.length)
  | [], j, cs, _ => by simp
  | x :: xs, j, cs, h => by
    simp only [List.zipIdx_cons, List.foldl_cons]
    rw [foldl_set off xs (j + 1) (cs.setIfInBounds (off + j) x) (by grind)]
    grind [list_seg_step]

theorem foldl_set' (off : Nat) (xs cs : Array Value) (h : off + xs.size ≤ cs.size) :
    (xs.zipIdx.foldl (fun cs (x : Value × Nat) => cs.setIfInBounds (off + x.2) x.1) cs).toList = cs.toList.take off ++ xs.toList ++ cs.toList.drop (off + xs.size) := by
  rw [← Array.foldl_toList, Array.toList_zipIdx]
  simpa using foldl_set off xs.toList 0 cs (by omega)

def mParts (place : Nat → Option (Nat × Nat)) : List (Nat × Operand) → List (Nat × Nat × Opd) → Bool
  | [], [] => true
  | (i, y) :: r, (off, n, x) :: r' => (match place i with | some (off', n') => off' == off && n' == n | none => false) && mOpd y x && mParts place r r'
  | _, _ => false

def partOf (C : Ctx) (E : Nat → Option V) (x : Nat × Nat × Opd) : Option (Nat × List W) := match x.2.2.val C E with
  | .tu _ => none
  | v => bif v.cells.length == x.2.1 && v.cells.all notUn then some (x.1, v.cells) else none

theorem partOf_ok {x : Nat × Nat × Opd} {q : Nat × List W} (h : partOf C E x = some q) : q = (x.1, (x.2.2.val C E).cells) ∧ (x.2.2.val C E).cells.length = x.2.1 ∧ (x.2.2.val C E).cells.all notUn = true ∧ ∀ l, x.2.2.val C E ≠ .tu l := by
  grind [partOf]

theorem fill_ok (r : Rel C.gl N w0 ω0 S E L a w ω β) {place : Nat → Option (Nat × Nat)} : ∀ {ps : List (Nat × Operand)} {ps' : List (Nat × Nat × Opd)} {qs : List (Nat × List W)} {zero cs : List W} {zs : Array Value}, mParts place ps ps' = true →
    listM (partOf C E) ps' = some qs → RWlist w ω β L zero zs.toList → fillW zero qs = some cs → ∃ arr : Array Value, Instr.fill place zs (ps.map fun (i, x) => (i, a.eval x)) = some arr ∧ RWlist w ω β L cs arr.toList
  | [], [], qs, zero, cs, zs, _, hq, hz, hf => by
    grind [listM, fillW, Instr.fill]
  | [], _ :: _, _, _, _, _, hm, _, _, _ => by simp [mParts] at hm
  | _ :: _, [], _, _, _, _, hm, _, _, _ => by simp [mParts] at hm
  | (i, y) :: ps, (off, n, x) :: ps', qs, zero, cs, zs, hm, hq, hz, hf => by
    simp only [mParts, Bool.and_eq_true] at hm
    obtain ⟨⟨hp, hx⟩, hm⟩ := hm
    cases hpl : place i with
    | none => grind
    | some q =>
      obtain ⟨off', n'⟩ := q
      simp only [hpl, Bool.and_eq_true, beq_iff_eq] at hp
      obtain ⟨rfl, rfl⟩ := hp
      simp only [listM] at hq
      cases hpo : partOf C E (off', n', x) with
      | none => grind
      | some q0 =>
        simp only [hpo] at hq
        cases hr : listM (partOf C E) ps' with
        | none => grind
        | some qs' =>
          simp only [hr, Option.some.injEq] at hq
          subst hq
          obtain ⟨rfl, h1, h2, h3⟩ := partOf_ok hpo
          simp only at h1 h2 h3
          simp only [fillW] at hf
          cases hs : splice zero off' (x.val C E).cells with
          | none => grind
          | some z1 =>
            simp only [hs] at hf
            have hc := (mOpd_ok r hx).cells h3 h2
            obtain ⟨g1, g2, g3⟩ := hz.splice hc hs
            have hlen : (a.eval y).cells.size = n' := by
              have := hc.length
              grind
            have hfit : off' + (a.eval y).cells.size ≤ zs.size := by omega
            simp only [List.map_cons, Instr.fill, hpl]
            rw [if_neg (by grind)]
            refine fill_ok r hm hr ?_ hf
            grind [foldl_set']

def placesOf (P : Program) (fs : Array Field) : Option (List (Nat × Nat)) := listM (fun f => (P.info? f.type).map fun i => (f.offset, i.size)) fs.toList

theorem places_run : ∀ {fs : List Field} {l : List (Nat × Nat)}, listM (fun f => (P.info? f.type).map fun i => (f.offset, i.size)) fs = some l →
    (fs.mapM (fun (f : Field) => (do pure (f.offset, ← sizeOf f.type) : Sem (Nat × Nat)))).run P w = .ok l w
  | [], l, h => by simp [listM] at h; simp_all
  | f :: fs, l, h => by
    simp only [listM] at h
    cases hi : P.info? f.type with
    | none => grind
    | some i =>
      simp only [hi, Option.map_some] at h
      cases hr : listM (fun f => (P.info? f.type).map fun i => (f.offset, i.size)) fs with
      | none => grind
      | some l' =>
        simp only [hr, Option.some.injEq] at h
        subst h
        simp only [List.mapM_cons, Sem.run_bind, run_sizeOf' hi, Result.andThen_ok, Sem.run_pure, places_run hr]

theorem gives_build (r : Rel C.gl N w0 ω0 S E L a w ω β) {t : TypeId} {parts : Array (Nat × Operand)} {ps' : List (Nat × Nat × Opd)} {i : TypeInfo} {z : Value} {zero cs : List W} (ho : o.op = .build t parts)
    (hi : P.info? t = some i) (hz : i.zero = some z) (hzero : cvList z.cells.toList zero = true) {place : Nat → Option (Nat × Nat)}
    (ht : (∃ fs l, P.underlying t = some (.struct fs) ∧ placesOf P fs = some l ∧ place = fun j => l[j]?) ∨ (∃ n e ie, P.underlying t = some (.array n e) ∧ P.info? e = some ie ∧ place = fun j => some (j * ie.size, ie.size)))
    (hm : mParts place parts.toList ps' = true) {qs : List (Nat × List W)} (hq : listM (partOf C E) ps' = some qs) (hf : fillW zero qs = some cs) (h : v = .ag cs) : Gives P o a w ω β L v := by
  subst h
  obtain ⟨arr, h1, h2⟩ := fill_ok r hm hq (cvList_ok hzero) hf
  have hz' : (zeroValue t).run P w = .ok z w := by simp [zeroValue, typeInfo, hi, hz]
  refine ⟨.agg arr, ?_, ⟨arr, rfl, h2⟩⟩
  have hmap : (parts.map fun (x : Nat × Operand) => (x.1, a.eval x.2)).toList = parts.toList.map fun (i, x) => (i, a.eval x) := by simp
  rcases ht with ⟨fs, l, h3, h4, rfl⟩ | ⟨n, e, ie, h3, h4, rfl⟩
  · have hp := places_run (P := P) (w := w) h4
    have hpl : (fun (j : Nat) => l.toArray[j]?) = fun j => l[j]? := by simp
    simp only [execOp, ho, Instr.build, Sem.run_bind, hz', Result.andThen_ok, run_underlying h3, Array.mapM_eq_mapM_toList, Sem.run_map, hp, hpl, hmap, h1, Sem.run_pure]
  · simp only [execOp, ho, Instr.build, Sem.run_bind, hz', Result.andThen_ok, run_underlying h3, run_sizeOf' h4, hmap, h1, Sem.run_pure]

/- closures -/

def mAll : List Operand → List Opd → Bool
  | [], [] => true
  | y :: ys, x :: xs => mOpd y x && mAll ys xs
  | _, _ => false

theorem mAll_ok (r : Rel C.gl N w0 ω0 S E L a w ω β) : ∀ {ys : List Operand} {xs : List Opd}, mAll ys xs = true → xs.length = ys.length ∧ ∀ (i : Nat) (x : Opd) (y : Operand), xs[i]? = some x → ys[i]? = some y → RV w ω β L (x.val C E) (a.eval y)
  | [], [], _ => by simp
  | [], _ :: _, h => by simp [mAll] at h
  | _ :: _, [], h => by simp [mAll] at h
  | y :: ys, x :: xs, h => by
    simp only [mAll, Bool.and_eq_true] at h
    obtain ⟨h1, h2⟩ := mAll_ok r h.2
    grind [mOpd_ok]

theorem caps_c (r : Rel C.gl N w0 ω0 S E L a w ω β) : ∀ {ys : List Operand} {xs : List Opd} {l : List (Bool × List Cell)}, mAll ys xs = true → listM capC (xs.map (·.val C E)) = some l →
    RDcaps w ω (l.map (·.1)) (l.map (·.2)) (ys.map a.eval)
  | [], [], l, _, h => by grind [listM, RDcaps]
  | [], _ :: _, _, h, _ => by simp [mAll] at h
  | _ :: _, [], _, h, _ => by simp [mAll] at h
  | y :: ys, x :: xs, l, hm, h => by
    simp only [mAll, Bool.and_eq_true] at hm
    simp only [List.map_cons, listM] at h
    have h1 := mOpd_ok r hm.1
    cases hc : capC (x.val C E) with
    | none => grind
    | some q =>
      simp only [hc] at h
      cases hr : listM capC (xs.map (·.val C E)) with
      | none => grind
      | some l' =>
        simp only [hr, Option.some.injEq] at h
        subst h
        unfold capC at hc
        split at hc
        · rename_i c hv
          simp only [Option.some.injEq] at hc
          subst hc
          rw [hv] at h1
          simp only [RV, RV1, RW] at h1
          simp only [List.map_cons, RDcaps]
          exact ⟨⟨[a.eval y], by grind [RDlist], rfl⟩, caps_c r hm.2 hr⟩
        grind

theorem caps_w (r : Rel C.gl N w0 ω0 S E L a w ω β) : ∀ {ys : List Operand} {xs : List Opd} {l : List (Bool × List W)}, mAll ys xs = true → listM capW (xs.map (·.val C E)) = some l →
    RWcaps w ω β L (l.map (·.1)) (l.map (·.2)) (ys.map a.eval)
  | [], [], l, _, h => by grind [listM, RWcaps]
  | [], _ :: _, _, h, _ => by simp [mAll] at h
  | _ :: _, [], _, h, _ => by simp [mAll] at h
  | y :: ys, x :: xs, l, hm, h => by
    simp only [mAll, Bool.and_eq_true] at hm
    simp only [List.map_cons, listM] at h
    have h1 := mOpd_ok r hm.1
    cases hc : capW (x.val C E) with
    | none => grind
    | some q =>
      simp only [hc] at h
      cases hr : listM capW (xs.map (·.val C E)) with
      | none => grind
      | some l' =>
        simp only [hr, Option.some.injEq] at h
        subst h
        simp only [List.map_cons, RWcaps]
        refine ⟨?_, caps_w r hm.2 hr⟩
        unfold capW at hc
        split at hc
        grind
        · rename_i c hv
          simp only [Option.some.injEq] at hc
          subst hc
          rw [hv] at h1
          exact ⟨[a.eval y], by simp only [RWlist]; exact ⟨h1, trivial⟩, rfl⟩
        · rename_i cs hv
          simp only [Option.some.injEq] at hc
          subst hc
          rw [hv] at h1
          obtain ⟨arr, h2, h3⟩ := h1
          exact ⟨arr.toList, h3, by simp [packs, h2]⟩

theorem gives_fn (r : Rel C.gl N w0 ω0 S E L a w ω β) {f : FuncId} {ys : Array Operand} {xs : List Opd} (ho : o.op = .makeFunc (.func f) #[] ys) (hm : mAll ys.toList xs = true) {u : Upd}
    (h : exec1 C E L 0 (.fn f xs) = some (v, u)) : u = [] ∧ Gives P o a w ω β L v := by
  have run : (execOp a.eval o).run P w = .ok (.value (.func (.func f) #[] (ys.map a.eval))) w := by
    simp [execOp, ho, Instr.makeFunc]
  have hl : (ys.map a.eval).toList = ys.toList.map a.eval := by simp
  simp only [exec1] at h
  split at h
  · rename_i l hc
    simp only [Option.some.injEq, Prod.mk.injEq] at h
    obtain ⟨rfl, rfl⟩ := h
    refine ⟨rfl, _, run, ?_⟩
    grind [RV, RV1, RW, RD, caps_c]
  · split at h
    · rename_i l hc
      simp only [Option.some.injEq, Prod.mk.injEq] at h
      obtain ⟨rfl, rfl⟩ := h
      refine ⟨rfl, _, run, ?_⟩
      grind [RV, RV1, RW, caps_w]
    grind

/- ## Operations that change memory -/

/-- A run that gives a value (or none: a store), with a new memory. -/
def Makes (P : Program) (GL : Nat → List Cell) (N : Nat) (w0 : World) (ω0 : Nat → Nat) (S : Fr) (E : Nat → Option V) (L : Nat → Option Obj) (o : Oper) (a : Act) (w : World) (v : V) (u : Upd) : Prop :=
  ∃ nx vv w' ω' β', (execOp a.eval o).run P w = .ok nx w' ∧ (nx = .value vv ∨ nx = .skip ∧ vv = undef) ∧ Rel GL N w0 ω0 S E (updL L u) a w' ω' β' ∧ RV w' ω' β' (updL L u) v vv

theorem Gives.makes (r : Rel C.gl N w0 ω0 S E L a w ω β) (h : Gives P o a w ω β L v) : Makes P C.gl N w0 ω0 S E L o a w v [] := by
  obtain ⟨vv, h1, h2⟩ := h
  exact ⟨_, vv, w, ω, β, h1, .inl rfl, r, h2⟩

/-- nil cells become arrays of the frame's own. -/
theorem own_ok {GL : Nat → List Cell} {oid : Nat} {own : List (Nat × Nat)} (hpos : ∀ p ∈ own, 0 < p.2) : ∀ (cells : List W) (j : Nat) (L : Nat → Option Obj) (β : Nat → Option Nat) (vs : List Value), Rel GL N w0 ω0 S E L a w ω β → RWlist w ω β L cells vs →
    (∀ x ∈ (ownW oid own j cells).2, L x.1 = none) → ∃ β', Rel GL N w0 ω0 S E (updL L (ownW oid own j cells).2) a w ω β' ∧ RWlist w ω β' (updL L (ownW oid own j cells).2) (ownW oid own j cells).1 vs ∧
      (∀ k, Tr w β w β' L (updL L (ownW oid own j cells).2) k) ∧ (∀ x ∈ (ownW oid own j cells).2, oid + j < x.1)
  | [], j, L, β, vs, r, hr, _ => by
    simp only [ownW, updL]
    grind [Tr.refl]
  | x :: xs, j, L, β, [], _, hr, _ => by simp [RWlist] at hr
  | x :: xs, j, L, β, v :: vs, r, hr, hfree => by
    simp only [RWlist] at hr
    by_cases hcase : (x = .nil ∨ x = .full []) ∧ ∃ s, get? own j = some s
    · obtain ⟨hx, s, hs⟩ := hcase
      have e : ownW oid own j (x :: xs) = (.arr (oid + 1 + j) 0 :: (ownW oid own (j + 1) xs).1, (oid + 1 + j, some (.arr s [] 0)) :: (ownW oid own (j + 1) xs).2) := by
        rcases hx with rfl | rfl <;> simp only [ownW, hs]
      have hv : ∃ base, v = .slice base 0 0 := by
        grind [RW, RD]
      obtain ⟨base, hv⟩ := hv
      rw [e] at hfree ⊢
      have hk : L (oid + 1 + j) = none := hfree (oid + 1 + j, some (.arr s [] 0)) (by simp)
      have hs0 : 0 < s := by
        have : (j, s) ∈ own := get?_mem hs
        grind
      obtain ⟨r1, t1⟩ := r.newNil hk hs0
      have hr1 := RWlist.step (Grows.refl w ω) t1 xs hr.2
      have hgt : ∀ (cells : List W) (j : Nat), ∀ x ∈ (ownW oid own j cells).2, oid + j < x.1 := ownW_gt
      obtain ⟨β', r2, hr2, t2, g2⟩ := own_ok hpos xs (j + 1) _ _ vs r1 hr1 (fun y hy => by
        rw [updO_ne]
        · exact hfree y (List.mem_cons_of_mem _ hy)
        grind)
      refine ⟨β', r2, ?_, fun k => (t1 k).trans (t2 k), ?_⟩
      · simp only [RWlist, updL]
        refine ⟨?_, hr2⟩
        have h0 : RW w ω (setN β (oid + 1 + j) none) (updO L (oid + 1 + j) (some (.arr s [] 0))) (.arr (oid + 1 + j) 0) v := by
          simp only [RW]
          exact ⟨s, [], 0, updO_same _ _ _, by simp, ⟨_, _, _, hv⟩, fun _ => .inr ⟨by simp [setN], rfl, base, hv⟩⟩
        exact RW.step (Grows.refl w ω) t2 _ h0
      grind
    · have e : ownW oid own j (x :: xs) = (x :: (ownW oid own (j + 1) xs).1, (ownW oid own (j + 1) xs).2) := by
        simp only [ownW]
        grind
      rw [e] at hfree ⊢
      obtain ⟨β', r2, hr2, t2, g2⟩ := own_ok hpos xs (j + 1) L β vs r hr.2 hfree
      refine ⟨β', r2, ?_, t2, fun y hy => by grind⟩
      simp only [RWlist]
      exact ⟨RW.step (Grows.refl w ω) t2 _ hr.1, hr2⟩

end
end Go.Vs

/- The value semantics, 11: operations that make or write memory. -/
namespace Go.Vs
open Go

section
variable {P : Program} {C : Ctx} {N : Nat} {w0 : World} {ω0 : Nat → Nat} {S : Fr} {E : Nat → Option V} {L : Nat → Option Obj} {a : Act} {w : World} {ω : Nat → Nat} {β : Nat → Option Nat}
variable {o : Oper} {v : V}

theorem updL_free {u : Upd} {k : Nat} (h : ∀ x ∈ u, x.1 ≠ k) : updL L u k = L k := by
  induction u generalizing L with
  | nil => rfl
  | cons x r ih =>
    obtain ⟨j, y⟩ := x
    simp only [updL]
    rw [ih (fun z hz => h z (by grind)), updO_ne]
    exact fun e => h (j, y) (by simp) e.symm

theorem newVar_run (t : TypeId) (z : Value) : (newVar t z).run P w = .ok ⟨w.heap.size, 0, none⟩ (w.alloc (.cells z.cells t)) := by
  rfl

/-- A new box. -/
theorem Rel.newBox {GL : Nat → List Cell} (r : Rel GL N w0 ω0 S E L a w ω β) {k : Nat} (hk : L k = none) {cells : List W} {cs : Array Value} (t : TypeId) (hr : RWlist w ω β L cells cs.toList) :
    ∃ ω' β', Rel GL N w0 ω0 S E (updO L k (some (.box cells))) a (w.alloc (.cells cs t)) ω' β' ∧ RW (w.alloc (.cells cs t)) ω' β' (updO L k (some (.box cells))) (.ptr k 0) (.pointer (some ⟨w.heap.size, 0, none⟩)) := by
  obtain ⟨r', tr⟩ := r.alloc (o := .box cells) hk cs t 0 (fun tr => ⟨w.heap.size, cs, t, by simp [setN], heap_alloc_new w _, RWlist.step (Grows.alloc w ω _ 0) tr cells hr, by simp [setN]⟩)
  grind [RW, updO_same, setN]

theorem makes_new (r : Rel C.gl N w0 ω0 S E L a w ω β) {t : TypeId} {i : TypeInfo} {z : Value} {cells : List W} {own : List (Nat × Nat)} {oid : Nat} (ho : o.op = .alloc t) (hi : P.info? t = some i) (hz : i.zero = some z)
    (hc : cvList z.cells.toList cells = true) (hpos : ∀ p ∈ own, 0 < p.2) {u : Upd} (h : exec1 C E L oid (.new cells own) = some (v, u)) : Makes P C.gl N w0 ω0 S E L o a w v u := by
  simp only [exec1] at h
  split at h
  grind
  · rename_i hk
    cases hb : (ownW oid own 0 cells).2.all (fun u => (L u.1).isNone) with
    | false => grind
    | true =>
      simp only [hb, cond_true, Option.some.injEq, Prod.mk.injEq] at h
      obtain ⟨rfl, rfl⟩ := h
      have hfree : ∀ x ∈ (ownW oid own 0 cells).2, L x.1 = none := by
        intro x hx
        have := List.all_eq_true.1 hb x hx
        simp_all
      obtain ⟨β1, r1, hr1, _, g1⟩ := own_ok hpos cells 0 L β z.cells.toList r (cvList_ok hc) hfree
      have hk1 : updL L (ownW oid own 0 cells).2 oid = none := by
        grind [updL_free]
      obtain ⟨ω', β', r2, h2⟩ := r1.newBox hk1 t hr1
      refine ⟨.value (.pointer (some ⟨w.heap.size, 0, none⟩)), .pointer (some ⟨w.heap.size, 0, none⟩), w.alloc (.cells z.cells t), ω', β', ?_, .inl rfl, ?_, ?_⟩
      · simp only [execOp, ho, Instr.alloc, Sem.run_bind, zeroValue, typeInfo, run_program, Result.andThen_ok, hi, Sem.run_pure, hz, newVar_run]
      · rw [updL_append]; exact r2
      · rw [updL_append]; exact h2

theorem makes_box (r : Rel C.gl N w0 ω0 S E L a w ω β) {t : TypeId} {x : Operand} {x' : Opd} {oid : Nat} (ho : o.op = .box t x) (hx : mOpd x x' = true) {u : Upd} (h : exec1 C E L oid (.box x') = some (v, u)) : Makes P C.gl N w0 ω0 S E L o a w v u := by
  have h1 := mOpd_ok r hx
  have run : (execOp a.eval o).run P w = .ok (.value (.pointer (some ⟨w.heap.size, 0, none⟩))) (w.alloc (.cells (a.eval x).cells t)) := by
    simp only [execOp, ho, Instr.box, Sem.run_bind, newVar_run, Result.andThen_ok, Sem.run_pure]
  simp only [exec1] at h
  split at h
  · rename_i y hk hv
    rw [hv] at h1
    cases hn : notUn y with
    | false => grind
    | true =>
      simp only [hn, cond_true, Option.some.injEq, Prod.mk.injEq] at h
      obtain ⟨rfl, rfl⟩ := h
      have hc := RV.cells h1 (by simp) (by simpa [V.cells] using hn)
      obtain ⟨ω', β', r2, h2⟩ := r.newBox hk t hc
      exact ⟨_, _, _, ω', β', run, .inl rfl, r2, h2⟩
  · rename_i cs hk hv
    rw [hv] at h1
    cases hn : cs.all notUn with
    | false => grind
    | true =>
      simp only [hn, cond_true, Option.some.injEq, Prod.mk.injEq] at h
      obtain ⟨rfl, rfl⟩ := h
      have hc := RV.cells h1 (by simp) (by simpa [V.cells] using hn)
      obtain ⟨ω', β', r2, h2⟩ := r.newBox hk t hc
      exact ⟨_, _, _, ω', β', run, .inl rfl, r2, h2⟩
  grind

/-- A new array. -/
theorem Rel.newArr {GL : Nat → List Cell} (r : Rel GL N w0 ω0 S E L a w ω β) {k s cap : Nat} (hk : L k = none) (hs : 0 < s) {rows : List (List W)} (hrows : ∀ r ∈ rows, r.length = s) {cs : Array Value} (t : TypeId)
    (hsz : cs.size = cap * s) (hle : rows.length ≤ cap) (hcap : cap ≤ maxRows) (hr : RWlist w ω β L rows.flatten (cs.toList.take (rows.length * s))) :
    ∃ ω' β', Rel GL N w0 ω0 S E (updO L k (some (.arr s rows 0))) a (w.alloc (.cells cs t)) ω' β' ∧
      RW (w.alloc (.cells cs t)) ω' β' (updO L k (some (.arr s rows 0))) (.arr k rows.length) (.slice (some ⟨w.heap.size, 0, none⟩) rows.length cap) := by
  obtain ⟨r', tr⟩ := r.alloc (o := .arr s rows 0) hk cs t 0 (fun tr => ⟨hs, hrows, Nat.zero_le _, .inl ⟨w.heap.size, cap, cs, t, by simp [setN], heap_alloc_new w _, hsz, hle, hcap, RWlist.step (Grows.alloc w ω _ 0) tr _ hr, by simp [setN]⟩⟩)
  refine ⟨_, _, r', ?_⟩
  simp only [RW]
  exact ⟨s, rows, 0, updO_same _ _ _, Nat.le_refl _, ⟨_, _, _, rfl⟩, fun _ => .inl ⟨w.heap.size, cap, cs, t, by simp [setN], rfl, heap_alloc_new w _, hsz⟩⟩

def rowOf (C : Ctx) (E : Nat → Option V) (s : Nat) (x : Opd) : Option (List W) := match x.val C E with
  | .tu _ => none
  | v => bif v.cells.length == s && v.cells.all notUn then some v.cells else none

theorem rowOf_ok {s : Nat} {x : Opd} {q : List W} (h : rowOf C E s x = some q) : q = (x.val C E).cells ∧ (x.val C E).cells.length = s ∧ (x.val C E).cells.all notUn = true ∧ ∀ l, x.val C E ≠ .tu l := by
  grind [rowOf]

/-- The parts of a slice literal lie one behind the other, from place j on. -/
def mRow : Nat → List (Nat × Operand) → List Opd → Bool
  | _, [], [] => true
  | j, (i, y) :: r, x :: r' => i == j && mOpd y x && mRow (j + 1) r r'
  | _, _, _ => false

theorem row_fill (r : Rel C.gl N w0 ω0 S E L a w ω β) {s : Nat} : ∀ {ps : List (Nat × Operand)} {xs : List Opd} {rows : List (List W)} {j : Nat} {zs : Array Value} {pre : List W}, mRow j ps xs = true → listM (rowOf C E s) xs = some rows →
    RWlist w ω β L pre (zs.toList.take (j * s)) → pre.length = j * s → (j + xs.length) * s ≤ zs.size →
    ∃ arr : Array Value, Instr.fill (fun i => some (i * s, s)) zs (ps.map fun (i, x) => (i, a.eval x)) = some arr ∧ arr.size = zs.size ∧ RWlist w ω β L (pre ++ rows.flatten) (arr.toList.take ((j + xs.length) * s)) ∧ (∀ r ∈ rows, r.length = s) ∧ rows.length = xs.length
  | [], [], rows, j, zs, pre, _, h, hp, _, _ => by
    grind [listM, Instr.fill]
  | [], _ :: _, _, _, _, _, hm, _, _, _, _ => by simp [mRow] at hm
  | _ :: _, [], _, _, _, _, hm, _, _, _, _ => by simp [mRow] at hm
  | (i, y) :: ps, x :: xs, rows, j, zs, pre, hm, h, hp, hpl, hsz => by
    simp only [mRow, Bool.and_eq_true, beq_iff_eq] at hm
    obtain ⟨⟨rfl, hx⟩, hm⟩ := hm
    simp only [listM] at h
    cases hq : rowOf C E s x with
    | none => grind
    | some q =>
      simp only [hq] at h
      cases hr : listM (rowOf C E s) xs with
      | none => grind
      | some rows' =>
        simp only [hr, Option.some.injEq] at h
        subst h
        obtain ⟨rfl, h1, h2, h3⟩ := rowOf_ok hq
        have hc := (mOpd_ok r hx).cells h3 h2
        have hlen : (a.eval y).cells.size = s := by
          have := hc.length
          grind
        have hsz' : i * s + s ≤ zs.size := by
          grind [Nat.add_mul]
        have hset := foldl_set' (i * s) (a.eval y).cells zs (by omega)
        simp only [List.map_cons, Instr.fill]
        rw [if_neg (by grind)]
        generalize hz1 : (a.eval y).cells.zipIdx.foldl (fun cs (x : Value × Nat) => cs.setIfInBounds (i * s + x.2) x.1) zs = z1 at hset
        have hz1s : z1.size = zs.size := by
          grind [List.length_append]
        have hpre : RWlist w ω β L (pre ++ (x.val C E).cells) (z1.toList.take ((i + 1) * s)) := by
          rw [hset]
          have e : (i + 1) * s = (zs.toList.take (i * s) ++ (a.eval y).cells.toList).length := by
            grind
          rw [e, List.take_left']
          · exact hp.append hc
          rfl
        obtain ⟨arr, g1, g2, g3, g4, g5⟩ := row_fill r (pre := pre ++ (x.val C E).cells) (zs := z1) hm hr hpre (by grind) (by
          rw [hz1s]
          have : i + 1 + xs.length = i + (x :: xs).length := by grind
          simp_all)
        grind

theorem makes_mkSl (r : Rel C.gl N w0 ω0 S E L a w ω β) {t e : TypeId} {i : TypeInfo} {z : Value} {len oid : Nat} {parts : Array (Nat × Operand)} {xs : List Opd} (ho : o.op = .buildSlice t len parts) (ht : P.underlying t = some (.slice e)) (hi : P.info? e = some i) (hz : i.zero = some z)
    (hs : 0 < i.size) (hbig : len * i.size ≤ 2 ^ 24) (hm : mRow 0 parts.toList xs = true) (hlen : xs.length = len) {u : Upd} (h : exec1 C E L oid (.mkSl i.size xs) = some (v, u)) : Makes P C.gl N w0 ω0 S E L o a w v u := by
  simp only [exec1] at h
  split at h
  grind
  · rename_i hk
    split at h
    grind
    · rename_i rows hrows
      simp only [Option.some.injEq, Prod.mk.injEq] at h
      obtain ⟨rfl, rfl⟩ := h
      obtain ⟨arr, g1, g2, g3, g4, g5⟩ := row_fill r (s := i.size) (rows := rows) (j := 0) (pre := [])
        (zs := (Array.range (len * i.size)).map fun q => ((if len * i.size = 0 then #[] else z.cells) : Array Value)[q % ((if len * i.size = 0 then #[] else z.cells) : Array Value).size]!) hm hrows (by simp [RWlist]) (by simp) (by grind)
      have hl : rows.length = len := by omega
      have hmap : (parts.map fun (x : Nat × Operand) => (x.1, a.eval x.2)).toList = parts.toList.map fun (i, x) => (i, a.eval x) := by simp
      have hbig' : ¬ len * i.size > 2 ^ 24 := by omega
      have run : (execOp a.eval o).run P w = .ok (.value (.slice (some ⟨w.heap.size, 0, none⟩) len len)) (w.alloc (.cells arr e)) := by
        simp only [execOp, ho, Instr.buildSlice, Sem.run_bind, run_underlying ht, Result.andThen_ok, run_sizeOf' hi, hbig', if_false]
        by_cases h0 : len * i.size = 0
        · simp only [h0, if_true, Sem.run_pure, hmap] at g1 ⊢
          simp only [g1, Sem.run_bind, newRow, run_newObj, Result.andThen_ok, Sem.run_pure]
          rfl
        · simp only [h0, if_false, Sem.run_bind, zeroValue, typeInfo, run_program, Result.andThen_ok, hi, Sem.run_pure, hz, hmap] at g1 ⊢
          simp only [g1, Sem.run_bind, newRow, run_newObj, Result.andThen_ok, Sem.run_pure]
          rfl
      have hcap : len ≤ maxRows := by
        have : len * 1 ≤ len * i.size := Nat.mul_le_mul_left _ hs
        grind [maxRows]
      obtain ⟨ω', β', r2, h2⟩ := r.newArr (cap := len) (rows := rows) hk hs g4 (cs := arr) e (by grind) (by omega) hcap (by
        grind)
      rw [hl] at h2
      exact ⟨_, _, _, ω', β', run, .inl rfl, r2, by rw [hl]; exact h2⟩

end
end Go.Vs

/- The value semantics, 12: stores, make, append. -/
namespace Go.Vs
open Go

section
variable {P : Program} {C : Ctx} {N : Nat} {w0 : World} {ω0 : Nat → Nat} {S : Fr} {E : Nat → Option V} {L : Nat → Option Obj} {a : Act} {w : World} {ω : Nat → Nat} {β : Nat → Option Nat}
variable {o : Oper} {v : V}

theorem take_drop_mid {α : Type} (A B : List α) (q n : Nat) (us : List α) (h : q + n ≤ A.length) :
    (A ++ B).take q ++ us ++ (A ++ B).drop (q + n) = (A.take q ++ us ++ A.drop (q + n)) ++ B := by
  grind

theorem setRow_flat {s : Nat} {off : Nat} {ys cs : List W} {us : List Value} (hy : RWlist w ω β L ys us) : ∀ {rows : List (List W)} {vs : List Value} {i : Nat} {row : List W}, (∀ r ∈ rows, r.length = s) → rows[i]? = some row → splice row off ys = some cs →
    RWlist w ω β L rows.flatten vs → RWlist w ω β L (setRow rows i cs).flatten (vs.take (i * s + off) ++ us ++ vs.drop (i * s + off + us.length)) ∧ i * s + off + us.length ≤ vs.length ∧ (∀ r ∈ setRow rows i cs, r.length = s) ∧ (setRow rows i cs).length = rows.length
  | [], _, _, _, _, h, _, _ => by grind
  | r :: rs, vs, i, row, hs, hi, hc, h => by
    have hr : r.length = s := hs r (by simp)
    have hrs : ∀ x ∈ rs, x.length = s := fun x hx => hs x (by grind)
    have h1 := h.take s
    have h2 := h.drop s
    simp only [List.flatten_cons, ← hr, List.take_left'] at h1
    simp only [List.flatten_cons, ← hr, List.drop_left'] at h2
    rw [hr] at h1 h2
    have hvl : s ≤ vs.length := by
      have := h.length
      grind
    have hA : (vs.take s).length = s := by grind
    have hv : vs = vs.take s ++ vs.drop s := (List.take_append_drop s vs).symm
    cases i with
    | zero =>
      simp at hi
      subst hi
      obtain ⟨g1, g2, g3⟩ := h1.splice hy hc
      simp only [Nat.zero_mul, Nat.zero_add, setRow, List.flatten_cons]
      refine ⟨?_, by omega, ?_, by simp⟩
      · have e := take_drop_mid (vs.take s) (vs.drop s) off us.length us g2
        rw [← hv] at e
        rw [e]
        exact g1.append h2
      grind
    | succ i =>
      obtain ⟨g1, g2, g3, g4⟩ := setRow_flat hy hrs (by simpa using hi) hc h2
      have e : (i + 1) * s + off = s + (i * s + off) := by grind
      simp only [setRow, List.flatten_cons]
      rw [e]
      simp only [List.length_drop] at g2
      refine ⟨?_, by omega, ?_, by grind⟩
      · have h3 := h1.append g1
        grind [List.drop_drop]
      grind

theorem storeVar_run {t : TypeId} {i : TypeInfo} {b off : Nat} {z : Value} {cur : Array Value} {ty : TypeId} (hi : P.info? t = some i) (hz : z.cells.size = i.size) (hg : w.heap[b]? = some (.cells cur ty (0, 0)))
    (hfit : off + z.cells.size ≤ cur.size) (h1 : ∀ v ∈ z.cells.toList, v.oneCell' = true) :
    (storeVar t ⟨b, off, none⟩ z).run P w = .ok () (w.setRow b (cur.toList.take off ++ z.cells.toList ++ cur.toList.drop (off + z.cells.toList.length)).toArray) := by
  grind [storeVar, run_storeCells_at, Sem.run_bind, run_sizeOf', Result.andThen_ok]

theorem makes_store (r : Rel C.gl N w0 ω0 S E L a w ω β) {t : TypeId} {i : TypeInfo} {x y : Operand} {x' y' : Opd} {own : List (Nat × Nat)} {oid : Nat} (ho : o.op = .store t x y) (hx : mOpd x x' = true) (hy : mOpd y y' = true)
    (hi : P.info? t = some i) (hpos : ∀ p ∈ own, 0 < p.2) {u : Upd} (h : exec1 C E L oid (.store i.size x' y' own) = some (v, u)) : Makes P C.gl N w0 ω0 S E L o a w v u := by
  have h1 := mOpd_ok r hx
  have h2 := mOpd_ok r hy
  simp only [exec1] at h
  split at h
  · cases h
  · rename_i hne
    have hne' : ∀ l, y'.val C E ≠ .tu l := fun l e => hne l e
    cases hb : ((y'.val C E).cells.length == i.size && (y'.val C E).cells.all notUn && (ownW oid own 0 (y'.val C E).cells).2.all (fun u => (L u.1).isNone)) with
    | false => rw [hb] at h; simp at h
    | true =>
      rw [hb] at h
      simp only [cond_true] at h
      simp only [Bool.and_eq_true, beq_iff_eq] at hb
      obtain ⟨⟨hlen, hnu⟩, hfr⟩ := hb
      have hfree : ∀ x ∈ (ownW oid own 0 (y'.val C E).cells).2, L x.1 = none := by
        intro x hx
        have := List.all_eq_true.1 hfr x hx
        simpa using this
      have hc := h2.cells hne' hnu
      have hone := hc.oneCells hnu
      have hsz : (a.eval y).cells.size = i.size := by
        have := hc.length
        simp only [Array.length_toList] at this
        omega
      obtain ⟨β1, r1, hr1, t1, g1⟩ := own_ok hpos _ 0 L β _ r hc hfree
      generalize hW : ownW oid own 0 (y'.val C E).cells = Y at h hfree r1 hr1 t1 g1
      have keep : ∀ k, L k ≠ none → updL L Y.2 k = L k := fun k hk => updL_free (fun x hx e => hk (e ▸ hfree x hx))
      have h1' := RV.step (Grows.refl w ω) t1 h1
      have run : ∀ b off cur ty, a.eval x = .pointer (some ⟨b, off, none⟩) → w.heap[b]? = some (.cells cur ty (0, 0)) → off + (a.eval y).cells.toList.length ≤ cur.size →
          (execOp a.eval o).run P w = .ok .skip (w.setRow b (cur.toList.take off ++ (a.eval y).cells.toList ++ cur.toList.drop (off + (a.eval y).cells.toList.length)).toArray) := by
        intro b off cur ty he hg hfit
        have := storeVar_run (P := P) (z := a.eval y) hi hsz hg (by simpa using hfit) hone
        simp only [execOp, ho, Instr.storeAt, Sem.run_bind, he, sureAddr_run, Result.andThen_ok, this, Sem.run_pure]
      split at h
      · rename_i k off hv
        rw [hv] at h1 h1'
        split at h
        · rename_i cells hL
          have hL1 : updL L Y.2 k = some (.box cells) := (keep k (by simp [hL])).trans hL
          cases hs : splice cells off Y.1 with
          | none => simp [hs] at h
          | some cs =>
            simp only [hs, Option.map_some, Option.some.injEq, Prod.mk.injEq] at h
            obtain ⟨rfl, rfl⟩ := h
            obtain ⟨b, cur, ty, e1, e2, e3, e4⟩ := r1.obj k _ hL1
            simp only [RV, RV1, RW] at h1'
            obtain ⟨_, b', _, e5, e6⟩ := h1'
            rw [e1] at e5
            cases e5
            obtain ⟨e7, e8, e9⟩ := e3.splice hr1 hs
            have hrun := run b off cur ty e6 e2 (by simpa using e8)
            obtain ⟨r2, t2⟩ := r1.write (o' := .box cs) hL1 e1 cur (cur.toList.take off ++ (a.eval y).cells.toList ++ cur.toList.drop (off + (a.eval y).cells.toList.length)).toArray ty e2
              (by grind) 0 (by omega) (by omega) e9
              (fun tr hh => ⟨b, _, ty, e1, hh, by simpa using RWlist.step (w' := w.setRow b _) (ω' := setN ω b 0) ⟨fun b' q hq v hv => by
                by_cases hb' : b' = b
                · subst hb'; omega
                · exact ⟨by rw [at?_setRow_other w b b' q _ hb']; exact hv, by simp [setN, hb']; exact hq⟩⟩ tr cs e7, by simp [setN]⟩)
            exact ⟨_, undef, _, _, _, hrun, .inr ⟨rfl, rfl⟩, by rw [updL_append]; exact r2, by simp [RV, RV1, RW]⟩
        grind
      · rename_i k M j off hv
        rw [hv] at h1 h1'
        split at h
        · rename_i s rows p hL
          have hL1 : updL L Y.2 k = some (.arr s rows p) := (keep k (by grind)).trans hL
          cases hb : (rows.length == M && Nat.ble p j) with
          | false => grind
          | true =>
            simp only [hb, cond_true] at h
            simp only [Bool.and_eq_true, beq_iff_eq] at hb
            obtain ⟨hM, hpj⟩ := hb
            have hpj := Nat.le_of_ble_eq_true hpj
            cases hrow : rows[j]? with
            | none => grind
            | some row =>
              simp only [hrow] at h
              have hj : j < rows.length := (List.getElem?_eq_some_iff.1 hrow).1
              cases hs : splice row off Y.1 with
              | none => grind
              | some cs =>
                simp only [hs, Option.map_some, Option.some.injEq, Prod.mk.injEq] at h
                obtain ⟨rfl, rfl⟩ := h
                obtain ⟨f1, f2, f3, f4⟩ := r1.obj k _ hL1
                simp only [RV, RV1, RW] at h1'
                obtain ⟨s', rows', p', e1, e2, _, e3⟩ := h1'
                rw [hL1] at e1
                cases e1
                obtain ⟨b, e4, e5⟩ := e3 hM.symm (by omega)
                rcases f4 with ⟨b', cap, cur, ty, g2, g3, g4, g5, g6, g7, g8⟩ | ⟨g2, _⟩
                · rw [e4] at g2
                  cases g2
                  obtain ⟨k1, k2, k3, k4⟩ := setRow_flat hr1 f2 hrow hs g7
                  have hrs : rows.length * s ≤ cur.size := by grind [Nat.mul_le_mul_right]
                  have hfit : j * s + off + (a.eval y).cells.toList.length ≤ cur.size := by
                    grind
                  have hlow : p * s ≤ j * s + off := by
                    have := Nat.mul_le_mul_right s hpj; omega
                  have hrun := run b (j * s + off) cur ty e5 g3 hfit
                  have hpub : ∀ q, q < ω b → (cur.toList.take (j * s + off) ++ (a.eval y).cells.toList ++ cur.toList.drop (j * s + off + (a.eval y).cells.toList.length)).toArray[q]? = cur[q]? := by
                    grind
                  obtain ⟨r2, t2⟩ := r1.write (o' := .arr s (setRow rows j cs) p) hL1 e4 cur (cur.toList.take (j * s + off) ++ (a.eval y).cells.toList ++ cur.toList.drop (j * s + off + (a.eval y).cells.toList.length)).toArray ty g3
                    (by grind) (p * s) (by omega) hpub ⟨rfl, by omega⟩
                    (fun tr hh => by
                      refine ⟨f1, k3, by omega, .inl ⟨b, cap, _, ty, e4, hh, ?_, by omega, g6, ?_, by simp [setN]⟩⟩
                      grind
                      · have hst := RWlist.step (w' := w.setRow b (cur.toList.take (j * s + off) ++ (a.eval y).cells.toList ++ cur.toList.drop (j * s + off + (a.eval y).cells.toList.length)).toArray) (ω' := setN ω b (p * s)) ⟨fun b' q hq v hv => by
                          grind [at?_block, setN, at?_setRow_other]⟩ tr _ k1
                        rw [k4]
                        have e : (cur.toList.take (j * s + off) ++ (a.eval y).cells.toList ++ cur.toList.drop (j * s + off + (a.eval y).cells.toList.length)).toArray.toList.take (rows.length * s) =
                            (cur.toList.take (rows.length * s)).take (j * s + off) ++ (a.eval y).cells.toList ++ (cur.toList.take (rows.length * s)).drop (j * s + off + (a.eval y).cells.toList.length) := by
                          have hcur : cur.toList = cur.toList.take (rows.length * s) ++ cur.toList.drop (rows.length * s) := (List.take_append_drop _ _).symm
                          grind [List.take_left']
                        grind)
                  exact ⟨_, undef, _, _, _, hrun, .inr ⟨rfl, rfl⟩, by rw [updL_append]; exact r2, by simp [RV, RV1, RW]⟩
                grind
        grind
      grind

end
end Go.Vs
