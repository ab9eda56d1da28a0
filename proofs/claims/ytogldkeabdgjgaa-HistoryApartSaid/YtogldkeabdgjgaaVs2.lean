/- The value semantics, 2: operations, code and functions, and their evaluator. Nothing is claimed of the program here. -/
import Derived.Test.YtogldkeabdgjgaaVs1
namespace Go.Vs
open Go

inductive Opd where
  | t (n : Nat)
  | g (n : Nat)
  | k (v : V)
  deriving Inhabited

inductive VOp where
  | mv (x : Opd)
  | pick (c a b : Opd)
  | bin (op : BinOp) (tag : Nat) (x y : Opd)
  | un (op : UnOp) (x : Opd)
  | new (cells : List W) (own : List (Nat × Nat))
  | box (x : Opd)
  | build (zero : List W) (parts : List (Nat × Nat × Opd))
  | mkSl (s : Nat) (parts : List Opd)
  | load (ag : Bool) (n : Nat) (a : Opd)
  | store (n : Nat) (a x : Opd) (own : List (Nat × Nat))
  | fld (off : Nat) (a : Opd)
  | part (ag : Bool) (off n : Nat) (x : Opd)
  | idxA (s : Nat) (x i : Opd)
  | idxAA (s len : Nat) (x i : Opd)
  | idxS (x i : Opd)
  | slS (x : Opd) (lo hi : Option Opd)
  | sl (s : Nat) (x : Opd) (lo hi mx : Option Opd)
  | len (str : Bool) (x : Opd)
  | mx (x y : Opd)
  | mn (x y : Opd)
  | app (s bytes : Nat) (mk : Bool) (x y : Opd)
  | mkS (s bytes : Nat) (zero : List W) (n : Opd)
  | fn (f : FuncId) (caps : List Opd)
  | call (f : Opd) (args : List (Bool × Opd)) (own : List (Nat × Nat))
  | ext (i : Nat) (x : Opd)
  | cvI (k : IntKind) (x : Opd)
  | ifc (t : TypeId) (x : Opd)
  | nn (x : Opd)
  deriving Inhabited

structure VOper where
  dst : Option Nat
  op : VOp
  guard : Option (Nat × Bool)
  oid : Nat
  own : List (Nat × Nat)
  deriving Inhabited

inductive VCode where
  | skip
  | region (drop : List Nat) (ops : List VOper) (chk : List (Nat × Nat)) (live : List Nat)
  | seq (a b : VCode)
  | cond (c : Opd) (x y : VCode)
  | block (id : Nat) (b : VCode)
  | loop (b : VCode)
  | exit (id : Nat)
  | ret
  deriving Inhabited

inductive Ex where
  | normal
  | exit (id : Nat)
  | ret
  deriving Inhabited

inductive VRes where
  | tmp (t : Nat)
  | cell (t : Nat) (ag : Bool) (n : Nat)
  deriving Inhabited

structure VFun where
  nparams : Nat
  body : VCode
  results : List VRes
  keep : Bool
  deriving Inhabited

abbrev Oracle := FuncId → List V → List Obj → Option (V × List Obj)

/-- What a frame runs in: what calls give, and what the package-level variables hold. -/
structure Ctx where
  call : Oracle
  gl : Nat → List Cell

def Opd.val (C : Ctx) (E : Nat → Option V) : Opd → V
  | .t n => (E n).getD (.sc .un)
  | .g n => .sc (.c (.ro (C.gl n) 0))
  | .k v => v

/- ## Operations on data -/

def wrapI (k : IntKind) (n : Int) : Cell := .int k (k.wrap n)

def intBin (op : BinOp) (k : IntKind) (a b : Int) : Option Cell :=
  match op with
  | .add => some (wrapI k (a + b))
  | .sub => some (wrapI k (a - b))
  | .mul => some (wrapI k (a * b))
  | .quo => if b = 0 then none else some (wrapI k (a.tdiv b))
  | .rem => if b = 0 then none else some (.int k (a.tmod b))
  | .eql => some (.bool (a == b))
  | .neq => some (.bool (a != b))
  | .lss => some (.bool (decide (a < b)))
  | .leq => some (.bool (decide (a ≤ b)))
  | .gtr => some (.bool (decide (a > b)))
  | .geq => some (.bool (decide (a ≥ b)))
  | .and => some (.int k (k.wrap (BitVec.ofInt k.bits a &&& BitVec.ofInt k.bits b).toNat))
  | .or => some (.int k (k.wrap (BitVec.ofInt k.bits a ||| BitVec.ofInt k.bits b).toNat))
  | .xor => some (.int k (k.wrap (BitVec.ofInt k.bits a ^^^ BitVec.ofInt k.bits b).toNat))
  | _ => none

def intShift (op : BinOp) (k : IntKind) (a b : Int) : Option Cell :=
  if b < 0 then none else
  match op with
  | .shl => some (.int k (k.wrap (a * 2 ^ (min b.toNat k.bits))))
  | .shr => some (.int k (a.fdiv (2 ^ (min b.toNat k.bits))))
  | _ => none

def strBin (op : BinOp) (a b : List UInt8) : Option Cell :=
  match op with
  | .add => if a.length + b.length ≤ 9223372036854775807 then some (.str (a ++ b)) else none
  | .eql => some (.bool (a == b))
  | .neq => some (.bool !(a == b))
  | .lss => some (.bool (Op.bytesLess a b))
  | .leq => some (.bool (Op.bytesLess a b || a == b))
  | .gtr => some (.bool !(Op.bytesLess a b || a == b))
  | .geq => some (.bool !(Op.bytesLess a b))
  | _ => none

def isShift : BinOp → Bool
  | .shl | .shr => true
  | _ => false

/-- 'x == y', 'x != y' where one side is nil. -/
def nilEq (op : BinOp) (e : Bool) : Option Cell :=
  match op with
  | .eql => some (.bool e)
  | .neq => some (.bool !e)
  | _ => none

/-- tag: 0 numbers and strings, 1 bools, 2 slices and nil, 3 pointers and nil, 4 functions and nil, 5 interfaces and nil. -/
def binW (op : BinOp) (tag : Nat) (x y : W) : Option Cell :=
  match tag with
  | 0 => match x, y with
    | .c (.int k a), .c (.int k' b) => bif isShift op then intShift op k a b else if k = k' then intBin op k a b else none
    | .c (.str a), .c (.str b) => strBin op a b
    | _, _ => none
  | 1 => match x, y with
    | .c (.bool a), .c (.bool b) => nilEq op (a == b)
    | _, _ => none
  | 2 => match x, y with
    | .nil, .nil => nilEq op true
    | .c (.sl (_ :: _)), .nil => nilEq op false
    | _, _ => none
  | 3 => match x, y with
    | .c .nilptr, .c .nilptr => nilEq op true
    | .ptr _ _, .c .nilptr => nilEq op false
    | .c (.ro ..), .c .nilptr => nilEq op false
    | _, _ => none
  | 4 => match x, y with
    | .c .nilfn, .c .nilfn => nilEq op true
    | .c (.fn ..), .c .nilfn => nilEq op false
    | .clo .., .c .nilfn => nilEq op false
    | _, _ => none
  | 5 => match x, y with
    | .c .nilif, .c .nilif => nilEq op true
    | .c (.ifc ..), .c .nilif => nilEq op false
    | .ifw .., .c .nilif => nilEq op false
    | _, _ => none
  | _ => none

def unW (op : UnOp) : W → Option Cell
  | .c (.int k a) => match op with
    | .neg => some (wrapI k (0 - a))
    | _ => none
  | .c (.bool b) => match op with
    | .not => some (.bool !b)
    | _ => none
  | _ => none

/- ## Rows and cells -/

def notUn : W → Bool
  | .un | .sk => false
  | _ => true

/-- Cells 'off' to 'off + n - 1', if there are so many. -/
def cut {α : Type} (l : List α) (off n : Nat) : Option (List α) :=
  bif Nat.ble (off + n) l.length then some ((l.drop off).take n) else none

def splice {α : Type} (l : List α) (off : Nat) (xs : List α) : Option (List α) :=
  bif Nat.ble (off + xs.length) l.length then some (l.take off ++ xs ++ l.drop (off + xs.length)) else none

def asV (ag : Bool) (cs : List W) : Option V :=
  bif ag then some (.ag cs) else match cs with | [w] => some (.sc w) | _ => none

def setRow {α : Type} : List α → Nat → α → List α
  | [], _, _ => []
  | _ :: r, 0, a => a :: r
  | b :: r, n + 1, a => b :: setRow r n a

def fillW (cells : List W) : List (Nat × List W) → Option (List W)
  | [] => some cells
  | (off, xs) :: r => match splice cells off xs with
    | none => none
    | some c => fillW c r

/-- nil cells become arrays of the frame's own, without rows. -/
def ownW (oid : Nat) (own : List (Nat × Nat)) : Nat → List W → List W × Upd
  | _, [] => ([], [])
  | j, w :: r =>
    let rest := ownW oid own (j + 1) r
    match w, get? own j with
    | .nil, some s => (.arr (oid + 1 + j) 0 :: rest.1, (oid + 1 + j, some (.arr s [] 0)) :: rest.2)
    | _, _ => (w :: rest.1, rest.2)

def intOf (v : V) : Option Int := match v with
  | .sc (.c (.int _ n)) => some n
  | _ => none

/-- An index: not negative, below the bound. -/
def natBelow (v : V) (b : Nat) : Option Nat := match v with
  | .sc (.c (.int _ (.ofNat n))) => bif Nat.blt n b then some n else none
  | _ => none

/-- The rows of a slice value, for reading. -/
def rowsOf (L : Nat → Option Obj) : V → Option (List (List W))
  | .sc (.c (.sl rows)) => some (rows.map (·.map W.c))
  | .sc .nil => some []
  | .sc (.full rows) => some (rows.map (·.map W.c))
  | .sc (.arr k n) => match L k with
    | some (.arr _ rows _) => bif rows.length == n then some rows else none
    | _ => none
  | .sc (.vw k N lo n) => match L k with
    | some (.arr _ rows _) => bif rows.length == N then cut rows lo n else none
    | _ => none
  | _ => none

def lenV (L : Nat → Option Obj) : V → Option Nat
  | .sc (.c (.str s)) => some s.length
  | .sc (.c (.sl rows)) => some rows.length
  | .sc .nil => some 0
  | .sc (.full rows) => some rows.length
  | .sc (.arr k n) => match L k with
    | some (.arr _ rows _) => bif rows.length == n then some n else none
    | _ => none
  | .sc (.vw k N lo n) => match L k with
    | some (.arr _ rows _) => bif rows.length == N then (cut rows lo n).map (fun _ => n) else none
    | _ => none
  | _ => none

def elOk (L : Nat → Option Obj) (k N i : Nat) : Bool := match L k with
  | some (.arr _ rows _) => rows.length == N && Nat.blt i N
  | _ => false

/-- Moving an address on inside of what it points into. -/
def onBy (L : Nat → Option Obj) (n : Nat) : V → Option (V × Upd)
  | .sc (.ptr k o) => some (.sc (.ptr k (o + n)), [])
  | .sc (.el k N i o) => bif elOk L k N i then some (.sc (.el k N i (o + n)), []) else none
  | .sc (.c (.ro row o)) => some (.sc (.c (.ro row (o + n))), [])
  | _ => none

def isStr : V → Bool
  | .sc (.c (.str _)) => true
  | _ => false

def boundOr (v : Option V) (d b : Nat) : Option Nat := match v with
  | none => bif Nat.ble d b then some d else none
  | some v => natBelow v (b + 1)

def rowsFit {α : Type} (s : Nat) (rows : List (List α)) : Bool := match rows with
  | [] => true
  | r :: _ => r.length == s

/-- 'x[lo:hi:mx]' of a slice. -/
def slice1 (L : Nat → Option Obj) (s : Nat) (x : V) (lo hi mx : Option V) : Option (V × Upd) :=
  match x with
  | .sc .nil => match boundOr mx 0 0, boundOr hi 0 0, boundOr lo 0 0 with
    | some _, some _, some _ => some (.sc .nil, [])
    | _, _, _ => none
  | .sc (.c (.sl rows)) => match boundOr mx rows.length rows.length with
    | none => none
    | some m => match boundOr hi rows.length m with
      | none => none
      | some h => match boundOr lo 0 h with
        | none => none
        | some l => bif rowsFit s rows then
            bif mx.isSome && m == h then some (.sc (.full ((rows.take h).drop l)), []) else some (.sc (.c (.sl ((rows.take h).drop l))), [])
          else none
  | .sc (.full rows) => match boundOr mx rows.length rows.length with
    | none => none
    | some m => match boundOr hi rows.length m with
      | none => none
      | some h => match boundOr lo 0 h with
        | none => none
        | some l => bif rowsFit s rows then
            bif m == h then some (.sc (.full ((rows.take h).drop l)), []) else some (.sc (.c (.sl ((rows.take h).drop l))), [])
          else none
  | .sc (.arr k n) => match L k with
    | some (.arr s' rows _) => match boundOr hi n n with
      | none => none
      | some h => match boundOr lo 0 h with
        | none => none
        | some l => bif rows.length == n && s' == s then
            match mx with
            | none => some (.sc (.vw k n l (h - l)), [])
            | some m => match natBelow m (n + 1) with
              | some m => bif m == h && l == h then some (.sc (.full []), []) else none
              | none => none
          else none
    | _ => none
  | .sc (.vw k N lo0 n) => match L k with
    | some (.arr s' rows _) => match boundOr hi n n with
      | none => none
      | some h => match boundOr lo 0 h with
        | none => none
        | some l => bif rows.length == N && Nat.ble (lo0 + n) N && s' == s && mx.isNone then some (.sc (.vw k N (lo0 + l) (h - l)), []) else none
    | _ => none
  | _ => none

def maxRows : Nat := 9223372036854775807
def maxBytes : Nat := 140737488355328

/-- append(x, y...). -/
def append1 (L : Nat → Option Obj) (oid s bytes : Nat) (mk : Bool) (x y : V) : Option (V × Upd) :=
  match rowsOf L y with
  | none => none
  | some ys => bif ys.all (fun r => r.length == s && r.all notUn) then
    match x with
    | .sc (.arr k n) => match L k with
      | some (.arr s' rows p) =>
        bif rows.length == n && s' == s && !mk && Nat.ble (n + ys.length) maxRows && Nat.ble ((n + ys.length) * bytes) maxBytes then
          some (.sc (.arr k (n + ys.length)), [(k, some (.arr s (rows ++ ys) p))])
        else none
      | _ => none
    | _ => match (match x with | .sc .nil => some [] | .sc (.full rows) => some rows | _ => none) with
      | none => none
      | some rows => match L oid with
        | some _ => none
        | none =>
          bif mk && (rows.isEmpty || !ys.isEmpty) && rows.all (fun r => r.length == s) && Nat.ble (rows.length + ys.length) maxRows && Nat.ble ((rows.length + ys.length) * bytes) maxBytes then
            some (.sc (.arr oid (rows.length + ys.length)), [(oid, some (.arr s (rows.map (·.map W.c) ++ ys) 0))])
          else none
    else none

def updO (L : Nat → Option Obj) (k : Nat) (x : Option Obj) : Nat → Option Obj := fun j => bif j == k then x else L j

def updL (L : Nat → Option Obj) : Upd → Nat → Option Obj
  | [] => L
  | (k, x) :: r => updL (updO L k x) r

/- ## Calls -/

def flatW : W → Bool
  | .c (.int ..) | .c (.bool _) | .c (.str _) => true
  | _ => false

def flatV : V → Bool
  | .sc w => flatW w
  | .ag cs => cs.all flatW
  | .tu l => l.all fun | .sc w => flatW w | .ag cs => cs.all flatW | .tu _ => false

def V.toD (L : Nat → Option Obj) : V → Option V
  | .sc w => (w.toC L deep).map fun x => .sc (.c x)
  | .ag cs => (listM (W.toC L deep) cs).map fun l => .ag (l.map W.c)
  | .tu _ => none

def nubs : List Nat → List Nat
  | [] => []
  | k :: r => if k ∈ nubs r then nubs r else k :: nubs r

def growRefs (L : Nat → Option Obj) (ks : List Nat) : List Nat :=
  nubs (ks ++ ks.flatMap fun k => match L k with | some o => o.refs | none => [])

def reach (L : Nat → Option Obj) (ks : List Nat) : List Nat :=
  match ks with
  | [] => []
  | _ => growRefs L (growRefs L (growRefs L (growRefs L ks)))

def indexIn : List Nat → Nat → Option Nat
  | [], _ => none
  | j :: r, k => bif j == k then some 0 else (indexIn r k).map (· + 1)

def sameKind : Obj → Obj → Bool
  | .box a, .box b => a.length == b.length
  | .arr s rows _, .arr s' rows' _ => s == s' && Nat.ble rows.length rows'.length
  | _, _ => false

/-- The arguments of a call: as data, or as they are; with the arrays whose rows are handed over as data. -/
def argsOf (L : Nat → Option Obj) : List (Bool × V) → Option (List V × List Nat × List Nat)
  | [] => some ([], [], [])
  | (true, v) :: r => match v, argsOf L r with
    | .tu _, _ => none
    | _, none => none
    | v, some (vs, ds, rs) => some (v :: vs, ds, v.refs ++ rs)
  | (false, v) :: r => match v.toD L, argsOf L r with
    | some d, some (vs, ds, rs) => some (d :: vs, v.cells.flatMap (W.ids L deep) ++ ds, rs)
    | _, _ => none

def allSome {α : Type} : List (Option α) → Option (List α) := listM id

def updOf : List Nat → List Obj → Upd
  | k :: ks, o :: os => (k, some o) :: updOf ks os
  | _, _ => []

def newIds (oid : Nat) : Nat → Nat → List Nat
  | _, 0 => []
  | i, n + 1 => (oid + i) :: newIds oid (i + 1) n

/-- What a call can be made of: the function, and what it has captured. -/
def calleeOf : V → Option (FuncId × List (Bool × V))
  | .sc (.c (.fn f ones caps)) => some (f, (ones.zip caps).map fun (o, cs) => (false, match o, cs with | true, [x] => V.sc (.c x) | _, cs => V.ag (cs.map W.c)))
  | .sc (.clo f ones caps) => some (f, (ones.zip caps).map fun (o, cs) => (true, match o, cs with | true, [w] => V.sc w | _, cs => V.ag cs))
  | _ => none

def call1 (call : Oracle) (L : Nat → Option Obj) (oid : Nat) (f : V) (args : List (Bool × V)) : Option (V × Upd) :=
  match calleeOf f with
  | none => none
  | some (g, caps) => match argsOf L (args ++ caps) with
    | none => none
    | some (vs, ds, rs) =>
      let ids := reach L rs
      match listM L ids with
      | none => none
      | some os =>
        let ρ := indexIn ids
        bif ids.all (fun k => !ds.contains k) && (reach L ids).length == ids.length then
          match call g (vs.map (V.ren ρ)) (os.map (Obj.ren ρ)) with
          | none => none
          | some (rv, os') =>
            let m := ids.length
            let fresh := newIds oid 0 (os'.length - m)
            let σ : Nat → Option Nat := fun i => (ids ++ fresh)[i]?
            bif Nat.ble m os'.length && (os.zip os').all (fun x => sameKind x.1 x.2) && fresh.all (fun k => (L k).isNone) then
              let u := updOf (ids ++ fresh) (os'.map (Obj.ren σ))
              match ds with
              | [] => some (rv.ren σ, u)
              | _ => bif flatV rv && ids.isEmpty && fresh.isEmpty then some (rv, []) else
                match pubUpd L ds ds with
                | some p => some (rv.ren σ, p ++ u)
                | none => none
            else none
        else none

/-- nil arguments become arrays of the frame's own, where that is asked for. -/
def ownArgs (oid : Nat) (own : List (Nat × Nat)) : Nat → List (Bool × V) → List (Bool × V) × Upd
  | _, [] => ([], [])
  | j, (b, v) :: r =>
    let rest := ownArgs oid own (j + 1) r
    match v, get? own j with
    | .sc .nil, some s => ((true, .sc (.arr (oid + 1 + j) 0)) :: rest.1, (oid + 1 + j, some (.arr s [] 0)) :: rest.2)
    | _, _ => ((b, v) :: rest.1, rest.2)

/- ## One operation -/

/-- What a closure captures. -/
def capC : V → Option (Bool × List Cell)
  | .sc (.c x) => some (true, [x])
  | _ => none
def capW : V → Option (Bool × List W)
  | .tu _ => none
  | .sc w => some (true, [w])
  | .ag cs => some (false, cs)


def vals (C : Ctx) (E : Nat → Option V) (l : List (Bool × Opd)) : List (Bool × V) := l.map fun x => (x.1, x.2.val C E)

def exec1 (C : Ctx) (E : Nat → Option V) (L : Nat → Option Obj) (oid : Nat) : VOp → Option (V × Upd)
  | .mv x => some (x.val C E, [])
  | .pick c a b => match c.val C E with
    | .sc (.c (.bool t)) => some (bif t then a.val C E else b.val C E, [])
    | _ => none
  | .bin op tag x y => match x.val C E, y.val C E with
    | .sc a, .sc b => (binW op tag a b).map fun r => (.sc (.c r), [])
    | _, _ => none
  | .un op x => match x.val C E with
    | .sc a => (unW op a).map fun r => (.sc (.c r), [])
    | _ => none
  | .new cells own => match L oid with
    | some _ => none
    | none => let x := ownW oid own 0 cells
      bif x.2.all (fun u => (L u.1).isNone) then some (.sc (.ptr oid 0), x.2 ++ [(oid, some (.box x.1))]) else none
  | .box x => match L oid, x.val C E with
    | none, .sc w => bif notUn w then some (.sc (.ptr oid 0), [(oid, some (.box [w]))]) else none
    | none, .ag cs => bif cs.all notUn then some (.sc (.ptr oid 0), [(oid, some (.box cs))]) else none
    | _, _ => none
  | .build zero parts => match listM (fun (x : Nat × Nat × Opd) => match x.2.2.val C E with
        | .tu _ => none
        | v => bif v.cells.length == x.2.1 && v.cells.all notUn then some (x.1, v.cells) else none) parts with
    | none => none
    | some ps => (fillW zero ps).map fun cs => (.ag cs, [])
  | .mkSl s parts => match L oid with
    | some _ => none
    | none => match listM (fun (x : Opd) => match x.val C E with
        | .tu _ => none
        | v => bif v.cells.length == s && v.cells.all notUn then some v.cells else none) parts with
      | none => none
      | some rows => some (.sc (.arr oid rows.length), [(oid, some (.arr s rows 0))])
  | .load ag n a => match a.val C E with
    | .sc (.ptr k off) => match L k with
      | some (.box cells) => match cut cells off n with
        | some cs => (asV ag cs).map fun v => (v, [])
        | none => none
      | _ => none
    | .sc (.el k N i off) => match L k with
      | some (.arr _ rows _) => bif rows.length == N then match rows[i]? with
        | some row => match cut row off n with
          | some cs => (asV ag cs).map fun v => (v, [])
          | none => none
        | none => none
        else none
      | _ => none
    | .sc (.c (.ro row off)) => match cut row off n with
      | some cs => (asV ag (cs.map W.c)).map fun v => (v, [])
      | none => none
    | _ => none
  | .store n a x own => match x.val C E with
    | .tu _ => none
    | v => let y := ownW oid own 0 v.cells
      bif v.cells.length == n && v.cells.all notUn && y.2.all (fun u => (L u.1).isNone) then match a.val C E with
      | .sc (.ptr k off) => match L k with
        | some (.box cells) => (splice cells off y.1).map fun cs => (.sc .un, y.2 ++ [(k, some (.box cs))])
        | _ => none
      | .sc (.el k N i off) => match L k with
        | some (.arr s rows p) => bif rows.length == N && Nat.ble p i then match rows[i]? with
          | some row => (splice row off y.1).map fun cs => (.sc .un, y.2 ++ [(k, some (.arr s (setRow rows i cs) p))])
          | none => none
          else none
        | _ => none
      | _ => none
      else none
  | .fld off a => onBy L off (a.val C E)
  | .part ag off n x => match x.val C E with
    | .ag cs => match cut cs off n with
      | some cs => (asV ag cs).map fun v => (v, [])
      | none => none
    | _ => none
  | .idxA s x i => match x.val C E with
    | .sc (.c (.sl rows)) => match natBelow (i.val C E) rows.length with
      | some j => match rows[j]? with
        | some row => bif row.length == s then some (.sc (.c (.ro row 0)), []) else none
        | none => none
      | none => none
    | .sc (.full rows) => match natBelow (i.val C E) rows.length with
      | some j => match rows[j]? with
        | some row => bif row.length == s then some (.sc (.c (.ro row 0)), []) else none
        | none => none
      | none => none
    | .sc (.arr k n) => match L k with
      | some (.arr s' rows _) => bif rows.length == n && s' == s then
          (natBelow (i.val C E) n).map fun j => (.sc (.el k n j 0), [])
        else none
      | _ => none
    | .sc (.vw k N lo n) => match L k with
      | some (.arr s' rows _) => bif rows.length == N && Nat.ble (lo + n) N && s' == s then
          (natBelow (i.val C E) n).map fun j => (.sc (.el k N (lo + j) 0), [])
        else none
      | _ => none
    | _ => none
  | .idxAA s len x i => match natBelow (i.val C E) len with
    | none => none
    | some j => onBy L (j * s) (x.val C E)
  | .idxS x i => match x.val C E with
    | .sc (.c (.str s)) => match natBelow (i.val C E) s.length with
      | some j => (s[j]?).map fun b => (.sc (.c (.int .u8 b.toNat)), [])
      | none => none
    | _ => none
  | .slS x lo hi => match x.val C E with
    | .sc (.c (.str s)) => match boundOr (hi.map (·.val C E)) s.length s.length with
      | none => none
      | some h => (boundOr (lo.map (·.val C E)) 0 h).map fun l => (.sc (.c (.str ((s.take h).drop l))), [])
    | _ => none
  | .sl s x lo hi mx => slice1 L s (x.val C E) (lo.map (·.val C E)) (hi.map (·.val C E)) (mx.map (·.val C E))
  | .len str x => bif isStr (x.val C E) == str then (lenV L (x.val C E)).map fun n => (.sc (.c (.int .i64 n)), []) else none
  | .mx x y => match x.val C E, y.val C E with
    | .sc (.c (.int k a)), .sc (.c (.int _ b)) => some (.sc (.c (.int k (if b > a then b else a))), [])
    | _, _ => none
  | .mn x y => match x.val C E, y.val C E with
    | .sc (.c (.int k a)), .sc (.c (.int _ b)) => some (.sc (.c (.int k (if b < a then b else a))), [])
    | _, _ => none
  | .app s bytes mk x y => append1 L oid s bytes mk (x.val C E) (y.val C E)
  | .mkS s bytes zero n => match L oid, intOf (n.val C E) with
    | none, some (.ofNat m) => bif Nat.ble (m * bytes) maxBytes && zero.length == s && Nat.blt 0 s && Nat.ble m maxRows then
        some (.sc (.arr oid m), [(oid, some (.arr s (List.replicate m zero) 0))]) else none
    | _, _ => none
  | .fn f caps => match listM capC (caps.map (·.val C E)) with
    | some l => some (.sc (.c (.fn f (l.map (·.1)) (l.map (·.2)))), [])
    | none => match listM capW (caps.map (·.val C E)) with
      | some l => some (.sc (.clo f (l.map (·.1)) (l.map (·.2))), [])
      | none => none
  | .call f args own =>
    let q := ownArgs oid own 0 (vals C E args)
    bif q.2.all (fun u => (L u.1).isNone) then match call1 C.call (updL L q.2) (oid + 32) (f.val C E) q.1 with
      | none => none
      | some (v, u) => some (v, q.2 ++ u)
    else none
  | .ext i x => match x.val C E with
    | .tu l => (l[i]?).map fun v => (v, [])
    | _ => none
  | .cvI k x => match x.val C E with
    | .sc (.c (.int _ n)) => some (.sc (.c (wrapI k n)), [])
    | _ => none
  | .ifc t x => match x.val C E with
    | .sc (.c y) => some (.sc (.c (.ifc t true [y])), [])
    | .sc w => bif notUn w then some (.sc (.ifw t true [w]), []) else none
    | .ag cs => match listM (fun w => match w with | .c y => some y | _ => none) cs with
      | some l => some (.sc (.c (.ifc t false l)), [])
      | none => some (.sc (.ifw t false cs), [])
    | .tu _ => none
  | .nn x => match x.val C E with
    | .sc (.ptr k o) => some (.sc (.ptr k o), [])
    | .sc (.c (.ro r o)) => some (.sc (.c (.ro r o)), [])
    | .sc (.el k N i o) => bif elOk L k N i then some (.sc (.el k N i o), []) else none
    | _ => none

/-- The value with its nil cells made arrays, where that is asked for. -/
def ownV (oid : Nat) (own : List (Nat × Nat)) (L : Nat → Option Obj) (r : V × Upd) : Option (V × Upd) :=
  match own with
  | [] => some r
  | _ => match r.1 with
    | .sc w => let x := ownW oid own 0 [w]; bif x.2.all (fun u => (L u.1).isNone) then x.1.head?.map fun w => (.sc w, r.2 ++ x.2) else none
    | .ag cs => let x := ownW oid own 0 cs; bif x.2.all (fun u => (L u.1).isNone) then some (.ag x.1, r.2 ++ x.2) else none
    | .tu _ => none

/-- One operation with its guard: the value for its slot, and what becomes of the objects. -/
def runO (C : Ctx) (o : VOper) (E : Nat → Option V) (L : Nat → Option Obj) : Option (V × Upd) :=
  match o.guard with
  | none => match exec1 C E L o.oid o.op with
    | none => none
    | some r => ownV o.oid o.own L r
  | some (t, want) => match E t with
    | some (.sc (.c (.bool b))) => bif b == want then
        match exec1 C E L o.oid o.op with
        | none => none
        | some r => ownV o.oid o.own L r
      else some (.sc .sk, [])
    | some (.sc .sk) => some (.sc .sk, [])
    | _ => none

def execO (C : Ctx) (o : VOper) (s : St) : Option St :=
  match runO C o (get? s.env) (look s.objs) with
  | none => none
  | some (v, u) => some ⟨match o.dst with | some d => put s.env d v | none => s.env, putAll s.objs u⟩

def execL (C : Ctx) : List VOper → St → Option St
  | [], s => some s
  | o :: r, s => match execO C o s with
    | none => none
    | some s => execL C r s

/- ## What an operation looks at, where the order is open -/

def V.direct : V → List Nat
  | .sc (.arr k _) | .sc (.vw k _ _ _) | .sc (.ptr k _) | .sc (.el k _ _ _) => [k]
  | _ => []

/-- Does the operation look at no object and change none? -/
def plainOp : VOp → Bool
  | .mv _ | .pick .. | .bin .. | .un .. | .build .. | .part .. | .idxS .. | .slS .. | .mx .. | .mn .. | .fn .. | .ext .. | .cvI .. | .ifc .. => true
  | _ => false

/-- (all objects may matter, the objects that are looked at) -/
def recO (C : Ctx) (E : Nat → Option V) (o : VOper) (u : Upd) : Bool × List Nat :=
  match o.own with
  | _ :: _ => (true, [])
  | [] => match o.op with
    | .load _ _ a => (false, (a.val C E).direct)
    | .fld _ a => (false, (a.val C E).direct)
    | .nn a => (false, (a.val C E).direct)
    | .idxA _ x _ => (false, (x.val C E).direct)
    | .idxAA _ _ x _ => (false, (x.val C E).direct)
    | .len _ x => (false, (x.val C E).direct)
    | .sl _ x _ _ _ => (false, (x.val C E).direct)
    | .new _ [] => (false, [o.oid])
    | .box _ => (false, [o.oid])
    | .mkSl _ _ => (false, [o.oid])
    | .mkS .. => (false, [o.oid])
    | .app _ _ true x y => (false, o.oid :: (x.val C E).direct ++ (y.val C E).direct)
    | .call f args [] => match f.val C E with
      | .sc (.c _) => bif args.all (fun x => (x.2.val C E).refs.isEmpty) then (false, u.map (·.1)) else (true, [])
      | _ => (true, [])
    | op => bif plainOp op then (false, []) else (true, [])

structure Rec where
  all : Bool
  reads : List Nat
  keys : List Nat
  deriving Inhabited

def Rec.touch (r : Rec) : Bool := r.all || !r.reads.isEmpty || !r.keys.isEmpty

def apart (a b : List Nat) : Bool := a.all fun k => !b.contains k

def indep (a b : Rec) : Bool := !a.touch || !b.touch || (!a.all && !b.all && apart a.reads b.keys && apart b.reads a.keys && apart a.keys b.keys)

def execR (C : Ctx) : List VOper → St → Option (List Rec × St)
  | [], s => some ([], s)
  | o :: r, s => match runO C o (get? s.env) (look s.objs) with
    | none => none
    | some (v, u) =>
      let q := recO C (get? s.env) o u
      match execR C r ⟨match o.dst with | some d => put s.env d v | none => s.env, putAll s.objs u⟩ with
      | none => none
      | some (rs, s') => some (⟨q.1, q.2, u.map (·.1)⟩ :: rs, s')

def chkOk (recs : List Rec) (chk : List (Nat × Nat)) : Bool :=
  chk.all fun (i, j) => match recs[i]?, recs[j]? with | some a, some b => indep a b | _, _ => false

end Go.Vs
