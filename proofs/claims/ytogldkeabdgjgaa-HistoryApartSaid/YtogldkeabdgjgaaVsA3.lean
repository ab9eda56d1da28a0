/- The history's functions, as functions on data. -/
import Derived.Test.YtogldkeabdgjgaaVsA1
import Derived.Test.YtogldkeabdgjgaaVs31
import Derived.IntWalk
namespace Go.Vs.Try
open Go Go.Vs

def X0 : Oracle := fun _ _ _ => none
def gl0 : Nat → List Cell := fun _ => []
abbrev ev := evalFn T X0 gl0

def iv (n : Int) : V := .sc (.c (.int .i64 n))

def modI (a b : Int) : Int := if b < 1 then 0 else if a.tmod b < 0 then IntKind.i64.wrap (a.tmod b + b) else a.tmod b

theorem ble_dec (a b : Nat) : Nat.ble a b = decide (a ≤ b) := by
  cases h : Nat.ble a b with
  | true => simpa using Nat.le_of_ble_eq_true h
  | false => simpa using Nat.not_le_of_not_ble_eq_true (by simp [h])

theorem blt_dec (a b : Nat) : Nat.blt a b = decide (a < b) := ble_dec (a + 1) b

theorem mod_eq (n : Nat) (a b : Int) : ev (n + 1) 9 [iv a, iv b] [] = some (iv (modI a b), []) := by
  unfold modI
  by_cases h1 : b < 1
  · simp [ev, evalFn, T, tab, get?, run, runOps, execL, execO, runO, exec1, ownV, Opd.val, iv, put, look, putAll, enumF, St.live, binW, isShift, intBin, finish, listM, resV, notTu, V.toD, W.toC, deep, V.cells, W.ids, export1, packR, V.ren, W.ren, ble_dec, reach, indexIn, V.refs, W.refs, v9, h1]
  · have hb : b ≠ 0 := by omega
    by_cases h2 : a.tmod b < 0
    · simp [ev, evalFn, T, tab, get?, run, runOps, execL, execO, runO, exec1, ownV, Opd.val, iv, put, look, putAll, enumF, St.live, binW, isShift, intBin, finish, listM, resV, notTu, V.toD, W.toC, deep, V.cells, W.ids, export1, packR, V.ren, W.ren, ble_dec, reach, indexIn, V.refs, W.refs, v9, h1, h2, hb, wrapI]
    · simp [ev, evalFn, T, tab, get?, run, runOps, execL, execO, runO, exec1, ownV, Opd.val, iv, put, look, putAll, enumF, St.live, binW, isShift, intBin, finish, listM, resV, notTu, V.toD, W.toC, deep, V.cells, W.ids, export1, packR, V.ren, W.ren, ble_dec, reach, indexIn, V.refs, W.refs, v9, h1, h2, hb]

theorem ev_succ (n : Nat) (f : FuncId) (args : List V) (objs : List Vs.Obj) : ev (n + 1) f args objs = match T f with
    | none => X0 f args objs
    | some vf => bif args.length == vf.nparams && Nat.ble objs.length 64 then
        match run ⟨ev n, gl0⟩ n vf.body ⟨enumF 0 args, enumF 0 (objs.map some)⟩ with
        | some (.exit _, _) => none
        | some (_, s) => finish vf.keep objs.length vf.results s
        | none => none
      else none := rfl

def inner (m : Int) : List Cell := [.int .i64 0, .bool false, .str [120], .bool false, .int .i64 0, .str [], .int .i64 0, .int .i64 0, .sl [], .int .i64 3, .int .i64 0, .str [], .int .i64 m, .sl [], .sl [], .int .i64 0, .str [], .int .i64 0, .int .i64 0, .sl []]
def itemC (m : Int) : List Cell := [.sl [], .sl [inner m], .sl [], .sl [], .sl []]
def itemV (m : Int) : V := .ag ((itemC m).map W.c)
def hv (ms : List Int) : V := .sc (.c (.sl (ms.map itemC)))

theorem item_eq (n : Nat) (a : Int) : ev (n + 2) 13 [iv a] [] = some (itemV (modI a 1000), []) := by
  rw [ev_succ]
  have hm := mod_eq n a 1000
  unfold iv at hm
  simp [T, tab, get?, run, runOps, execL, execO, runO, exec1, ownV, Opd.val, iv, put, look, putAll, enumF, St.live, finish, listM, resV, notTu, V.toD, W.toC, deep, V.cells, W.ids, export1, packR, V.ren, W.ren, ble_dec, cut, asV, splice, ownW, updL, notUn, fillW, call1, calleeOf, argsOf, vals, ownArgs, reach, indexIn, newIds, updOf, V.refs, W.refs, v13, hm, itemV, itemC, inner]

theorem hv_len (ms : List Int) : (ms.map itemC).length = ms.length := by simp

theorem itemC_row (ms : List Int) : ∀ r ∈ ms.map itemC, r.length = 5 := by
  intro r hr
  obtain ⟨m, _, rfl⟩ := List.mem_map.1 hr
  rfl

theorem fit_item (ms : List Int) : rowsFit 5 (ms.map itemC) = true := by
  cases ms <;> rfl

theorem wrap_small (x : Int) (h : -1000 ≤ x ∧ x ≤ 1000) : IntKind.i64.wrap x = x := Go.IntWalk.i64_in x (by omega)

theorem natBelow_nat (k : IntKind) (n b : Nat) : natBelow (.sc (.c (.int k (n : Int)))) b = bif Nat.blt n b then some n else none := rfl

theorem wrap_nat (n : Nat) (h : n ≤ 1000) : wrapI .i64 (n : Int) = .int .i64 n := by
  simp only [wrapI]
  rw [wrap_small _ (by omega)]

theorem dropLast_map (ms : List Int) (m : Int) : ((m :: ms).map itemC).take ms.length = ((m :: ms).dropLast).map itemC := by
  rw [← List.map_take, List.dropLast_eq_take]
  simp

theorem toC_c (L : Nat → Option Vs.Obj) (d : Nat) (x : Cell) : W.toC L d (.c x) = some x := by cases d <;> rfl
theorem ids_c (L : Nat → Option Vs.Obj) (d : Nat) (x : Cell) : W.ids L d (.c x) = [] := by cases d <;> rfl

theorem listM_c (L : Nat → Option Vs.Obj) (d : Nat) : ∀ r : List Cell, listM (W.toC L d) (r.map W.c) = some r
  | [] => rfl
  | x :: r => by simp only [List.map_cons, listM, toC_c, listM_c L d r]

theorem listM_cc (L : Nat → Option Vs.Obj) (d : Nat) : ∀ rows : List (List Cell), listM (listM (W.toC L d)) (rows.map fun x => x.map W.c) = some rows
  | [] => rfl
  | x :: r => by simp only [List.map_cons, listM, listM_c, listM_cc L d r]

theorem ids_cc (L : Nat → Option Vs.Obj) (d : Nat) : ∀ rows : List (List Cell), (rows.map fun x => x.map W.c).flatMap (fun r => r.flatMap (W.ids L d)) = [] := by
  intro rows
  simp [List.flatMap_eq_nil_iff, ids_c]

theorem all_items (ms : List Int) : ((ms.map itemC).map fun x => x.map W.c).all (fun r => r.length == 5 && r.all notUn) = true := by
  simp [itemC, notUn]

theorem undo10_eq (n : Nat) (ms : List Int) (hl : ms.length ≤ 40) : ev (n + 1) 10 [hv ms] [] = some (.tu [hv ms.dropLast, .sc (.c (.bool (!ms.isEmpty)))], []) := by
  rw [ev_succ]
  cases ms with
  | nil => rfl
  | cons m ms =>
    have h1 : ms.length ≤ 39 := by simpa using hl
    have hw := wrap_nat ms.length (by omega)
    have hf := fit_item (m :: ms)
    have h2 : ¬ ((ms.length : Int) < 0) := by omega
    have h3 : ms.length < ms.length + 1 + 1 := by omega
    have hd := dropLast_map ms m
    simp only [List.map_cons] at hf hd
    simp [T, tab, get?, run, runOps, execL, execO, runO, exec1, ownV, Opd.val, put, look, putAll, enumF, St.live, binW, isShift, intBin, finish, listM, resV, notTu, V.toD, W.toC, deep, V.cells, W.ids, export1, packR, V.ren, W.ren, ble_dec, blt_dec, reach, indexIn, V.refs, W.refs, lenV, isStr, v10, hv, hw, slice1, boundOr, natBelow_nat, hf, h2, h3, hd]

theorem num18_eq (n : Nat) (m : Int) : ev (n + 1) 18 [itemV m] [] = some (iv m, []) := by
  rw [ev_succ]
  simp [T, tab, get?, run, runOps, execL, execO, runO, exec1, ownV, Opd.val, iv, put, look, putAll, enumF, St.live, binW, isShift, intBin, finish, listM, resV, notTu, V.toD, W.toC, deep, V.cells, W.ids, export1, packR, V.ren, W.ren, ble_dec, blt_dec, cut, asV, notUn, reach, indexIn, V.refs, W.refs, lenV, isStr, onBy, v18, itemV, itemC, inner, natBelow]

theorem all_rows (rows : List (List Cell)) (h : ∀ r ∈ rows, r.length = 5) : (rows.map fun x => x.map W.c).all (fun r => r.length == 5 && r.all notUn) = true := by
  rw [List.all_eq_true]
  intro r hr
  obtain ⟨x, hx, rfl⟩ := List.mem_map.1 hr
  simp [h x hx, notUn]

theorem fit_rows (rows : List (List Cell)) (h : ∀ r ∈ rows, r.length = 5) : rowsFit 5 rows = true := by
  cases rows with
  | nil => rfl
  | cons r rs => simp [rowsFit, h r (by simp)]

def rv (rows : List (List Cell)) : V := .sc (.c (.sl rows))

theorem undo11_rows (n k : Nat) (rows : List (List Cell)) (hr : ∀ r ∈ rows, r.length = 5) (hk : rows.length = k + 1) (hl : k ≤ 39) : ev (n + 1) 11 [rv rows] [] = some (.tu [rv (rows.take k), .sc (.c (.bool true))], []) := by
  rw [ev_succ]
  have hw := wrap_nat k (by omega)
  have hf := fit_rows rows hr
  have h3 : k < k + 1 + 1 := by omega
  have h4 : ((k : Int) + 1 == 0) = false := by simp; omega
  have h5 : k ≤ maxRows := by unfold maxRows; omega
  have h6 : k * 120 ≤ maxBytes := by unfold maxBytes; omega
  have ha := all_rows (rows.take k) fun r h => hr r (List.mem_of_mem_take h)
  have hm : min k (k + 1) = k := by omega
  generalize hq : rows.take k = rows' at ha
  have hl' : rows'.length = k := by rw [← hq]; simp [hk]
  simp [T, tab, get?, run, runOps, execL, execO, runO, exec1, ownV, Opd.val, put, look, putAll, enumF, St.live, binW, isShift, intBin, finish, listM, resV, notTu, V.toD, W.toC, deep, V.cells, W.ids, export1, packR, V.ren, W.ren, ble_dec, blt_dec, reach, indexIn, V.refs, W.refs, lenV, isStr, rowsOf, v11, rv, hk, hw, slice1, boundOr, natBelow_nat, hf, h3, h4, h5, h6, hq, hl', append1, listM_cc, ids_cc, ha, -List.map_map, -List.all_map]

theorem listM_snoc {α γ : Type} {f : α → Option γ} : ∀ {l : List α} {a : List γ} {x : α} {b : γ}, listM f l = some a → f x = some b → listM f (l ++ [x]) = some (a ++ [b])
  | [], a, x, b, h1, h2 => by
    simp only [listM, Option.some.injEq] at h1
    subst h1
    simp only [List.nil_append, listM, h2]
  | y :: l, a, x, b, h1, h2 => by
    simp only [listM] at h1
    cases hy : f y with
    | none => simp [hy] at h1
    | some c =>
      simp only [hy] at h1
      cases hl : listM f l with
      | none => simp [hl] at h1
      | some a' =>
        simp only [hl, Option.some.injEq] at h1
        subst h1
        simp only [List.cons_append, listM, hy, listM_snoc hl h2]

theorem push12_rows (n k : Nat) (rows : List (List Cell)) (it : List Cell) (hr : ∀ r ∈ rows, r.length = 5) (hit : it.length = 5) (hk : rows.length = k) (hl : k ≤ 40) :
    ev (n + 1) 12 [rv rows, .ag (it.map W.c)] [] = some (rv (rows.drop (k - 29) ++ [it]), []) := by
  rw [ev_succ]
  have hw : wrapI .i64 ((k : Int) - 30) = .int .i64 ((k : Int) - 30) := by
    simp only [wrapI]
    rw [wrap_small _ (by omega)]
  have hw2 : wrapI .i64 ((k : Int) - 30 + 1) = .int .i64 ((k - 29 : Int)) := by
    simp only [wrapI]
    rw [wrap_small _ (by omega)]
    congr 1
    omega
  have hw3 : (if (k : Int) - 29 < 0 then (0 : Int) else (k : Int) - 29) = ((k - 29 : Nat) : Int) := by
    split <;> omega
  have h3 : k < k + 1 := by omega
  have h4 : k - 29 < k + 1 := by omega
  have h5 : (it.map W.c).all notUn = true := by simp [notUn]
  have hf := fit_rows rows hr
  have hxl : (it.map W.c).length = 5 := by simp [hit]
  have htk : rows.take k = rows := List.take_of_length_le (by omega)
  have htx : (it.map W.c).take 5 = it.map W.c := List.take_of_length_le (by simp [hit])
  generalize hq : rows.drop (k - 29) = rows'
  have hfin : ∀ (L : Nat → Option Vs.Obj) (d : Nat), listM (listM (W.toC L d)) ((rows'.map fun x => x.map W.c) ++ [it.map W.c]) = some (rows' ++ [it]) := fun L d => listM_snoc (listM_cc L d rows') (listM_c L d it)
  have hids : ∀ (L : Nat → Option Vs.Obj) (d : Nat), ((rows'.map fun x => x.map W.c) ++ [it.map W.c]).flatMap (fun r => r.flatMap (W.ids L d)) = [] := fun L d => by simp [ids_c]
  generalize hxs : it.map W.c = xs at h5 hxl htx hfin hids
  have hr' : ∀ r ∈ rows', r.length = 5 := by rw [← hq]; exact fun r h => hr r (List.mem_of_mem_drop h)
  have hl' : rows'.length ≤ 40 := by rw [← hq]; simp; omega
  have h6 : rows'.length + 1 ≤ maxRows := by unfold maxRows; omega
  have h7 : (rows'.length + 1) * 120 ≤ maxBytes := by unfold maxBytes; omega
  have h8 : (rows'.all fun r => r.length == 5) = true := by rw [List.all_eq_true]; intro r h; simp [hr' r h]
  simp [T, tab, get?, run, runOps, execL, execO, runO, exec1, ownV, Opd.val, put, look, putAll, enumF, St.live, binW, isShift, intBin, finish, listM, resV, notTu, V.toD, W.toC, deep, V.cells, W.ids, export1, packR, V.ren, W.ren, ble_dec, blt_dec, cut, asV, reach, indexIn, V.refs, W.refs, lenV, isStr, rowsOf, v12, rv, hk, hw, hw2, hw3, h3, h4, h5, h6, h7, h8, hxl, htx, hfin, hids, htk, hq, hf, slice1, boundOr, natBelow_nat, execR, recO, plainOp, V.direct, chkOk, indep, Rec.touch, apart, append1, -List.map_map, -List.all_map]

theorem top15_nil (n : Nat) : ev (n + 1) 15 [rv []] [] = some (.tu [.ag [.c (.sl []), .c (.sl []), .c (.sl []), .c (.sl []), .c (.sl [])], .sc (.c (.bool false))], []) := rfl

theorem top15_rows (n k : Nat) (rows : List (List Cell)) (row : List Cell) (hk : rows.length = k + 1) (hl : k ≤ 39) (hrow : rows[k]? = some row) (h5 : row.length = 5) : ev (n + 1) 15 [rv rows] [] = some (.tu [.ag (row.map W.c), .sc (.c (.bool true))], []) := by
  rw [ev_succ]
  have hw := wrap_nat k (by omega)
  have h4 : ((k : Int) + 1 == 0) = false := by simp; omega
  have h6 : (row.map W.c).all notUn = true := by simp [notUn]
  have hxl : (row.map W.c).length = 5 := by simp [h5]
  have htr : row.take 5 = row := List.take_of_length_le (by omega)
  have hlc : ∀ (L : Nat → Option Vs.Obj) (d : Nat), listM (W.toC L d) (row.map W.c) = some row := fun L d => listM_c L d row
  have hli : ∀ (L : Nat → Option Vs.Obj) (d : Nat), (row.map W.c).all (fun x => (W.ids L d x).all fun k => decide (64 ≤ k)) = true := fun L d => by simp [ids_c]
  have htx : (row.map W.c).take 5 = row.map W.c := List.take_of_length_le (by simp [h5])
  have hrn : ∀ (ρ : Nat → Option Nat) (d : Nat), (row.map W.c).map (W.ren ρ d) = row.map W.c := fun ρ d => by
    rw [List.map_map]
    exact List.map_congr_left fun x _ => by cases d <;> rfl
  have hrow2 : ∀ h : k < rows.length, rows[k]'h = row := fun h => by simpa [h] using hrow
  generalize hxs : row.map W.c = xs at h6 hxl htx hlc hli hrn
  simp [hrow2, ownW_nil, T, tab, get?, run, runOps, execL, execO, runO, exec1, ownV, Opd.val, put, look, putAll, enumF, St.live, binW, isShift, intBin, finish, listM, resV, notTu, V.toD, W.toC, deep, V.cells, W.ids, export1, packR, V.ren, W.ren, ble_dec, blt_dec, cut, asV, splice, ownW, notUn, fillW, reach, indexIn, V.refs, W.refs, lenV, isStr, v15, rv, hk, hw, h4, h5, h6, hxl, htr, htx, hlc, hli, hrn, hxs, natBelow_nat, -List.map_map, -List.all_map]

theorem top16_nil (n : Nat) : ev (n + 1) 16 [rv []] [] = some (.tu [.ag [.c (.sl []), .c (.sl []), .c (.sl []), .c (.sl []), .c (.sl [])], .sc (.c (.bool false))], []) := rfl

theorem top16_rows (n k : Nat) (rows : List (List Cell)) (row : List Cell) (hk : rows.length = k + 1) (hl : k ≤ 39) (hrow : rows[k]? = some row) (h5 : row.length = 5) : ev (n + 1) 16 [rv rows] [] = some (.tu [.ag (row.map W.c), .sc (.c (.bool true))], []) := by
  rw [ev_succ]
  have hw := wrap_nat k (by omega)
  have h4 : ((k : Int) + 1 == 0) = false := by simp; omega
  have h6 : (row.map W.c).all notUn = true := by simp [notUn]
  have hxl : (row.map W.c).length = 5 := by simp [h5]
  have htr : row.take 5 = row := List.take_of_length_le (by omega)
  have hlc : ∀ (L : Nat → Option Vs.Obj) (d : Nat), listM (W.toC L d) (row.map W.c) = some row := fun L d => listM_c L d row
  have hli : ∀ (L : Nat → Option Vs.Obj) (d : Nat), (row.map W.c).all (fun x => (W.ids L d x).all fun k => decide (64 ≤ k)) = true := fun L d => by simp [ids_c]
  have htx : (row.map W.c).take 5 = row.map W.c := List.take_of_length_le (by simp [h5])
  have hrn : ∀ (ρ : Nat → Option Nat) (d : Nat), (row.map W.c).map (W.ren ρ d) = row.map W.c := fun ρ d => by
    rw [List.map_map]
    exact List.map_congr_left fun x _ => by cases d <;> rfl
  have hrow2 : ∀ h : k < rows.length, rows[k]'h = row := fun h => by simpa [h] using hrow
  generalize hxs : row.map W.c = xs at h6 hxl htx hlc hli hrn
  simp [hrow2, ownW_nil, T, tab, get?, run, runOps, execL, execO, runO, exec1, ownV, Opd.val, put, look, putAll, enumF, St.live, binW, isShift, intBin, finish, listM, resV, notTu, V.toD, W.toC, deep, V.cells, W.ids, export1, packR, V.ren, W.ren, ble_dec, blt_dec, cut, asV, splice, ownW, notUn, fillW, reach, indexIn, V.refs, W.refs, lenV, isStr, v16, rv, hk, hw, h4, h5, h6, hxl, htr, htx, hlc, hli, hrn, hxs, natBelow_nat, -List.map_map, -List.all_map]

theorem push14_rows (n k : Nat) (rows : List (List Cell)) (it : List Cell) (hr : ∀ r ∈ rows, r.length = 5) (hit : it.length = 5) (hk : rows.length = k) (hl : k ≤ 29) :
    ev (n + 4) 14 [rv rows, .ag (it.map W.c)] [] = some (rv (rows ++ [it]), []) := by
  rw [ev_succ]
  have h3 : ¬ ((30 : Int) < (k : Int) + 1) := by omega
  have h5 : (it.map W.c).all notUn = true := by simp [notUn]
  have hxl : (it.map W.c).length = 5 := by simp [hit]
  have htx : (it.map W.c).take 5 = it.map W.c := List.take_of_length_le (by simp [hit])
  have ha := all_rows rows hr
  have hfin : ∀ (L : Nat → Option Vs.Obj) (d : Nat), listM (listM (W.toC L d)) ((rows.map fun x => x.map W.c) ++ [it.map W.c]) = some (rows ++ [it]) := fun L d => listM_snoc (listM_cc L d rows) (listM_c L d it)
  have hids : ∀ (L : Nat → Option Vs.Obj) (d : Nat), ((rows.map fun x => x.map W.c) ++ [it.map W.c]).flatMap (fun r => r.flatMap (W.ids L d)) = [] := fun L d => by simp [ids_c]
  have hrl : (rows.map fun x => x.map W.c).length = k := by simp [hk]
  generalize hrs : (rows.map fun x => x.map W.c) = rs at ha hfin hids hrl
  generalize hxs : it.map W.c = xs at h5 hxl htx hfin hids
  have h6 : k ≤ maxRows := by unfold maxRows; omega
  have h7 : k * 120 ≤ maxBytes := by unfold maxBytes; omega
  have h8 : k + 1 ≤ maxRows := by unfold maxRows; omega
  have h9 : (k + 1) * 120 ≤ maxBytes := by unfold maxBytes; omega
  simp [T, tab, get?, run, runOps, execL, execO, runO, exec1, ownV, Opd.val, put, look, putAll, enumF, St.live, binW, isShift, intBin, finish, listM, resV, notTu, V.toD, W.toC, deep, V.cells, W.ids, export1, packR, V.ren, W.ren, ble_dec, cut, asV, reach, indexIn, V.refs, W.refs, lenV, isStr, rowsOf, v14, l14_0, rv, h3, h5, h6, h7, h8, h9, hxl, htx, hfin, hids, hrl, hrs, ha, execR, recO, plainOp, V.direct, chkOk, indep, Rec.touch, apart, append1, iter, -List.map_map, -List.all_map]

theorem push14_full (n : Nat) (rows : List (List Cell)) (it : List Cell) (hr : ∀ r ∈ rows, r.length = 5) (hit : it.length = 5) (hk : rows.length = 30) :
    ev (n + 4) 14 [rv rows, .ag (it.map W.c)] [] = some (rv ((rows ++ [it]).drop 1), []) := by
  rw [ev_succ]
  have h5 : (it.map W.c).all notUn = true := by simp [notUn]
  have hxl : (it.map W.c).length = 5 := by simp [hit]
  have htx : (it.map W.c).take 5 = it.map W.c := List.take_of_length_le (by simp [hit])
  have ha := all_rows rows hr
  have hrl : (rows.map fun x => x.map W.c).length = 30 := by simp [hk]
  have hdr : (((rows.map fun x => x.map W.c) ++ [it.map W.c]).drop 1).take 30 = (((rows ++ [it]).drop 1).map fun x => x.map W.c) := by
    rw [List.take_of_length_le (by simp [hk])]
    simp
  have hfin : ∀ (L : Nat → Option Vs.Obj) (d : Nat), listM (listM (W.toC L d)) (((rows ++ [it]).drop 1).map fun x => x.map W.c) = some ((rows ++ [it]).drop 1) := fun L d => listM_cc L d _
  have hids : ∀ (L : Nat → Option Vs.Obj) (d : Nat), ((rows.map fun x => x.map W.c) ++ [it.map W.c]).flatMap (fun r => r.flatMap (W.ids L d)) = [] := fun L d => by simp [ids_c]
  generalize hrw : (rows ++ [it]).drop 1 = rows' at hdr hfin
  generalize hrs : (rows.map fun x => x.map W.c) = rs at ha hids hrl hdr
  generalize hxs : it.map W.c = xs at h5 hxl htx hids hdr
  generalize hcs : (rows'.map fun x => x.map W.c) = cs at hdr hfin
  have h6 : 31 ≤ maxRows := by decide
  have h7 : 31 * 120 ≤ maxBytes := by decide
  have h8 : 30 ≤ maxRows := by decide
  have h9 : 30 * 120 ≤ maxBytes := by decide
  simp only [Nat.reduceMul] at h7 h9
  rw [List.drop_one] at hdr
  simp [T, tab, get?, run, runOps, execL, execO, runO, exec1, ownV, Opd.val, put, look, putAll, enumF, St.live, binW, isShift, intBin, finish, listM, resV, notTu, V.toD, W.toC, deep, V.cells, W.ids, export1, packR, V.ren, W.ren, ble_dec, blt_dec, cut, asV, reach, indexIn, V.refs, W.refs, lenV, isStr, rowsOf, v14, l14_0, rv, h5, h6, h7, h8, h9, hxl, htx, hfin, hids, hrl, hrs, ha, hdr, execR, recO, plainOp, V.direct, chkOk, indep, Rec.touch, apart, append1, iter, slice1, boundOr, natBelow, -List.map_map, -List.all_map]

abbrev cx (n : Nat) : Vs.Ctx := ⟨ev n, gl0⟩

/-- Ahead of round i of 'same'. -/
def I17 (ms : List Int) (i : Nat) (s : St) : Prop := get? s.env 0 = some (hv ms) ∧ get? s.env 1 = some (hv ms) ∧ get? s.env 5 = some (.sc (.c (.int .i64 i))) ∧ s.objs = []

theorem round17 (n p : Nat) (ms : List Int) (hl : ms.length ≤ 40) (i : Nat) (hi : i < ms.length) (s : St) (h : I17 ms i s) : ∃ s', run (cx (n + 1)) p l17_0 s = some (.normal, s') ∧ I17 ms (i + 1) s' := by
  obtain ⟨h0, h1, h5, ho⟩ := h
  have hn := num18_eq n
  obtain ⟨m, hm⟩ : ∃ m, ms[i]? = some m := ⟨_, List.getElem?_eq_getElem hi⟩
  have hrow : (ms.map itemC)[i]? = some (itemC m) := by simp [hm]
  obtain ⟨env, objs⟩ := s
  simp only at h0 h1 h5 ho
  subst ho
  simp only [hv] at h0 h1
  generalize hrs : ms.map itemC = rows at h0 h1 hrow
  have hk : rows.length = ms.length := by rw [← hrs]; simp
  have hlt : (i : Int) < (ms.length : Int) := by omega
  have hrow2 : ∀ h : i < rows.length, rows[i]'h = itemC m := fun h => by simpa [h] using hrow
  have hi5 : (itemC m).length = 5 := rfl
  have ht5 : (itemC m).take 5 = itemC m := rfl
  have hn' := hn m
  simp only [itemV, iv] at hn'
  have hlc : ∀ (L : Nat → Option Vs.Obj) (d : Nat), listM (W.toC L d) ((itemC m).map W.c) = some (itemC m) := fun L d => listM_c L d (itemC m)
  have hli : ∀ (L : Nat → Option Vs.Obj) (d : Nat), ((itemC m).map W.c).flatMap (W.ids L d) = [] := fun L d => by simp [List.flatMap_eq_nil_iff, ids_c]
  have hlr : ∀ (d : Nat), ((itemC m).map W.c).flatMap (W.refs d) = [] := fun d => by simp [List.flatMap_eq_nil_iff]; intro x _; cases d <;> rfl
  have hrn : ∀ (ρ : Nat → Option Nat) (d : Nat), ((itemC m).map W.c).map (W.ren ρ d) = (itemC m).map W.c := fun ρ d => by
    rw [List.map_map]
    exact List.map_congr_left fun x _ => by cases d <;> rfl
  have hw : wrapI .i64 ((i : Int) + 1) = .int .i64 ((i + 1 : Nat) : Int) := wrap_nat (i + 1) (by omega)
  generalize hit : itemC m = it at hrow hrow2 hi5 ht5 hn' hlc hli hlr hrn
  generalize hxs : it.map W.c = xs at hn' hlc hli hlr hrn
  simp [get?, run, runOps, execL, execO, runO, exec1, ownV, Opd.val, look, putAll, St.live, binW, isShift, intBin, listM, V.toD, deep, V.cells, V.ren, W.ren, ble_dec, blt_dec, cut, asV, updL, call1, calleeOf, argsOf, vals, ownArgs, reach, indexIn, newIds, updOf, V.refs, lenV, isStr, l17_0, h0, h1, h5, hk, hlt, hi, natBelow_nat, get?_put, execR, recO, plainOp, V.direct, chkOk, indep, Rec.touch, apart, hrow2, hi5, ht5, hxs, hn', hlc, hli, hlr, hrn, hw, I17, -List.map_map, -List.all_map]
  rw [← hrs]
  rfl

theorem last17 (n p : Nat) (ms : List Int) (s : St) (h : I17 ms ms.length s) : ∃ s', run (cx (n + 1)) p l17_0 s = some (.exit 0, s') ∧ s'.objs = [] := by
  obtain ⟨h0, h1, h5, ho⟩ := h
  obtain ⟨env, objs⟩ := s
  simp only at h0 h1 h5 ho
  subst ho
  simp only [hv] at h0 h1
  simp [run, runOps, execL, execO, runO, exec1, ownV, Opd.val, putAll, St.live, binW, isShift, intBin, lenV, isStr, l17_0, h0, h5, get?_put]


theorem loop17 (n p : Nat) (hp : 41 ≤ p) (ms : List Int) (hl : ms.length ≤ 40) (s : St) (h : I17 ms 0 s) : ∃ s', iter (run (cx (n + 1)) p l17_0) p s = some (.exit 0, s') ∧ s'.objs = [] := by
  obtain ⟨e, s', h1, h2⟩ := iter_inv (I17 ms) (R := fun x => x.1 = .exit 0 ∧ x.2.objs = []) (m := ms.length) (f := run (cx (n + 1)) p l17_0) (fun i s hi h => by
    by_cases hlt : i < ms.length
    · obtain ⟨s', h1, h2⟩ := round17 n p ms hl i hlt s h
      exact .inl ⟨s', h1, hlt, h2⟩
    · have : i = ms.length := by omega
      subst this
      obtain ⟨s', h1, h2⟩ := last17 n p ms s h
      exact .inr ⟨_, s', h1, by simp, rfl, h2⟩) p 0 s (Nat.zero_le _) (by omega) h
  obtain ⟨h2, h3⟩ := h2
  simp only at h2 h3
  subst h2
  exact ⟨s', h1, h3⟩

theorem same17_eq (n : Nat) (hn : 41 ≤ n) (ms : List Int) (hl : ms.length ≤ 40) : ev (n + 1) 17 [hv ms, hv ms] [] = some (.sc (.c (.bool true)), []) := by
  obtain ⟨q, rfl⟩ : ∃ q, n = q + 1 := ⟨n - 1, by omega⟩
  rw [ev_succ]
  obtain ⟨s', e, _⟩ := loop17 q (q + 1) hn ms hl ⟨[(0, hv ms), (1, hv ms), (4, .sc (.c (.bool false))), (6, hv ms), (7, .sc (.c (.int .i64 (ms.length : Nat)))), (8, hv ms), (9, .sc (.c (.int .i64 (ms.length : Nat)))), (10, .sc (.c (.bool false))), (5, .sc (.c (.int .i64 0)))], []⟩ ⟨rfl, rfl, rfl, rfl⟩
  simp only [hv, cx] at e
  simp [T, tab, get?, run, runOps, execL, execO, runO, exec1, ownV, Opd.val, put, look, putAll, enumF, St.live, binW, isShift, intBin, finish, listM, resV, notTu, V.toD, W.toC, deep, V.cells, W.ids, export1, packR, V.ren, W.ren, ble_dec, reach, indexIn, V.refs, W.refs, lenV, isStr, v17, hv, e, get?_put, -List.map_map, -List.all_map]

end Go.Vs.Try
