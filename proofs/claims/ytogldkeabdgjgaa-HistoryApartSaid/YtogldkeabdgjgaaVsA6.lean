/- The laws of the history, evaluated (6). -/
import Derived.Test.YtogldkeabdgjgaaVsA5
namespace Go.Vs.Try
open Go Go.Vs

theorem first299 : ev 299 6 [] [] = some (.sc (.c (.bool true)), []) := by kernel_rfl

theorem runs_eq (zs : List Int) : ev 300 3 [rv (intRows .i64 zs)] [] = some (.sc (.c (.bool true)), []) := by
  have h1 := first299
  have hk : (intRows .i64 zs).length = zs.length := by simp [intRows]
  have h7 : ev 299 7 [] [] = some (hv [], []) := rfl
  have h8 : ev 299 8 [] [] = some (hv [], []) := rfl
  rw [ev_succ]
  by_cases hz : zs.length ≤ 200
  · have hz2 : ¬ ((200 : Int) < (zs.length : Int)) := by omega
    have hl := fun s => loop3 294 299 (by omega) zs hz (by omega) s
    generalize hrs : intRows .i64 zs = rows at hk
    simp [T, tab, get?, run, runOps, execL, execO, runO, exec1, ownV, Opd.val, put, look, putAll, enumF, St.live, binW, unW, isShift, intBin, finish, listM, resV, deep, V.cells, export1, packR, V.ren, W.ren, ble_dec, updL, call1, calleeOf, argsOf, vals, ownArgs, reach, indexIn, newIds, updOf, lenV, isStr, v3, l3_0, l3_1, h1, h7, h8, rv, hv, hk, hz2, -List.map_map, -List.all_map]
    obtain ⟨s', e⟩ := hl ⟨[(0, V.sc (W.c (Cell.sl rows))), (2, V.sc (W.c (Cell.bool false))), (14, V.sc (W.c (Cell.bool true))),
                  (15, V.sc (W.c (Cell.bool false))), (16, V.sc (W.c (Cell.sl rows))),
                  (17, V.sc (W.c (Cell.int IntKind.i64 ↑zs.length))), (18, V.sc (W.c (Cell.bool false))),
                  (19, V.sc (W.c (Cell.sl []))), (20, V.sc (W.c (Cell.sl []))), (3, V.sc (W.c (Cell.sl []))),
                  (4, V.sc (W.c (Cell.sl []))), (5, V.sc (W.c (Cell.int IntKind.i64 0)))], []⟩ ⟨[], by simp, by rw [hrs]; rfl, rfl, rfl, rfl, by simp [look, get?]⟩
    rw [show iter (run { call := ev 299, gl := gl0 } 299 l3_13) 299 _ = _ from e]
    simp [listM, notTu, V.toD, W.toC, deep, W.ids, V.ren, W.ren, get?_put]
  · have hz2 : ((200 : Int) < (zs.length : Int)) := by omega
    generalize hrs : intRows .i64 zs = rows at hk
    simp [T, tab, get?, run, runOps, execL, execO, runO, exec1, ownV, Opd.val, put, look, putAll, enumF, St.live, binW, unW, isShift, intBin, finish, listM, resV, notTu, V.toD, W.toC, deep, V.cells, W.ids, export1, packR, V.ren, W.ren, ble_dec, updL, call1, calleeOf, argsOf, vals, ownArgs, reach, indexIn, newIds, updOf, V.refs, W.refs, lenV, isStr, v3, l3_0, h1, rv, hk, hz2, -List.map_map, -List.all_map]

end Go.Vs.Try
