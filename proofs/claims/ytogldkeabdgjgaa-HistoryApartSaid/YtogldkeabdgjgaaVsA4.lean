/- The laws of the history, evaluated. -/
import Derived.Test.YtogldkeabdgjgaaVsA2
import Derived.Test.YtogldkeabdgjgaaVsA3
namespace Go.Vs.Try
open Go Go.Vs

/-- Ahead of round i of HistoryRuns. -/
def I3 (zs : List Int) (ms : List Int) (i : Nat) (s : St) : Prop := get? s.env 0 = some (rv (intRows .i64 zs)) ∧ get? s.env 3 = some (hv ms) ∧ get? s.env 4 = some (hv ms) ∧
  get? s.env 5 = some (.sc (.c (.int .i64 i))) ∧ ∀ k, look s.objs k ≠ none → k = 4288 ∨ k = 4800

theorem r3_3 (n p : Nat) (zs ms : List Int) (i : Nat) (z : Int) (hz : zs[i]? = some z) (s : St) (h : I3 zs ms i s) :
    ∃ s', run (cx (n + 1)) p l3_3 s = some (.normal, s') ∧ get? s'.env 32 = some (.sc (.c (.bool (modI z 3 == 0)))) ∧ I3 zs ms i s' := by
  obtain ⟨h0, h3, h4, h5, ho⟩ := h
  have hi : i < zs.length := (List.getElem?_eq_some_iff.1 hz).1
  obtain ⟨env, objs⟩ := s
  simp only at h0 h3 h4 h5 ho
  have hm := mod_eq n z 3
  have hrow : (intRows .i64 zs)[i]? = some [.int .i64 z] := by simp [intRows, hz]
  have hk : (intRows .i64 zs).length = zs.length := by simp [intRows]
  unfold iv at hm
  unfold rv at h0
  generalize hrs : intRows .i64 zs = rows at h0 hrow hk
  have hrow2 : ∀ h : i < rows.length, rows[i]'h = [.int .i64 z] := fun h => by simpa [h] using hrow
  simp [run, runOps, execL, execO, runO, exec1, ownV, Opd.val, look, putAll, St.live, binW, isShift, intBin, listM, V.toD, W.toC, deep, V.cells, W.ids, V.ren, W.ren, ble_dec, blt_dec, cut, asV, updL, call1, calleeOf, argsOf, vals, ownArgs, reach, indexIn, newIds, updOf, l3_3, I3, h0, h3, h4, h5, hk, hi, natBelow_nat, get?_put, hrow2, hm, -List.map_map, -List.all_map]

  exact ⟨by rw [← hrs]; rfl, ho⟩

theorem undo11_eq (n : Nat) (ms : List Int) (hl : ms.length ≤ 40) : ev (n + 1) 11 [hv ms] [] = some (.tu [hv ms.dropLast, .sc (.c (.bool (!ms.isEmpty)))], []) := by
  cases ms with
  | nil => rfl
  | cons m ms =>
    have h := undo11_rows n ms.length ((m :: ms).map itemC) (itemC_row _) (by simp) (by simpa using hl)
    rw [dropLast_map] at h
    exact h

/-- The branch that undoes. -/
theorem r3_undo (n p : Nat) (zs ms : List Int) (hl : ms.length ≤ 40) (i : Nat) (x : VCode) (s : St) (h : I3 zs ms i s) :
    ∃ s', run (cx (n + 1)) p (.seq l3_4 (.seq l3_5 (.seq (.seq l3_6 (.cond (.t 45) x .skip)) l3_7))) s = some (.normal, s') ∧ I3 zs ms.dropLast i s' := by
  obtain ⟨h0, h3, h4, h5, ho⟩ := h
  obtain ⟨env, objs⟩ := s
  simp only at h0 h3 h4 h5 ho
  have u1 := undo10_eq n ms hl
  have u2 := undo11_eq n ms hl
  generalize ms.dropLast = ms' at u1 u2
  generalize (!ms.isEmpty) = b at u1 u2
  unfold hv at u1 u2 h3 h4
  unfold rv at h0
  generalize ms.map itemC = rows at u1 u2 h3 h4
  simp [run, runOps, execL, execO, runO, exec1, ownV, Opd.val, look, putAll, St.live, binW, nilEq, listM, V.toD, W.toC, deep, V.cells, W.ids, V.ren, W.ren, ble_dec, updL, call1, calleeOf, argsOf, vals, ownArgs, reach, indexIn, newIds, updOf, l3_4, l3_5, l3_6, l3_7, I3, h0, h3, h4, h5, get?_put, u1, u2, -List.map_map, -List.all_map]
  exact ⟨rfl, rfl, ho⟩

end Go.Vs.Try
