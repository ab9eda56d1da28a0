/- The laws of the history, evaluated (9). -/
import Derived.Test.YtogldkeabdgjgaaVsA8
namespace Go.Vs.Try
open Go Go.Vs

theorem law5 (n : Int) (l : List Int) : Ends (cx 299) 299 v5.body ⟨enumF 0 [iv n, rv (intRows .i64 l)], []⟩ fun e s => e = .ret ∧ get? s.env 4 = some (.sc (.c (.bool true))) := by
  have u6 := first299
  have u7 : ev 299 7 [] [] = some (.sc (.c (.sl [])), []) := rfl
  have hk : (intRows .i64 l).length = l.length := by simp [intRows]
  generalize hrs : intRows .i64 l = rws at hk
  unfold v5
  refine Ends.seqP (fun s => get? s.env 0 = some (iv n) ∧ get? s.env 1 = some (rv rws)) (by simp [get?, run, runOps, execL, execO, runO, exec1, ownV, Opd.val, iv, putAll, enumF, St.live, get?_put]) fun s1 ⟨a0, a1⟩ => ?_
  refine Ends.seqAssoc (Ends.seqP (fun s => get? s.env 0 = some (iv n) ∧ get? s.env 1 = some (rv rws) ∧ get? s.env 12 = some (.sc (.c (.bool false)))) (by simp [run, runOps, execL, execO, runO, exec1, ownV, Opd.val, iv, look, putAll, St.live, unW, listM, deep, V.ren, W.ren, ble_dec, updL, call1, calleeOf, argsOf, vals, ownArgs, reach, indexIn, newIds, updOf, get?_put, u6, a0, a1]) fun s2 ⟨a0, a1, a12⟩ => ?_)
  refine Ends.seqP (fun s => s = s2) ⟨s2, by rw [runCond a12]; rfl, rfl⟩ fun s3 h3 => ?_
  subst h3
  unfold rv at a1
  refine Ends.seqAssoc (Ends.seqP (fun s => get? s.env 0 = some (iv n) ∧ get? s.env 1 = some (rv rws) ∧ get? s.env 15 = some (.sc (.c (.bool (decide ((40 : Int) < l.length)))))) (by simp [run, runOps, execL, execO, runO, exec1, ownV, Opd.val, iv, putAll, St.live, binW, isShift, intBin, lenV, isStr, l5_0, get?_put, a0, a1, hk, rv]) fun s4 ⟨a0, a1, a15⟩ => ?_)
  by_cases hl : l.length ≤ 40
  · have hf : decide ((40 : Int) < l.length) = false := by simp; omega
    rw [hf] at a15
    refine Ends.seqP (fun s => s = s4) ⟨s4, by rw [runCond a15]; rfl, rfl⟩ fun s5 h5 => ?_
    subst h5
    refine Ends.seqP (fun s => get? s.env 0 = some (iv n) ∧ get? s.env 1 = some (rv rws) ∧ get? s.env 5 = some (hv [])) (by simp [run, runOps, execL, execO, runO, exec1, ownV, Opd.val, iv, look, putAll, St.live, listM, deep, V.ren, W.ren, ble_dec, updL, call1, calleeOf, argsOf, vals, ownArgs, reach, indexIn, newIds, updOf, get?_put, u7, a0, a1, hv]) fun s6 ⟨a0, a1, a5⟩ => ?_
    refine Ends.seqAssoc (Ends.seqP (A5 n l [] 0) (by simp [run, runOps, execL, execO, runO, exec1, ownV, Opd.val, iv, putAll, St.live, A5, hrs, get?_put, a0, a1, a5]) fun s7 h7 => ?_)
    obtain ⟨s8, b, e8, hb, a1, a5⟩ := loop5_4 294 299 (by omega) n l s7 h7
    refine Ends.seqP (fun s => s = s8) ⟨s8, runBlockExit e8, rfl⟩ fun s9 h9 => ?_
    subst h9
    rw [hrs] at a1
    refine Ends.seqP (fun s => get? s.env 1 = some (rv rws) ∧ get? s.env 5 = some (hv b) ∧ get? s.env 7 = some (hv b)) (by simp [run, runOps, execL, execO, runO, exec1, ownV, Opd.val, putAll, St.live, get?_put, a1, a5]) fun s10 ⟨a1, a5, a7⟩ => ?_
    refine Ends.seqAssoc (Ends.seqP (B5 l b b 0) (by simp [run, runOps, execL, execO, runO, exec1, ownV, Opd.val, putAll, St.live, B5, hrs, get?_put, a1, a5, a7]) fun s11 h11 => ?_)
    obtain ⟨s12, e12, a1, a5, a7⟩ := loop5_8 294 299 (by omega) l b hl hb s11 h11
    refine Ends.seqP (fun s => s = s12) ⟨s12, runBlockExit e12, rfl⟩ fun s13 h13 => ?_
    subst h13
    rw [hrs] at a1
    have ha := pushes_len b l hb
    have hback := back b l hb
    generalize pushes b l = a at a7 ha hback
    have w1 : wrapI .i64 ((b.length : Int) + (l.length : Int)) = .int .i64 ((b.length : Int) + (l.length : Int)) := by
      simp only [wrapI]
      rw [wrap_small _ (by omega)]
    have w2 : wrapI .i64 ((b.length : Int) + (l.length : Int) - 30) = .int .i64 ((b.length : Int) + (l.length : Int) - 30) := by
      simp only [wrapI]
      rw [wrap_small _ (by omega)]
    have hbl : (b.map itemC).length = b.length := by simp
    unfold hv at a5
    generalize hbr : b.map itemC = brows at a5 hbl
    obtain ⟨lost, hlost⟩ : ∃ x : Int, x = (b.length : Int) + (l.length : Int) - 30 := ⟨_, rfl⟩
    have w2 : wrapI .i64 ((b.length : Int) + (l.length : Int) - 30) = .int .i64 lost := by rw [hlost]; exact w2
    refine Ends.seqP (fun s => get? s.env 1 = some (rv rws) ∧ get? s.env 5 = some (hv b) ∧ get? s.env 7 = some (hv a) ∧ get? s.env 9 = some (.sc (.c (.int .i64 lost)))) (by unfold rv at a1; simp [run, runOps, execL, execO, runO, exec1, ownV, Opd.val, putAll, St.live, binW, isShift, intBin, lenV, isStr, l5_9, get?_put, a1, a5, a7, hk, hbl, w1, w2, hbr, hv, rv]) fun s14 ⟨a1, a5, a7, a9⟩ => ?_
    refine Ends.seqAssoc (Ends.seqP (C5 l b a lost 0) (by simp [run, runOps, execL, execO, runO, exec1, ownV, Opd.val, putAll, St.live, C5, hrs, get?_put, a1, a5, a7, a9]) fun s15 h15 => ?_)
    obtain ⟨s16, e16, a1, a5, a7, a9, _⟩ := loop5_13 298 299 (by omega) l b a hl ha lost s15 h15
    refine Ends.seqP (fun s => s = s16) ⟨s16, runBlockExit e16, rfl⟩ fun s17 h17 => ?_
    subst h17
    rw [hback] at a7
    refine Ends.seqAssoc (Ends.seqP (fun s => get? s.env 5 = some (hv b) ∧ get? s.env 7 = some (hv (if b.length + l.length ≤ 30 then b else if 30 ≤ l.length then [] else b.drop (b.length + l.length - 30))) ∧ get? s.env 9 = some (.sc (.c (.int .i64 lost))) ∧ get? s.env 59 = some (.sc (.c (.bool (decide (lost ≤ 0)))))) (by simp [run, runOps, execL, execO, runO, exec1, ownV, Opd.val, putAll, St.live, binW, isShift, intBin, get?_put, a5, a7, a9]) fun s18 ⟨a5, a7, a9, a59⟩ => ?_)
    by_cases hle : b.length + l.length ≤ 30
    · have h0 : decide (lost ≤ 0) = true := by simp; omega
      rw [h0] at a59
      rw [if_pos hle] at a7
      have u17 := same17_eq 298 (by omega) b (by omega)
      unfold hv at a5 a7 u17
      refine Ends.seqStop ?_
      rw [runCond a59]
      simp [run, runOps, execL, execO, runO, exec1, ownV, Opd.val, look, putAll, St.live, listM, V.toD, W.toC, deep, V.cells, W.ids, V.ren, W.ren, ble_dec, updL, call1, calleeOf, argsOf, vals, ownArgs, reach, indexIn, newIds, updOf, l5_14, get?_put, a5, a7, u17, -List.map_map, -List.all_map]
      exact ⟨_, _, ⟨rfl, rfl⟩, by simp, rfl, by simp [get?_put]⟩
    · have h0 : decide (lost ≤ 0) = false := by simp; omega
      rw [h0] at a59
      rw [if_neg hle] at a7
      refine Ends.seqP (fun s => s = s18) ⟨s18, by rw [runCond a59]; rfl, rfl⟩ fun s19 h19 => ?_
      subst h19
      refine Ends.seqAssoc (Ends.seqP (fun s => get? s.env 5 = some (hv b) ∧ get? s.env 7 = some (hv (if 30 ≤ l.length then [] else b.drop (b.length + l.length - 30))) ∧ get? s.env 9 = some (.sc (.c (.int .i64 lost))) ∧ get? s.env 66 = some (.sc (.c (.bool (decide ((b.length : Int) ≤ lost)))))) (by unfold hv at a5; simp [run, runOps, execL, execO, runO, exec1, ownV, Opd.val, putAll, St.live, binW, isShift, intBin, lenV, isStr, l5_15, get?_put, a5, a7, a9, hv]) fun s20 ⟨a5, a7, a9, a66⟩ => ?_)
      by_cases h30 : 30 ≤ l.length
      · have h0 : decide ((b.length : Int) ≤ lost) = true := by simp; omega
        rw [h0] at a66
        rw [if_pos h30] at a7
        unfold hv at a7
        refine Ends.seqStop ?_
        rw [runCond a66]
        simp [run, runOps, execL, execO, runO, exec1, ownV, Opd.val, putAll, St.live, binW, isShift, intBin, lenV, isStr, l5_16, get?_put, a7]
        exact ⟨_, _, ⟨rfl, rfl⟩, by simp, rfl, by simp [get?_put]⟩
      · have h0 : decide ((b.length : Int) ≤ lost) = false := by simp; omega
        rw [h0] at a66
        rw [if_neg h30] at a7
        refine Ends.seqP (fun s => s = s20) ⟨s20, by rw [runCond a66]; rfl, rfl⟩ fun s21 h21 => ?_
        subst h21
        obtain ⟨j, hj⟩ : ∃ j : Nat, lost = j := ⟨lost.toNat, by omega⟩
        have hj2 : b.length + l.length - 30 = j := by omega
        have hjb : j < b.length + 1 := by omega
        rw [hj] at a9
        rw [hj2] at a7
        have u17 := same17_eq 298 (by omega) (b.drop j) (by simp; omega)
        have hfit := fit_rows (b.map itemC) (itemC_row b)
        have hd : (b.map itemC).drop j = (b.drop j).map itemC := by rw [List.map_drop]
        unfold hv at a5 a7 u17
        rw [hbr] at hfit hd a5
        have htk : brows.take b.length = brows := List.take_of_length_le (by omega)
        generalize (b.drop j).map itemC = drows at hd a7 u17
        simp [Ends, run, runOps, execL, execO, runO, exec1, ownV, Opd.val, look, putAll, St.live, listM, V.toD, W.toC, deep, V.cells, W.ids, V.ren, W.ren, ble_dec, blt_dec, updL, call1, calleeOf, argsOf, vals, ownArgs, reach, indexIn, newIds, updOf, l5_17, get?_put, a5, a7, a9, u17, slice1, boundOr, natBelow_nat, hbl, hjb, hfit, htk, hd, -List.map_map, -List.all_map]
        exact ⟨_, _, ⟨rfl, rfl⟩, rfl, by simp [get?_put]⟩

  · have hf : decide ((40 : Int) < l.length) = true := by simp; omega
    rw [hf] at a15
    refine Ends.seqStop ?_
    rw [runCond a15]
    simp [run, runOps, execL, execO, runO, exec1, ownV, Opd.val, putAll, St.live]
    exact ⟨_, _, ⟨rfl, rfl⟩, by simp, rfl, by simp [get?_put]⟩

theorem undoes_eq (n : Int) (l : List Int) : ev 300 5 [iv n, rv (intRows .i64 l)] [] = some (.sc (.c (.bool true)), []) :=
  evalFn_bool (vf := v5) rfl rfl rfl rfl (law5 n l)

end Go.Vs.Try
