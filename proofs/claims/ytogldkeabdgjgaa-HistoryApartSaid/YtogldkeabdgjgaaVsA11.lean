/- The laws of the history, evaluated (11). -/
import Derived.Test.YtogldkeabdgjgaaVsA9
namespace Go.Vs.Try
open Go Go.Vs

def A4 (n k : Int) (l m b : List Int) (t : Nat) (i : Nat) (s : St) : Prop := get? s.env 0 = some (iv n) ∧ get? s.env 1 = some (iv k) ∧ get? s.env 2 = some (rv (intRows .i64 l)) ∧ get? s.env 3 = some (rv (intRows .i64 m)) ∧ get? s.env 9 = some (hv b) ∧ get? s.env t = some (.sc (.c (.int .i64 i))) ∧ s.objs = []

theorem c4_1 (q p : Nat) (n k : Int) (j : Nat) (hj : modI n 40 = (j : Int)) (l m b : List Int) (i : Nat) (s : St) (h : A4 n k l m b 10 i s) :
    ∃ s', run (cx (q + 1)) p l4_1 s = some (.normal, s') ∧ get? s'.env 32 = some (.sc (.c (.bool (decide (i < j))))) ∧ A4 n k l m b 10 i s' := by
  obtain ⟨h0, h1, h2, h3, h9, ht, ho⟩ := h
  obtain ⟨env, objs⟩ := s
  simp only at h0 h1 h2 h3 h9 ht ho
  have u := mod_eq q n 40
  rw [hj] at u
  unfold iv at h0 h1 u
  unfold rv at h2 h3
  unfold hv at h9
  generalize hr : b.map itemC = rows at h9
  generalize hrs : intRows .i64 l = rws at h2
  generalize hms : intRows .i64 m = mws at h3
  simp [get?, run, runOps, execL, execO, runO, exec1, ownV, Opd.val, iv, look, putAll, St.live, binW, isShift, intBin, listM, V.toD, W.toC, deep, V.cells, W.ids, V.ren, W.ren, ble_dec, updL, call1, calleeOf, argsOf, vals, ownArgs, reach, indexIn, newIds, updOf, l4_1, A4, h0, h1, h2, h3, h9, ht, ho, get?_put, u, hr, hrs, hms, hv, rv, -List.map_map, -List.all_map]

theorem b4_2 (q p : Nat) (n k : Int) (l m b : List Int) (hb : b.length ≤ 30) (i : Nat) (hi : i ≤ 900) (s : St) (h : A4 n k l m b 10 i s) :
    ∃ s', run (cx (q + 5)) p (.seq (.block 1 l4_2) l4_3) s = some (.normal, s') ∧ A4 n k l m (pushed b (modI i 1000)) 10 (i + 1) s' := by
  obtain ⟨h0, h1, h2, h3, h9, ht, ho⟩ := h
  obtain ⟨env, objs⟩ := s
  simp only at h0 h1 h2 h3 h9 ht ho
  have hw := wrap_nat (i + 1) (by omega)
  simp only [Int.natCast_add, Int.cast_ofNat_Int] at hw
  have u1 := item_eq (q + 3) (i : Int)
  have u2 := push12_hv (q + 4) b (modI i 1000) (by omega)
  have hq : ((itemC (modI i 1000)).map W.c).all notUn = true := by simp [notUn]
  unfold itemV at u1 u2
  have c1 := ren_cs (itemC (modI i 1000))
  have c2 := ids_cs (itemC (modI i 1000))
  have c3 : ∀ (L : Nat → Option Vs.Obj) (d : Nat), listM (W.toC L d) ((itemC (modI i 1000)).map W.c) = some (itemC (modI i 1000)) := fun L d => listM_c L d _
  generalize itemC (modI i 1000) = it at u1 u2 hq c1 c2 c3
  generalize hit : it.map W.c = xs at u1 u2 hq c1 c2 c3
  generalize hms : pushed b (modI i 1000) = ms' at u2
  unfold iv at h0 h1 u1
  unfold rv at h2 h3
  unfold hv at h9 u2
  generalize hr : b.map itemC = rows at h9 u2
  generalize hr2 : ms'.map itemC = rows2 at u2
  generalize hrs : intRows .i64 l = rws at h2
  generalize hrm : intRows .i64 m = mws at h3
  simp [get?, run, runOps, execL, execO, runO, exec1, ownV, Opd.val, iv, look, putAll, St.live, binW, isShift, intBin, listM, V.toD, W.toC, deep, V.cells, W.ids, V.ren, W.ren, ble_dec, updL, call1, calleeOf, argsOf, vals, ownArgs, reach, indexIn, newIds, updOf, l4_2, l4_3, A4, h0, h1, h2, h3, h9, ht, ho, hw, get?_put, u1, u2, c1, c2, c3, hit, hr2, hrs, hrm, hv, rv, -List.map_map, -List.all_map]

theorem c4_5 (q p : Nat) (n k : Int) (j : Nat) (hj : modI k 5 = (j : Int)) (l m b : List Int) (i : Nat) (s : St) (h : A4 n k l m b 11 i s) :
    ∃ s', run (cx (q + 1)) p l4_5 s = some (.normal, s') ∧ get? s'.env 42 = some (.sc (.c (.bool (decide (i < j))))) ∧ A4 n k l m b 11 i s' := by
  obtain ⟨h0, h1, h2, h3, h9, ht, ho⟩ := h
  obtain ⟨env, objs⟩ := s
  simp only at h0 h1 h2 h3 h9 ht ho
  have u := mod_eq q k 5
  rw [hj] at u
  unfold iv at h0 h1 u
  unfold rv at h2 h3
  unfold hv at h9
  generalize hr : b.map itemC = rows at h9
  generalize hrs : intRows .i64 l = rws at h2
  generalize hms : intRows .i64 m = mws at h3
  simp [get?, run, runOps, execL, execO, runO, exec1, ownV, Opd.val, iv, look, putAll, St.live, binW, isShift, intBin, listM, V.toD, W.toC, deep, V.cells, W.ids, V.ren, W.ren, ble_dec, updL, call1, calleeOf, argsOf, vals, ownArgs, reach, indexIn, newIds, updOf, l4_5, A4, h0, h1, h2, h3, h9, ht, ho, get?_put, u, hr, hrs, hms, hv, rv, -List.map_map, -List.all_map]

theorem b4_6 (q p : Nat) (n k : Int) (l m b : List Int) (hb : b.length ≤ 30) (i : Nat) (hi : i ≤ 900) (s : St) (h : A4 n k l m b 11 i s) :
    ∃ s', run (cx (q + 1)) p (.seq (.block 3 l4_6) l4_7) s = some (.normal, s') ∧ A4 n k l m b.dropLast 11 (i + 1) s' := by
  obtain ⟨h0, h1, h2, h3, h9, ht, ho⟩ := h
  obtain ⟨env, objs⟩ := s
  simp only at h0 h1 h2 h3 h9 ht ho
  have hw := wrap_nat (i + 1) (by omega)
  simp only [Int.natCast_add, Int.cast_ofNat_Int] at hw
  have u1 := undo10_eq q b (by omega)
  generalize b.dropLast = b' at u1
  generalize (!b.isEmpty) = e at u1
  unfold iv at h0 h1
  unfold rv at h2 h3
  unfold hv at h9 u1
  generalize hr : b.map itemC = rows at h9 u1
  generalize hr3 : b'.map itemC = rows3 at u1
  generalize hrs : intRows .i64 l = rws at h2
  generalize hrm : intRows .i64 m = mws at h3
  simp [get?, run, runOps, execL, execO, runO, exec1, ownV, Opd.val, iv, look, putAll, St.live, binW, isShift, intBin, listM, V.toD, W.toC, deep, V.cells, W.ids, V.ren, W.ren, ble_dec, updL, call1, calleeOf, argsOf, vals, ownArgs, reach, indexIn, newIds, updOf, l4_6, l4_7, A4, h0, h1, h2, h3, h9, ht, ho, hw, u1, get?_put, hr3, hrs, hrm, hv, rv, -List.map_map, -List.all_map]

def wrows (ms : List Int) : List (List W) := (ms.map itemC).map fun x => x.map W.c

/-- A history in a variable: data, or an array of its own. -/
def HasD (t k : Nat) (ms : List Int) (s : St) : Prop := get? s.env t = some (hv ms) ∨ (get? s.env t = some (.sc (.arr k ms.length)) ∧ look s.objs k = some (.arr 5 (wrows ms) 0))

def D4 (l m b a c : List Int) (i : Nat) (s : St) : Prop := get? s.env 2 = some (rv (intRows .i64 l)) ∧ get? s.env 3 = some (rv (intRows .i64 m)) ∧ get? s.env 9 = some (hv b) ∧ get? s.env 13 = some (hv a) ∧ get? s.env 14 = some (hv c) ∧ get? s.env 17 = some (.sc (.c (.int .i64 i))) ∧
  (get? s.env 12 = some (.sc (.arr 2816 b.length)) ∧ look s.objs 2816 = some (.arr 5 (wrows b) 0)) ∧ HasD 15 3201 a s ∧ HasD 16 3265 c s

theorem start4 (q p : Nat) (n k : Int) (l m b : List Int) (hb : b.length ≤ 30) (i : Nat) (s : St) (h : A4 n k l m b 11 i s) :
    ∃ s', run (cx q) p (.seq l4_9 (.seq l4_10 (.seq (.region [] [⟨(some 15), (.mv (.k (.sc .nil))), none, 3200, [(0, 5)]⟩,
   ⟨(some 16), (.mv (.k (.sc .nil))), none, 3264, [(0, 5)]⟩] [] []) (.seq l4_11 (.region [] [⟨(some 17), (.mv (.k (.sc (.c (.int .i64 0))))), none, 0, []⟩] [] []))))) s = some (.normal, s') ∧ D4 l m b b b 0 s' := by
  obtain ⟨h0, h1, h2, h3, h9, ht, ho⟩ := h
  obtain ⟨env, objs⟩ := s
  simp only at h0 h1 h2 h3 h9 ht ho
  have hbl : (b.map itemC).length = b.length := by simp
  have ha := all_rows (b.map itemC) (itemC_row b)
  have hwl : (wrows b).length = b.length := by simp [wrows]
  have hm1 : b.length ≤ maxRows := by unfold maxRows; omega
  have hm2 : b.length * 120 ≤ maxBytes := by unfold maxBytes; omega
  have hw : (b.map itemC).map (fun x => x.map W.c) = wrows b := rfl
  unfold rv at h2 h3
  unfold hv at h9
  generalize hr : b.map itemC = rows at h9 hbl ha hw
  rw [hw] at ha
  generalize hwr : wrows b = wr at hw ha hwl
  generalize hrs : intRows .i64 l = rws at h2
  generalize hrm : intRows .i64 m = mws at h3
  simp [get?, run, runOps, execL, execO, runO, exec1, ownV, Opd.val, look, putAll, St.live, ble_dec, ownW, rowsOf, l4_9, l4_10, l4_11, D4, HasD, h2, h3, h9, ho, ha, hwl, hm1, hm2, hw, append1, get?_put, hwr, hr, hrs, hrm, hv, rv, -List.map_map, -List.all_map]

theorem c4_12 (q p : Nat) (l m b a c : List Int) (i : Nat) (s : St) (h : D4 l m b a c i s) :
    ∃ s', run (cx q) p l4_12 s = some (.normal, s') ∧ get? s'.env 69 = some (.sc (.c (.bool (decide (i < max l.length m.length))))) ∧ D4 l m b a c i s' := by
  obtain ⟨h2, h3, h9, h13, h14, h17, ⟨h12, o12⟩, h15, h16⟩ := h
  obtain ⟨env, objs⟩ := s
  unfold HasD at h15 h16
  unfold look at o12 h15 h16
  simp only at h2 h3 h9 h13 h14 h17 h12 o12 h15 h16
  have hk : (intRows .i64 l).length = l.length := by simp [intRows]
  have hk2 : (intRows .i64 m).length = m.length := by simp [intRows]
  have hmax : decide (i < max l.length m.length) = (decide (i < l.length) || decide (i < m.length)) := by
    rw [Bool.eq_iff_iff]
    simp
    omega
  rw [hmax]
  unfold rv at h2 h3
  generalize hrs : intRows .i64 l = rws at h2 hk
  generalize hrm : intRows .i64 m = mws at h3 hk2
  by_cases hil : i < l.length <;> by_cases him : i < m.length <;>
  simp [run, runOps, execL, execO, runO, exec1, ownV, Opd.val, look, putAll, St.live, binW, isShift, intBin, lenV, isStr, l4_12, D4, HasD, h2, h3, h9, h12, h13, h14, h15, h16, h17, o12, hk, hk2, hil, him, get?_put, hrs, hrm, rv, -List.map_map, -List.all_map]

theorem c4_13 (q p : Nat) (l m b a c : List Int) (i : Nat) (s : St) (h : D4 l m b a c i s) :
    ∃ s', run (cx q) p l4_13 s = some (.normal, s') ∧ get? s'.env 75 = some (.sc (.c (.bool (decide (i < l.length))))) ∧ D4 l m b a c i s' := by
  obtain ⟨h2, h3, h9, h13, h14, h17, ⟨h12, o12⟩, h15, h16⟩ := h
  obtain ⟨env, objs⟩ := s
  unfold HasD at h15 h16
  unfold look at o12 h15 h16
  simp only at h2 h3 h9 h13 h14 h17 h12 o12 h15 h16
  have hk : (intRows .i64 l).length = l.length := by simp [intRows]
  unfold rv at h2 h3
  generalize hrs : intRows .i64 l = rws at h2 hk
  generalize hrm : intRows .i64 m = mws at h3
  simp [run, runOps, execL, execO, runO, exec1, ownV, Opd.val, look, putAll, St.live, binW, isShift, intBin, lenV, isStr, l4_13, D4, HasD, h2, h3, h9, h12, h13, h14, h15, h16, h17, o12, hk, get?_put, hrs, hrm, rv, -List.map_map, -List.all_map]

theorem c4_15 (q p : Nat) (l m b a c : List Int) (i : Nat) (s : St) (h : D4 l m b a c i s) :
    ∃ s', run (cx q) p l4_15 s = some (.normal, s') ∧ get? s'.env 93 = some (.sc (.c (.bool (decide (i < m.length))))) ∧ D4 l m b a c i s' := by
  obtain ⟨h2, h3, h9, h13, h14, h17, ⟨h12, o12⟩, h15, h16⟩ := h
  obtain ⟨env, objs⟩ := s
  unfold HasD at h15 h16
  unfold look at o12 h15 h16
  simp only at h2 h3 h9 h13 h14 h17 h12 o12 h15 h16
  have hk : (intRows .i64 m).length = m.length := by simp [intRows]
  unfold rv at h2 h3
  generalize hrs : intRows .i64 l = rws at h2
  generalize hrm : intRows .i64 m = mws at h3 hk
  simp [run, runOps, execL, execO, runO, exec1, ownV, Opd.val, look, putAll, St.live, binW, isShift, intBin, lenV, isStr, l4_15, D4, HasD, h2, h3, h9, h12, h13, h14, h15, h16, h17, o12, hk, get?_put, hrs, hrm, rv, -List.map_map, -List.all_map]

theorem r4_18 (q p : Nat) (l m b a c : List Int) (i : Nat) (hi : i ≤ 900) (s : St) (h : D4 l m b a c i s) :
    ∃ s', run (cx q) p l4_18 s = some (.normal, s') ∧ D4 l m b a c (i + 1) s' := by
  obtain ⟨h2, h3, h9, h13, h14, h17, ⟨h12, o12⟩, h15, h16⟩ := h
  obtain ⟨env, objs⟩ := s
  unfold HasD at h15 h16
  unfold look at o12 h15 h16
  simp only at h2 h3 h9 h13 h14 h17 h12 o12 h15 h16
  have hw := wrap_nat (i + 1) (by omega)
  simp only [Int.natCast_add, Int.cast_ofNat_Int] at hw
  simp [run, runOps, execL, execO, runO, exec1, ownV, Opd.val, look, putAll, St.live, binW, isShift, intBin, l4_18, D4, HasD, h2, h3, h9, h12, h13, h14, h15, h16, h17, o12, hw, get?_put, -List.map_map, -List.all_map]

theorem r4_14 (q p : Nat) (l m b a c : List Int) (ha : a.length ≤ 30) (i : Nat) (hil : i < l.length) (s : St) (h : D4 l m b a c i s) :
    ∃ s', run (cx (q + 5)) p l4_14 s = some (.normal, s') ∧ D4 l m b (pushed a (modI l[i] 1000)) c i s' := by
  obtain ⟨h2, h3, h9, h13, h14, h17, ⟨h12, o12⟩, h15, h16⟩ := h
  obtain ⟨env, objs⟩ := s
  unfold HasD at h15 h16
  unfold look at o12 h15 h16
  simp only at h2 h3 h9 h13 h14 h17 h12 o12 h15 h16
  have hk : (intRows .i64 l).length = l.length := by simp [intRows]
  have hrow : (intRows .i64 l)[i]? = some [.int .i64 l[i]] := by simp [intRows, hil]
  generalize l[i] = z at hrow
  have u1 := item_eq (q + 3) z
  have u2 := push12_hv (q + 4) a (modI z 1000) (by omega)
  have u3 := push14_hv (q + 1) a (modI z 1000) ha
  have hq : ((itemC (modI z 1000)).map W.c).all notUn = true := by simp [notUn]
  have c1 := ren_cs (itemC (modI z 1000))
  have c2 := ids_cs (itemC (modI z 1000))
  have c3 : ∀ (L : Nat → Option Vs.Obj) (d : Nat), listM (W.toC L d) ((itemC (modI z 1000)).map W.c) = some (itemC (modI z 1000)) := fun L d => listM_c L d _
  have c4 : ∀ (L : Nat → Option Vs.Obj) (d : Nat), listM (listM (W.toC L d)) (wrows a) = some (a.map itemC) := fun L d => listM_cc L d _
  have c5 : ∀ (L : Nat → Option Vs.Obj) (d : Nat), (wrows a).flatMap (fun r => r.flatMap (W.ids L d)) = [] := fun L d => ids_cc L d _
  have c6 : (wrows a).length = a.length := by simp [wrows]
  have c7 : ∀ (L : Nat → Option Vs.Obj) (d : Nat) (P : Nat → Bool), (wrows a).all (fun q => q.all fun x => (W.ids L d x).all P) = true := fun L d P => by simp [wrows, ids_c]
  unfold itemV at u1 u2 u3
  unfold rv at h2 h3
  unfold hv at u2 u3 h13 h15
  generalize hms : pushed a (modI z 1000) = ms' at u2 u3
  generalize itemC (modI z 1000) = it at u1 u2 u3 hq c1 c2 c3
  generalize hit : it.map W.c = xs at u1 u2 u3 hq c1 c2 c3
  generalize hrs : intRows .i64 l = rws at h2 hk hrow
  generalize hrm : intRows .i64 m = mws at h3
  generalize hwr : wrows a = wr at h15 c4 c5 c6 c7
  generalize hr1 : a.map itemC = rows1 at u2 u3 h13 h15 c4
  generalize hr2 : ms'.map itemC = rows2 at u2 u3
  have hrow2 : ∀ h : i < rws.length, rws[i]'h = [.int .i64 z] := fun h => by simpa [h] using hrow
  unfold iv at u1
  rcases h15 with hx | ⟨hx, hy⟩
  · simp [run, runOps, runO, exec1, ownV, Opd.val, look, putAll, St.live, listM, V.toD, W.toC, deep, V.cells, W.ids, V.ren, W.ren, ble_dec, blt_dec, cut, asV, updL, call1, calleeOf, argsOf, vals, ownArgs, reach, indexIn, newIds, updOf, V.refs, W.refs, l4_14, D4, HasD, h2, h3, h9, h12, h13, h14, hx, h17, o12, hk, hil, natBelow_nat, get?_put, hrow2, u1, u2, u3, c1, c2, c3, hit, hrs, hrm, hr2, hv, rv, execR, recO, plainOp, V.direct, chkOk, indep, Rec.touch, apart, -List.map_map, -List.all_map]
    exact h16
  · simp [run, runOps, runO, exec1, ownV, Opd.val, look, putAll, St.live, listM, V.toD, W.toC, deep, V.cells, W.ids, V.ren, W.ren, ble_dec, blt_dec, cut, asV, updL, call1, calleeOf, argsOf, vals, ownArgs, reach, indexIn, newIds, updOf, V.refs, W.refs, l4_14, D4, HasD, h2, h3, h9, h12, h13, h14, hx, hy, h17, o12, hk, hil, natBelow_nat, get?_put, hrow2, u1, u2, u3, c1, c2, c3, c4, c5, c6, c7, hit, hrs, hrm, hr2, hv, rv, execR, recO, plainOp, V.direct, chkOk, indep, Rec.touch, apart, flatV, flatW, pubUpd, -List.map_map, -List.all_map]
    exact h16

theorem r4_16 (q p : Nat) (l m b a c : List Int) (ha : c.length ≤ 30) (i : Nat) (hil : i < m.length) (s : St) (h : D4 l m b a c i s) :
    ∃ s', run (cx (q + 5)) p l4_16 s = some (.normal, s') ∧ D4 l m b a (pushed c (modI m[i] 1000)) i s' := by
  obtain ⟨h2, h3, h9, h13, h14, h17, ⟨h12, o12⟩, h15, h16⟩ := h
  obtain ⟨env, objs⟩ := s
  unfold HasD at h15 h16
  unfold look at o12 h15 h16
  simp only at h2 h3 h9 h13 h14 h17 h12 o12 h15 h16
  have hk : (intRows .i64 m).length = m.length := by simp [intRows]
  have hrow : (intRows .i64 m)[i]? = some [.int .i64 m[i]] := by simp [intRows, hil]
  generalize m[i] = z at hrow
  have u1 := item_eq (q + 3) z
  have u2 := push12_hv (q + 4) c (modI z 1000) (by omega)
  have u3 := push14_hv (q + 1) c (modI z 1000) ha
  have hq : ((itemC (modI z 1000)).map W.c).all notUn = true := by simp [notUn]
  have c1 := ren_cs (itemC (modI z 1000))
  have c2 := ids_cs (itemC (modI z 1000))
  have c3 : ∀ (L : Nat → Option Vs.Obj) (d : Nat), listM (W.toC L d) ((itemC (modI z 1000)).map W.c) = some (itemC (modI z 1000)) := fun L d => listM_c L d _
  have c4 : ∀ (L : Nat → Option Vs.Obj) (d : Nat), listM (listM (W.toC L d)) (wrows c) = some (c.map itemC) := fun L d => listM_cc L d _
  have c5 : ∀ (L : Nat → Option Vs.Obj) (d : Nat), (wrows c).flatMap (fun r => r.flatMap (W.ids L d)) = [] := fun L d => ids_cc L d _
  have c6 : (wrows c).length = c.length := by simp [wrows]
  have c7 : ∀ (L : Nat → Option Vs.Obj) (d : Nat) (P : Nat → Bool), (wrows c).all (fun q => q.all fun x => (W.ids L d x).all P) = true := fun L d P => by simp [wrows, ids_c]
  unfold itemV at u1 u2 u3
  unfold rv at h2 h3
  unfold hv at u2 u3 h14 h16
  generalize hms : pushed c (modI z 1000) = ms' at u2 u3
  generalize itemC (modI z 1000) = it at u1 u2 u3 hq c1 c2 c3
  generalize hit : it.map W.c = xs at u1 u2 u3 hq c1 c2 c3
  generalize hrs : intRows .i64 l = rws at h2
  generalize hrm : intRows .i64 m = mws at h3 hk hrow
  generalize hwr : wrows c = wr at h16 c4 c5 c6 c7
  generalize hr1 : c.map itemC = rows1 at u2 u3 h14 h16 c4
  generalize hr2 : ms'.map itemC = rows2 at u2 u3
  have hrow2 : ∀ h : i < mws.length, mws[i]'h = [.int .i64 z] := fun h => by simpa [h] using hrow
  unfold iv at u1
  rcases h16 with hx | ⟨hx, hy⟩
  · simp [run, runOps, runO, exec1, ownV, Opd.val, look, putAll, St.live, listM, V.toD, W.toC, deep, V.cells, W.ids, V.ren, W.ren, ble_dec, blt_dec, cut, asV, updL, call1, calleeOf, argsOf, vals, ownArgs, reach, indexIn, newIds, updOf, V.refs, W.refs, l4_16, D4, HasD, h2, h3, h9, h12, h13, h14, hx, h17, o12, hk, hil, natBelow_nat, get?_put, hrow2, u1, u2, u3, c1, c2, c3, hit, hrs, hrm, hr2, hv, rv, execR, recO, plainOp, V.direct, chkOk, indep, Rec.touch, apart, -List.map_map, -List.all_map]
    exact h15
  · simp [run, runOps, runO, exec1, ownV, Opd.val, look, putAll, St.live, listM, V.toD, W.toC, deep, V.cells, W.ids, V.ren, W.ren, ble_dec, blt_dec, cut, asV, updL, call1, calleeOf, argsOf, vals, ownArgs, reach, indexIn, newIds, updOf, V.refs, W.refs, l4_16, D4, HasD, h2, h3, h9, h12, h13, h14, hx, hy, h17, o12, hk, hil, natBelow_nat, get?_put, hrow2, u1, u2, u3, c1, c2, c3, c4, c5, c6, c7, hit, hrs, hrm, hr2, hv, rv, execR, recO, plainOp, V.direct, chkOk, indep, Rec.touch, apart, flatV, flatW, pubUpd, -List.map_map, -List.all_map]
    exact h15

end Go.Vs.Try
