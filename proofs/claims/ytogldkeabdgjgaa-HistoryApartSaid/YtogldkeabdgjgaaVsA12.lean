/- The laws of the history, evaluated (12). -/
import Derived.Test.YtogldkeabdgjgaaVsA11
namespace Go.Vs.Try
open Go Go.Vs

theorem seqSplit {C : Vs.Ctx} {p : Nat} {a b : VCode} {s s' : St} (h : run C p (.seq a b) s = some (.normal, s')) : ∃ s1, run C p a s = some (.normal, s1) ∧ run C p b s1 = some (.normal, s') := by
  rw [run] at h
  cases ha : run C p a s with
  | none => rw [ha] at h; cases h
  | some x =>
    obtain ⟨e, s1⟩ := x
    rw [ha] at h
    cases e with
    | normal => exact ⟨s1, rfl, h⟩
    | exit i => cases h
    | ret => cases h

theorem r4_17 (q p : Nat) (hq : 41 ≤ q) (l m b a c : List Int) (hb : b.length ≤ 30) (ha : a.length ≤ 30) (hc : c.length ≤ 30) (i : Nat) (s : St) (h : D4 l m b a c i s) :
    ∃ s', run (cx (q + 1)) p l4_17 s = some (.normal, s') ∧ get? s'.env 123 = some (.sc (.c (.bool false))) ∧ D4 l m b a c i s' := by
  obtain ⟨h2, h3, h9, h13, h14, h17, ⟨h12, o12⟩, h15, h16⟩ := h
  obtain ⟨env, objs⟩ := s
  unfold HasD at h15 h16
  unfold look at o12 h15 h16
  simp only at h2 h3 h9 h13 h14 h17 h12 o12 h15 h16
  have u1 := same17_eq q hq a (by omega)
  have u2 := same17_eq q hq c (by omega)
  have u3 := same17_eq q hq b (by omega)
  have a4 : ∀ (L : Nat → Option Vs.Obj) (d : Nat), listM (listM (W.toC L d)) (wrows a) = some (a.map itemC) := fun L d => listM_cc L d _
  have a5 : ∀ (L : Nat → Option Vs.Obj) (d : Nat), (wrows a).flatMap (fun r => r.flatMap (W.ids L d)) = [] := fun L d => ids_cc L d _
  have a6 : (wrows a).length = a.length := by simp [wrows]
  have b4 : ∀ (L : Nat → Option Vs.Obj) (d : Nat), listM (listM (W.toC L d)) (wrows b) = some (b.map itemC) := fun L d => listM_cc L d _
  have b5 : ∀ (L : Nat → Option Vs.Obj) (d : Nat), (wrows b).flatMap (fun r => r.flatMap (W.ids L d)) = [] := fun L d => ids_cc L d _
  have b6 : (wrows b).length = b.length := by simp [wrows]
  have c4 : ∀ (L : Nat → Option Vs.Obj) (d : Nat), listM (listM (W.toC L d)) (wrows c) = some (c.map itemC) := fun L d => listM_cc L d _
  have c5 : ∀ (L : Nat → Option Vs.Obj) (d : Nat), (wrows c).flatMap (fun r => r.flatMap (W.ids L d)) = [] := fun L d => ids_cc L d _
  have c6 : (wrows c).length = c.length := by simp [wrows]
  unfold rv at h2 h3
  unfold hv at h9 h13 h14 h15 h16 u1 u2 u3
  generalize hrs : intRows .i64 l = rws at h2
  generalize hrm : intRows .i64 m = mws at h3
  generalize hwa : wrows a = wa at h15 a4 a5 a6
  generalize hwb : wrows b = wb at o12 b4 b5 b6
  generalize hwc : wrows c = wc at h16 c4 c5 c6
  generalize hra : a.map itemC = ra at h13 h15 u1 a4
  generalize hrb : b.map itemC = rb at h9 u3 b4
  generalize hrc : c.map itemC = rc at h14 h16 u2 c4
  have hwa2 := hwa
  have hwc2 := hwc
  rcases h15 with hx | ⟨hx, hy⟩ <;> rcases h16 with gx | ⟨gx, gy⟩
  · simp [run, runOps, execL, execO, runO, exec1, ownV, Opd.val, look, putAll, St.live, unW, listM, V.toD, W.toC, deep, V.cells, W.ids, V.ren, W.ren, ble_dec, updL, call1, calleeOf, argsOf, vals, ownArgs, reach, indexIn, newIds, updOf, l4_17, D4, HasD, h2, h3, h9, h12, h13, h14, hx, gx, h17, o12, get?_put, u1, u2, u3, b4, b5, b6, hrs, hrm, hra, hrb, hrc, hwb, hv, rv, flatV, flatW, -List.map_map, -List.all_map]
  · simp [run, runOps, execL, execO, runO, exec1, ownV, Opd.val, look, putAll, St.live, unW, listM, V.toD, W.toC, deep, V.cells, W.ids, V.ren, W.ren, ble_dec, updL, call1, calleeOf, argsOf, vals, ownArgs, reach, indexIn, newIds, updOf, l4_17, D4, HasD, h2, h3, h9, h12, h13, h14, hx, gx, gy, h17, o12, get?_put, u1, u2, u3, b4, b5, b6, c4, c5, c6, hrs, hrm, hra, hrb, hrc, hwb, hwc2, hv, rv, flatV, flatW, -List.map_map, -List.all_map]
  · simp [run, runOps, execL, execO, runO, exec1, ownV, Opd.val, look, putAll, St.live, unW, listM, V.toD, W.toC, deep, V.cells, W.ids, V.ren, W.ren, ble_dec, updL, call1, calleeOf, argsOf, vals, ownArgs, reach, indexIn, newIds, updOf, l4_17, D4, HasD, h2, h3, h9, h12, h13, h14, hx, hy, gx, h17, o12, get?_put, u1, u2, u3, a4, a5, a6, b4, b5, b6, hrs, hrm, hra, hrb, hrc, hwb, hwa2, hv, rv, flatV, flatW, -List.map_map, -List.all_map]
  · simp [run, runOps, execL, execO, runO, exec1, ownV, Opd.val, look, putAll, St.live, unW, listM, V.toD, W.toC, deep, V.cells, W.ids, V.ren, W.ren, ble_dec, updL, call1, calleeOf, argsOf, vals, ownArgs, reach, indexIn, newIds, updOf, l4_17, D4, HasD, h2, h3, h9, h12, h13, h14, hx, hy, gx, gy, h17, o12, get?_put, u1, u2, u3, a4, a5, a6, b4, b5, b6, c4, c5, c6, hrs, hrm, hra, hrb, hrc, hwb, hwa2, hwc2, hv, rv, flatV, flatW, -List.map_map, -List.all_map]

def J4 (l m b : List Int) (i : Nat) (s : St) : Prop := ∃ a c : List Int, a.length ≤ 30 ∧ c.length ≤ 30 ∧ D4 l m b a c i s

theorem body4 (q p : Nat) (hq : 41 ≤ q) (l m b : List Int) (hb : b.length ≤ 30) (i : Nat) (hi : i ≤ 900) (s : St) (h : J4 l m b i s) :
    ∃ s', run (cx (q + 5)) p (.seq (.block 5 (.seq (.seq l4_13
  (.cond (.t 75) l4_14
  .skip))
  (.seq (.seq l4_15
  (.cond (.t 93) l4_16
  .skip))
  (.seq l4_17
  (.cond (.t 123) (.seq (.region [] [⟨(some 8), (.mv (.k (.sc (.c (.bool false))))), none, 0, []⟩] [] [])
   .ret)
  .skip))))) l4_18) s = some (.normal, s') ∧ J4 l m b (i + 1) s' := by
  obtain ⟨a, c, ha, hc, h⟩ := h
  obtain ⟨s1, e1, b1, h1⟩ := c4_13 (q + 5) p l m b a c i s h
  obtain ⟨s2, a', e2, ha', h2⟩ : ∃ s2 a', run (cx (q + 5)) p (.cond (.t 75) l4_14 .skip) s1 = some (.normal, s2) ∧ List.length a' ≤ 30 ∧ D4 l m b a' c i s2 := by
    by_cases hil : i < l.length
    · obtain ⟨s2, e2, h2⟩ := r4_14 q p l m b a c ha i hil s1 h1
      exact ⟨s2, _, by rw [runCond b1]; simpa [hil] using e2, pushed_len _ _, h2⟩
    · exact ⟨s1, a, by rw [runCond b1]; simp [hil, run], ha, h1⟩
  obtain ⟨s3, e3, b3, h3⟩ := c4_15 (q + 5) p l m b a' c i s2 h2
  obtain ⟨s4, c', e4, hc', h4⟩ : ∃ s4 c', run (cx (q + 5)) p (.cond (.t 93) l4_16 .skip) s3 = some (.normal, s4) ∧ List.length c' ≤ 30 ∧ D4 l m b a' c' i s4 := by
    by_cases him : i < m.length
    · obtain ⟨s4, e4, h4⟩ := r4_16 q p l m b a' c hc i him s3 h3
      exact ⟨s4, _, by rw [runCond b3]; simpa [him] using e4, pushed_len _ _, h4⟩
    · exact ⟨s3, c, by rw [runCond b3]; simp [him, run], hc, h3⟩
  obtain ⟨s5, e5, b5, h5⟩ := r4_17 (q + 4) p (by omega) l m b a' c' hb ha' hc' i s4 h4
  obtain ⟨s6, e6, h6⟩ := r4_18 (q + 5) p l m b a' c' i hi s5 h5
  refine ⟨s6, ?_, a', c', ha', hc', h6⟩
  rw [runSeq (s' := s5) (runBlock (by rw [runSeq (s' := s2) (by rw [runSeq e1]; exact e2), runSeq (s' := s4) (by rw [runSeq e3]; exact e4), runSeq e5, runCond b5]; rfl))]
  exact e6

theorem loop4_4 (q p : Nat) (hp : 41 ≤ p) (n k : Int) (l m : List Int) (s : St) (h : A4 n k l m [] 10 0 s) : ∃ s' b i, run (cx (q + 5)) p (.loop l4_4) s = some (.exit 0, s') ∧ b.length ≤ 30 ∧ A4 n k l m b 10 i s' := by
  obtain ⟨j, hj, hj2⟩ := modI_range n 40 (by omega) (by omega)
  obtain ⟨s', e, b, hb, h⟩ := countLoop (C := cx (q + 5)) (p := p) (lc := l4_1) (lb := .seq (.block 1 l4_2) l4_3) (b := 32) (e := 0) (fun i s => ∃ b : List Int, b.length ≤ 30 ∧ A4 n k l m b 10 i s) (m := j)
    (fun i s _ h => by
      obtain ⟨b, hb, h⟩ := h
      obtain ⟨s', e, h1, h2⟩ := c4_1 (q + 4) p n k j hj l m b i s h
      exact ⟨s', e, h1, b, hb, h2⟩)
    (fun i s hi h => by
      obtain ⟨b, hb, h⟩ := h
      obtain ⟨s', e, h2⟩ := b4_2 q p n k l m b hb i (by omega) s h
      exact ⟨s', e, _, pushed_len _ _, h2⟩) (by omega) (s := s) ⟨[], by simp, h⟩
  exact ⟨s', b, j, e, hb, h⟩

theorem loop4_8 (q p : Nat) (hp : 41 ≤ p) (n k : Int) (l m b : List Int) (hb : b.length ≤ 30) (s : St) (h : A4 n k l m b 11 0 s) : ∃ s' b i, run (cx (q + 1)) p (.loop l4_8) s = some (.exit 2, s') ∧ b.length ≤ 30 ∧ A4 n k l m b 11 i s' := by
  obtain ⟨j, hj, hj2⟩ := modI_range k 5 (by omega) (by omega)
  obtain ⟨s', e, b, hb, h⟩ := countLoop (C := cx (q + 1)) (p := p) (lc := l4_5) (lb := .seq (.block 3 l4_6) l4_7) (b := 42) (e := 2) (fun i s => ∃ b : List Int, b.length ≤ 30 ∧ A4 n k l m b 11 i s) (m := j)
    (fun i s _ h => by
      obtain ⟨b, hb, h⟩ := h
      obtain ⟨s', e, h1, h2⟩ := c4_5 q p n k j hj l m b i s h
      exact ⟨s', e, h1, b, hb, h2⟩)
    (fun i s hi h => by
      obtain ⟨b, hb, h⟩ := h
      obtain ⟨s', e, h2⟩ := b4_6 q p n k l m b hb i (by omega) s h
      exact ⟨s', e, _, by simp; omega, h2⟩) (by omega) (s := s) ⟨b, hb, h⟩
  exact ⟨s', b, j, e, hb, h⟩

theorem loop4_19 (q p : Nat) (hq : 41 ≤ q) (hp : 41 ≤ p) (l m b : List Int) (hl : l.length ≤ 40) (hm : m.length ≤ 40) (hb : b.length ≤ 30) (s : St) (h : D4 l m b b b 0 s) : ∃ s', run (cx (q + 5)) p (.loop l4_19) s = some (.exit 4, s') := by
  obtain ⟨s', e, _⟩ := countLoop (C := cx (q + 5)) (p := p) (lc := l4_12) (b := 69) (e := 4) (fun i s => J4 l m b i s) (m := max l.length m.length)
    (fun i s _ h => by
      obtain ⟨a, c, ha, hc, h⟩ := h
      obtain ⟨s', e, h1, h2⟩ := c4_12 (q + 5) p l m b a c i s h
      exact ⟨s', e, h1, a, c, ha, hc, h2⟩)
    (fun i s hi h => body4 q p hq l m b hb i (by omega) s h) (by omega) (s := s) ⟨b, b, hb, hb, h⟩
  exact ⟨s', e⟩

theorem law4 (n k : Int) (l m : List Int) : Ends (cx 299) 299 v4.body ⟨enumF 0 [iv n, iv k, rv (intRows .i64 l), rv (intRows .i64 m)], []⟩ fun e s => e = .ret ∧ get? s.env 8 = some (.sc (.c (.bool true))) := by
  have u6 := first299
  have u7 : ev 299 7 [] [] = some (.sc (.c (.sl [])), []) := rfl
  have hk : (intRows .i64 l).length = l.length := by simp [intRows]
  have hk2 : (intRows .i64 m).length = m.length := by simp [intRows]
  generalize hrs : intRows .i64 l = rws at hk
  generalize hrm : intRows .i64 m = mws at hk2
  unfold v4
  refine Ends.seqP (fun s => (get? s.env 0 = some (iv n) ∧ get? s.env 1 = some (iv k) ∧ get? s.env 2 = some (rv rws) ∧ get? s.env 3 = some (rv mws)) ∧ s.objs = []) (by simp [get?, run, runOps, execL, execO, runO, exec1, ownV, Opd.val, iv, putAll, enumF, St.live, get?_put]) fun s1 ⟨⟨a0, a1, a2, a3⟩, ao⟩ => ?_
  refine Ends.seqAssoc (Ends.seqP (fun s => (get? s.env 0 = some (iv n) ∧ get? s.env 1 = some (iv k) ∧ get? s.env 2 = some (rv rws) ∧ get? s.env 3 = some (rv mws)) ∧ s.objs = [] ∧ get? s.env 19 = some (.sc (.c (.bool false)))) (by simp [get?, run, runOps, execL, execO, runO, exec1, ownV, Opd.val, iv, look, putAll, St.live, unW, listM, deep, V.ren, W.ren, ble_dec, updL, call1, calleeOf, argsOf, vals, ownArgs, reach, indexIn, newIds, updOf, get?_put, u6, a0, a1, a2, a3, ao]) fun s2 ⟨⟨a0, a1, a2, a3⟩, ao, a19⟩ => ?_)
  refine Ends.seqP (fun s => s = s2) ⟨s2, by rw [runCond a19]; rfl, rfl⟩ fun s3 h3 => ?_
  subst h3
  unfold rv at a2 a3
  refine Ends.seqAssoc (Ends.seqP (fun s => (get? s.env 0 = some (iv n) ∧ get? s.env 1 = some (iv k) ∧ get? s.env 2 = some (rv rws) ∧ get? s.env 3 = some (rv mws)) ∧ s.objs = [] ∧ get? s.env 27 = some (.sc (.c (.bool (decide ((40 : Int) < l.length) || decide ((40 : Int) < m.length)))))) (by
    by_cases hl : (40 : Int) < l.length <;> simp [run, runOps, execL, execO, runO, exec1, ownV, Opd.val, iv, putAll, St.live, binW, isShift, intBin, lenV, isStr, l4_0, get?_put, a0, a1, a2, a3, ao, hk, hk2, hl, rv]) fun s4 ⟨⟨a0, a1, a2, a3⟩, ao, a27⟩ => ?_)
  by_cases hl : l.length ≤ 40 ∧ m.length ≤ 40
  · obtain ⟨hl, hm⟩ := hl
    have hf : (decide ((40 : Int) < l.length) || decide ((40 : Int) < m.length)) = false := by simp; omega
    rw [hf] at a27
    refine Ends.seqP (fun s => s = s4) ⟨s4, by rw [runCond a27]; rfl, rfl⟩ fun s5 h5 => ?_
    subst h5
    refine Ends.seqP (fun s => (get? s.env 0 = some (iv n) ∧ get? s.env 1 = some (iv k) ∧ get? s.env 2 = some (rv rws) ∧ get? s.env 3 = some (rv mws)) ∧ s.objs = [] ∧ get? s.env 9 = some (hv [])) (by simp [get?, run, runOps, execL, execO, runO, exec1, ownV, Opd.val, iv, look, putAll, St.live, listM, deep, V.ren, W.ren, ble_dec, updL, call1, calleeOf, argsOf, vals, ownArgs, reach, indexIn, newIds, updOf, get?_put, u7, a0, a1, a2, a3, ao, hv]) fun s6 ⟨⟨a0, a1, a2, a3⟩, ao, a9⟩ => ?_
    refine Ends.seqAssoc (Ends.seqP (A4 n k l m [] 10 0) (by simp [run, runOps, execL, execO, runO, exec1, ownV, Opd.val, iv, putAll, St.live, A4, hrs, hrm, get?_put, a0, a1, a2, a3, a9, ao]) fun s7 h7 => ?_)
    obtain ⟨s8, b, i8, e8, hb, a0, a1, a2, a3, a9, _, ao⟩ := loop4_4 294 299 (by omega) n k l m s7 h7
    refine Ends.seqP (fun s => s = s8) ⟨s8, runBlockExit e8, rfl⟩ fun s9 h9 => ?_
    subst h9
    refine Ends.seqAssoc (Ends.seqP (A4 n k l m b 11 0) (by simp [run, runOps, execL, execO, runO, exec1, ownV, Opd.val, iv, putAll, St.live, A4, get?_put, a0, a1, a2, a3, a9, ao]) fun s10 h10 => ?_)
    obtain ⟨s11, b, i11, e11, hb, h11⟩ := loop4_8 298 299 (by omega) n k l m b hb s10 h10
    refine Ends.seqP (fun s => s = s11) ⟨s11, runBlockExit e11, rfl⟩ fun s12 h12 => ?_
    subst h12
    obtain ⟨s13, e13, h13⟩ := start4 299 299 n k l m b hb i11 s12 h11
    obtain ⟨s14, e14⟩ := loop4_19 294 299 (by omega) (by omega) l m b hl hm hb s13 h13
    obtain ⟨t1, f1, e13⟩ := seqSplit e13
    obtain ⟨t2, f2, e13⟩ := seqSplit e13
    obtain ⟨t3, f3, e13⟩ := seqSplit e13
    obtain ⟨t4, f4, f5⟩ := seqSplit e13
    refine Ends.seqP (fun s => s = t1) ⟨t1, f1, rfl⟩ fun y hy => ?_
    subst hy
    refine Ends.seqP (fun s => s = t2) ⟨t2, f2, rfl⟩ fun y hy => ?_
    subst hy
    refine Ends.seqP (fun s => s = t3) ⟨t3, f3, rfl⟩ fun y hy => ?_
    subst hy
    refine Ends.seqP (fun s => s = t4) ⟨t4, f4, rfl⟩ fun y hy => ?_
    subst hy
    refine Ends.seqAssoc (Ends.seqP (fun s => s = s13) ⟨s13, f5, rfl⟩ fun y hy => ?_)
    subst hy
    refine Ends.seqP (fun s => s = s14) ⟨s14, runBlockExit e14, rfl⟩ fun y hy => ?_
    subst hy
    simp [Ends, run, runOps, execL, execO, runO, exec1, ownV, Opd.val, putAll, St.live]
    exact ⟨_, _, ⟨rfl, rfl⟩, rfl, by simp [get?_put]⟩
  · have hf : (decide ((40 : Int) < l.length) || decide ((40 : Int) < m.length)) = true := by simp; omega
    rw [hf] at a27
    refine Ends.seqStop ?_
    rw [runCond a27]
    simp [run, runOps, execL, execO, runO, exec1, ownV, Opd.val, putAll, St.live]
    exact ⟨_, _, ⟨rfl, rfl⟩, by simp, rfl, by simp [get?_put]⟩

theorem apart_eq (n k : Int) (l m : List Int) : ev 300 4 [iv n, iv k, rv (intRows .i64 l), rv (intRows .i64 m)] [] = some (.sc (.c (.bool true)), []) :=
  evalFn_bool (vf := v4) rfl rfl rfl rfl (law4 n k l m)

end Go.Vs.Try
