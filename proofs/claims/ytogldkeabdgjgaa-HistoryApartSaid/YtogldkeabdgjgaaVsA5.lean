/- The laws of the history, evaluated (5). -/
import Derived.Test.YtogldkeabdgjgaaVsA4
namespace Go.Vs.Try
open Go Go.Vs

/-- The history after a push. -/
def pushed (ms : List Int) (m : Int) : List Int := ms.drop (ms.length - 29) ++ [m]

theorem pushed_len (ms : List Int) (m : Int) : (pushed ms m).length ≤ 30 := by
  simp [pushed]
  omega

theorem ren_cs (it : List Cell) (ρ : Nat → Option Nat) (d : Nat) : (it.map W.c).map (W.ren ρ d) = it.map W.c := by
  rw [List.map_map]
  exact List.map_congr_left fun x _ => by cases d <;> rfl

theorem ids_cs (it : List Cell) (L : Nat → Option Vs.Obj) (d : Nat) : (it.map W.c).flatMap (W.ids L d) = [] := by
  simp [List.flatMap_eq_nil_iff, ids_c]

theorem push12_hv (n : Nat) (ms : List Int) (m : Int) (hl : ms.length ≤ 40) : ev (n + 1) 12 [hv ms, itemV m] [] = some (hv (pushed ms m), []) := by
  have h := push12_rows n ms.length (ms.map itemC) (itemC m) (itemC_row _) rfl (by simp) hl
  rw [← List.map_drop] at h
  simpa [hv, rv, itemV, pushed] using h

theorem push14_hv (n : Nat) (ms : List Int) (m : Int) (hl : ms.length ≤ 30) : ev (n + 4) 14 [hv ms, itemV m] [] = some (hv (pushed ms m), []) := by
  by_cases h30 : ms.length ≤ 29
  · have h := push14_rows n ms.length (ms.map itemC) (itemC m) (itemC_row _) rfl (by simp) h30
    have : ms.length - 29 = 0 := by omega
    simpa [hv, rv, itemV, pushed, this] using h
  · have h30 : ms.length = 30 := by omega
    have h := push14_full n (ms.map itemC) (itemC m) (itemC_row _) rfl (by simp [h30])
    rw [List.drop_append_of_le_length (by simp [h30])] at h
    rw [← List.map_drop] at h
    simpa [hv, rv, itemV, pushed, h30] using h

/-- What Top answers. -/
def topC (ms : List Int) : List Cell := match ms.getLast? with
  | some m => itemC m
  | none => [.sl [], .sl [], .sl [], .sl [], .sl []]

theorem topC_len (ms : List Int) : (topC ms).length = 5 := by
  unfold topC
  split <;> rfl

theorem top15_hv (n : Nat) (ms : List Int) (hl : ms.length ≤ 40) : ev (n + 1) 15 [hv ms] [] = some (.tu [.ag ((topC ms).map W.c), .sc (.c (.bool (!ms.isEmpty)))], []) := by
  cases ms with
  | nil => rfl
  | cons m ms =>
    have hg : (m :: ms).getLast? = some ((m :: ms).getLast (by simp)) := List.getLast?_eq_some_getLast _
    have hx : ((m :: ms).map itemC)[ms.length]? = some (itemC ((m :: ms).getLast (by simp))) := by
      rw [List.getElem?_map, show (m :: ms)[ms.length]? = (m :: ms).getLast? from by rw [List.getLast?_eq_getElem?]; simp, hg]
      rfl
    have h := top15_rows n ms.length ((m :: ms).map itemC) (itemC ((m :: ms).getLast (by simp))) (by simp) (by simpa using hl) hx rfl
    rw [topC, hg]
    exact h

theorem top16_hv (n : Nat) (ms : List Int) (hl : ms.length ≤ 40) : ev (n + 1) 16 [hv ms] [] = some (.tu [.ag ((topC ms).map W.c), .sc (.c (.bool (!ms.isEmpty)))], []) := by
  cases ms with
  | nil => rfl
  | cons m ms =>
    have hg : (m :: ms).getLast? = some ((m :: ms).getLast (by simp)) := List.getLast?_eq_some_getLast _
    have hx : ((m :: ms).map itemC)[ms.length]? = some (itemC ((m :: ms).getLast (by simp))) := by
      rw [List.getElem?_map, show (m :: ms)[ms.length]? = (m :: ms).getLast? from by rw [List.getLast?_eq_getElem?]; simp, hg]
      rfl
    have h := top16_rows n ms.length ((m :: ms).map itemC) (itemC ((m :: ms).getLast (by simp))) (by simp) (by simpa using hl) hx rfl
    rw [topC, hg]
    exact h

theorem num_top (n : Nat) (ms : List Int) : ∃ z, ev (n + 1) 18 [.ag ((topC ms).map W.c)] [] = some (iv z, []) := by
  unfold topC
  split
  · rename_i m _
    exact ⟨m, num18_eq n m⟩
  · exact ⟨_, rfl⟩

theorem refs_cs (it : List Cell) (d : Nat) : (it.map W.c).flatMap (W.refs d) = [] := by
  simp only [List.flatMap_eq_nil_iff, List.mem_map]
  rintro _ ⟨x, _, rfl⟩
  cases d <;> rfl

theorem run_seq {C : Vs.Ctx} {p : Nat} {a b : VCode} {s s' : St} (h : run C p a s = some (.normal, s')) : run C p (.seq a b) s = run C p b s' := by
  rw [run, h]

theorem run_seq_stop {C : Vs.Ctx} {p : Nat} {a b : VCode} {s s' : St} {e : Ex} (h : run C p a s = some (e, s')) (he : e ≠ .normal) : run C p (.seq a b) s = some (e, s') := by
  rw [run, h]
  cases e with
  | normal => exact absurd rfl he
  | exit _ => rfl
  | ret => rfl

theorem run_cond {C : Vs.Ctx} {p t : Nat} {x y : VCode} {s : St} {b : Bool} (h : get? s.env t = some (.sc (.c (.bool b)))) : run C p (.cond (.t t) x y) s = bif b then run C p x s else run C p y s := by
  simp [run, Opd.val, h]

theorem run_block {C : Vs.Ctx} {p k : Nat} {a : VCode} {s s' : St} (h : run C p a s = some (.normal, s')) : run C p (.block k a) s = some (.normal, s') := by
  rw [run, h]

/-- Both push. -/
theorem r3_8 (n p : Nat) (zs ms : List Int) (hl : ms.length ≤ 30) (i : Nat) (z : Int) (hz : zs[i]? = some z) (s : St) (h : I3 zs ms i s) :
    ∃ s', run (cx (n + 5)) p l3_8 s = some (.normal, s') ∧ I3 zs (pushed ms (modI z 1000)) i s' := by
  obtain ⟨h0, h3, h4, h5, ho⟩ := h
  have hi : i < zs.length := (List.getElem?_eq_some_iff.1 hz).1
  obtain ⟨env, objs⟩ := s
  simp only at h0 h3 h4 h5 ho
  have hrow : (intRows .i64 zs)[i]? = some [.int .i64 z] := by simp [intRows, hz]
  have hk : (intRows .i64 zs).length = zs.length := by simp [intRows]
  have u1 := item_eq (n + 3) z
  have u2 := push12_hv (n + 4) ms (modI z 1000) (by omega)
  have u3 := push14_hv (n + 1) ms (modI z 1000) hl
  have hq : ((itemC (modI z 1000)).map W.c).all notUn = true := by simp [notUn]
  unfold itemV at u1 u2 u3
  unfold rv at h0
  unfold hv at u2 u3 h3 h4
  generalize hms : pushed ms (modI z 1000) = ms' at u2 u3
  have c1 := ren_cs (itemC (modI z 1000))
  have c2 := ids_cs (itemC (modI z 1000))
  have c3 : ∀ (L : Nat → Option Vs.Obj) (d : Nat), listM (W.toC L d) ((itemC (modI z 1000)).map W.c) = some (itemC (modI z 1000)) := fun L d => listM_c L d _
  generalize itemC (modI z 1000) = it at u1 u2 u3 hq c1 c2 c3
  generalize hit : it.map W.c = xs at u1 u2 u3 hq c1 c2 c3
  generalize hrs : intRows .i64 zs = rows at h0 hrow hk
  generalize ms.map itemC = rows1 at u2 u3 h3 h4
  generalize hr2 : ms'.map itemC = rows2 at u2 u3
  have hrow2 : ∀ h : i < rows.length, rows[i]'h = [.int .i64 z] := fun h => by simpa [h] using hrow
  unfold iv at u1
  simp [run, runOps, runO, exec1, ownV, Opd.val, look, putAll, St.live, listM, V.toD, W.toC, deep, V.cells, W.ids, V.ren, W.ren, ble_dec, blt_dec, cut, asV, updL, call1, calleeOf, argsOf, vals, ownArgs, reach, indexIn, newIds, updOf, V.refs, W.refs, l3_8, I3, h0, h3, h4, h5, hk, hi, natBelow_nat, get?_put, hrow2, u1, u2, u3, c1, c2, c3, hit, execR, recO, plainOp, V.direct, chkOk, indep, Rec.touch, apart, -List.map_map, -List.all_map]
  subst hrs
  subst hr2
  exact ⟨rfl, rfl, ho⟩

theorem scrub_box {ks : List Nat} {s : St} {k : Nat} {it : List Cell} (h : look s.objs k = some (.box (it.map W.c))) (hk : k ∉ ks) : look (s.scrub ks).objs k = some (.box (it.map W.c)) := by
  unfold St.scrub
  cases s.objs.any (fun x => x.2.isSome && ks.contains x.1) with
  | false => exact h
  | true =>
    have hc : ks.contains k = false := by simpa using hk
    simp only [cond_true]
    rw [look_scrub, hc, h]
    simp only [cond_false, Option.map_some, Obj.ren]
    rw [ren_cs]

/-- A box with data, pointed to. -/
def Boxed (t k : Nat) (it : List Cell) (s : St) : Prop := get? s.env t = some (.sc (.ptr k 0)) ∧ look s.objs k = some (.box (it.map W.c))

theorem I3.scrub {zs ms : List Int} {i : Nat} {s : St} (h : I3 zs ms i s) (ks : List Nat) : I3 zs ms i (s.scrub ks) := by
  obtain ⟨h0, h3, h4, h5, ho⟩ := h
  refine ⟨scrub_get h0 rfl, scrub_get h3 rfl, scrub_get h4 rfl, scrub_get h5 rfl, fun k hk => ho k fun hn => hk (scrub_look hn)⟩

theorem r3_9 (n p : Nat) (zs ms : List Int) (hl : ms.length ≤ 40) (i : Nat) (s : St) (h : I3 zs ms i s) :
    ∃ s', run (cx (n + 1)) p l3_9 s = some (.normal, s') ∧ I3 zs ms i s' ∧ Boxed 10 4288 (topC ms) s' ∧ get? s'.env 11 = some (.sc (.c (.bool (!ms.isEmpty)))) := by
  have h' := h.scrub [4288]
  have hd : look (s.scrub [4288]).objs 4288 = none := scrub_drop (by simp)
  generalize hs : s.scrub [4288] = s2 at h' hd
  obtain ⟨h0, h3, h4, h5, ho⟩ := h'
  obtain ⟨env, objs⟩ := s2
  simp only at h0 h3 h4 h5 ho hd
  have u1 := top15_hv n ms hl
  have hx := topC_len ms
  have c1 := ren_cs (topC ms)
  have c2 := ids_cs (topC ms)
  have hq : ((topC ms).map W.c).all notUn = true := by simp [notUn]
  have hxl : ((topC ms).map W.c).length = 5 := by simp [hx]
  have htk : ((topC ms).map W.c).take 5 = (topC ms).map W.c := List.take_of_length_le (by simp [hx])
  have hdr : ((topC ms).map W.c).drop 5 = [] := List.drop_of_length_le (by simp [hx])
  have hli : ∀ (L : Nat → Option Vs.Obj) (d : Nat), ((topC ms).map W.c).all (fun x => (W.ids L d x).all fun k => decide (64 ≤ k)) = true := fun L d => by simp [ids_c]
  generalize topC ms = it at u1 hq c1 c2 hxl htk hdr hli
  generalize (!ms.isEmpty) = b at u1
  unfold hv at u1 h3 h4
  unfold rv at h0
  generalize hr : ms.map itemC = rows at u1 h3 h4
  generalize hrs : intRows .i64 zs = rws at h0
  generalize hit : it.map W.c = xs at u1 hq c1 c2 hxl htk hdr hli
  unfold look at hd
  simp [get?, run, runOps, execL, execO, runO, exec1, ownV, Opd.val, look, putAll, St.live, listM, V.toD, W.toC, deep, V.cells, W.ids, V.ren, W.ren, ble_dec, splice, ownW, updL, call1, calleeOf, argsOf, vals, ownArgs, reach, indexIn, newIds, updOf, l3_9, I3, Boxed, h0, h3, h4, h5, hs, hd, get?_put, u1, hq, c1, hxl, ownW_nil, hit, hr, hrs, hv, rv, -List.map_map, -List.all_map]
  intro k hk
  by_cases hk2 : k = 4288
  · simp [hk2]
  · simp only [if_neg hk2] at hk
    exact ho k hk

theorem r3_10 (n p : Nat) (zs ms : List Int) (hl : ms.length ≤ 40) (i : Nat) (s : St) (h : I3 zs ms i s) (hB : Boxed 10 4288 (topC ms) s) (hb : get? s.env 11 = some (.sc (.c (.bool (!ms.isEmpty))))) :
    ∃ s', run (cx (n + 1)) p l3_10 s = some (.normal, s') ∧ I3 zs ms i s' ∧ Boxed 10 4288 (topC ms) s' ∧ get? s'.env 11 = some (.sc (.c (.bool (!ms.isEmpty)))) ∧ Boxed 12 4800 (topC ms) s' ∧ get? s'.env 13 = some (.sc (.c (.bool (!ms.isEmpty)))) := by
  have h' := h.scrub [4800]
  have hd : look (s.scrub [4800]).objs 4800 = none := scrub_drop (by simp)
  have hB1 : get? (s.scrub [4800]).env 10 = some (.sc (.ptr 4288 0)) := scrub_get hB.1 rfl
  have hB2 : look (s.scrub [4800]).objs 4288 = some (.box ((topC ms).map W.c)) := scrub_box hB.2 (by simp)
  have hb' := scrub_get (ks := [4800]) hb rfl
  generalize hs : s.scrub [4800] = s2 at h' hd hB1 hB2 hb'
  obtain ⟨h0, h3, h4, h5, ho⟩ := h'
  obtain ⟨env, objs⟩ := s2
  simp only at h0 h3 h4 h5 ho hd hB1 hB2 hb'
  have u1 := top16_hv n ms hl
  have hx := topC_len ms
  have c1 := ren_cs (topC ms)
  have c2 := ids_cs (topC ms)
  have hq : ((topC ms).map W.c).all notUn = true := by simp [notUn]
  have hxl : ((topC ms).map W.c).length = 5 := by simp [hx]
  have htk : ((topC ms).map W.c).take 5 = (topC ms).map W.c := List.take_of_length_le (by simp [hx])
  have hdr : ((topC ms).map W.c).drop 5 = [] := List.drop_of_length_le (by simp [hx])
  have hli : ∀ (L : Nat → Option Vs.Obj) (d : Nat), ((topC ms).map W.c).all (fun x => (W.ids L d x).all fun k => decide (64 ≤ k)) = true := fun L d => by simp [ids_c]
  generalize topC ms = it at hB2 u1 hq c1 c2 hxl htk hdr hli
  generalize (!ms.isEmpty) = b at u1 hb'
  unfold hv at u1 h3 h4
  unfold rv at h0
  generalize hr : ms.map itemC = rows at u1 h3 h4
  generalize hrs : intRows .i64 zs = rws at h0
  generalize hit : it.map W.c = xs at hB2 u1 hq c1 c2 hxl htk hdr hli
  unfold look at hd hB2
  simp [get?, run, runOps, execL, execO, runO, exec1, ownV, Opd.val, look, putAll, St.live, listM, V.toD, W.toC, deep, V.cells, W.ids, V.ren, W.ren, ble_dec, splice, ownW, updL, call1, calleeOf, argsOf, vals, ownArgs, reach, indexIn, newIds, updOf, l3_10, I3, Boxed, hB1, hB2, hb', h0, h3, h4, h5, hs, hd, get?_put, u1, hq, c1, hxl, ownW_nil, hit, hr, hrs, hv, rv, -List.map_map, -List.all_map]
  intro k hk
  by_cases hk2 : k = 4800
  · simp [hk2]
  · simp only [if_neg hk2] at hk
    exact ho k hk

theorem r3_11 (n p : Nat) (hn : 41 ≤ n) (zs ms : List Int) (hl : ms.length ≤ 40) (i : Nat) (s : St) (h : I3 zs ms i s) (hB : Boxed 10 4288 (topC ms) s) (hb : get? s.env 11 = some (.sc (.c (.bool (!ms.isEmpty)))))
    (hC : Boxed 12 4800 (topC ms) s) (hc : get? s.env 13 = some (.sc (.c (.bool (!ms.isEmpty))))) :
    ∃ s', run (cx (n + 1)) p l3_11 s = some (.normal, s') ∧ I3 zs ms i s' ∧ get? s'.env 87 = some (.sc (.c (.bool false))) := by
  obtain ⟨h0, h3, h4, h5, ho⟩ := h
  obtain ⟨B1, B2⟩ := hB
  obtain ⟨C1, C2⟩ := hC
  obtain ⟨env, objs⟩ := s
  simp only at h0 h3 h4 h5 ho B1 B2 C1 C2 hb hc
  obtain ⟨z, u1⟩ := num_top n ms
  have u2 := same17_eq n hn ms hl
  have hx := topC_len ms
  have c1 := ren_cs (topC ms)
  have c2 := ids_cs (topC ms)
  have c3 : ∀ (L : Nat → Option Vs.Obj) (d : Nat), listM (W.toC L d) ((topC ms).map W.c) = some (topC ms) := fun L d => listM_c L d _
  have c4 : ∀ d : Nat, ((topC ms).map W.c).flatMap (W.refs d) = [] := refs_cs (topC ms)
  have hxl : ((topC ms).map W.c).length = 5 := by simp [hx]
  have hq : ((topC ms).map W.c).all notUn = true := by simp [notUn]
  have htk : ((topC ms).map W.c).take 5 = (topC ms).map W.c := List.take_of_length_le (by simp [hx])
  generalize topC ms = it at u1 hq c1 c2 c3 c4 hxl htk B2 C2
  generalize (!ms.isEmpty) = b at hb hc
  unfold hv at u2 h3 h4
  unfold rv at h0
  generalize hr : ms.map itemC = rows at u2 h3 h4
  generalize hrs : intRows .i64 zs = rws at h0
  generalize hit : it.map W.c = xs at u1 hq c1 c2 c3 c4 hxl htk B2 C2
  unfold look at B2 C2
  unfold iv at u1
  simp [run, runOps, runO, exec1, ownV, Opd.val, look, putAll, St.live, binW, unW, isShift, intBin, nilEq, listM, V.toD, W.toC, deep, V.cells, W.ids, V.ren, W.ren, ble_dec, cut, asV, updL, call1, calleeOf, argsOf, vals, ownArgs, reach, indexIn, newIds, updOf, V.refs, W.refs, l3_11, I3, h0, h3, h4, h5, B1, B2, C1, C2, hb, hc, get?_put, u1, u2, c1, c2, c3, c4, hxl, htk, hit, hr, hrs, hv, rv, execR, recO, plainOp, V.direct, chkOk, indep, Rec.touch, apart, -List.map_map, -List.all_map]
  exact ho

theorem r3_2 (n p : Nat) (zs ms : List Int) (i : Nat) (s : St) (h : I3 zs ms i s) :
    ∃ s', run (cx n) p l3_2 s = some (.normal, s') ∧ I3 zs ms i s' ∧ get? s'.env 24 = some (.sc (.c (.bool (decide (i < zs.length))))) := by
  obtain ⟨h0, h3, h4, h5, ho⟩ := h
  obtain ⟨env, objs⟩ := s
  simp only at h0 h3 h4 h5 ho
  have hk : (intRows .i64 zs).length = zs.length := by simp [intRows]
  unfold hv at h3 h4
  unfold rv at h0
  generalize hr : ms.map itemC = rows at h3 h4
  generalize hrs : intRows .i64 zs = rws at h0 hk
  simp [run, runOps, execL, execO, runO, exec1, ownV, Opd.val, look, putAll, St.live, binW, isShift, intBin, lenV, isStr, l3_2, I3, h0, h3, h4, h5, hk, get?_put, hr, hrs, hv, rv, -List.map_map, -List.all_map]
  exact ho

theorem r3_12 (n p : Nat) (zs ms : List Int) (i : Nat) (hi : i ≤ 900) (s : St) (h : I3 zs ms i s) :
    ∃ s', run (cx n) p l3_12 s = some (.normal, s') ∧ I3 zs ms (i + 1) s' := by
  obtain ⟨h0, h3, h4, h5, ho⟩ := h
  obtain ⟨env, objs⟩ := s
  simp only at h0 h3 h4 h5 ho
  have hw := wrap_nat (i + 1) (by omega)
  simp only [Int.natCast_add, Int.cast_ofNat_Int] at hw
  unfold hv at h3 h4
  unfold rv at h0
  generalize hr : ms.map itemC = rows at h3 h4
  generalize hrs : intRows .i64 zs = rws at h0
  simp [run, runOps, execL, execO, runO, exec1, ownV, Opd.val, look, putAll, St.live, binW, isShift, intBin, l3_12, I3, h0, h3, h4, h5, hw, get?_put, hr, hrs, hv, rv, -List.map_map, -List.all_map]
  exact ho

/-- Ahead of round i: some history. -/
def J3 (zs : List Int) (i : Nat) (s : St) : Prop := ∃ ms : List Int, ms.length ≤ 30 ∧ I3 zs ms i s

theorem round3 (n p : Nat) (hn : 41 ≤ n) (zs : List Int) (hz : zs.length ≤ 200) (i : Nat) (hi : i < zs.length) (s : St) (h : J3 zs i s) : ∃ s', run (cx (n + 5)) p l3_13 s = some (.normal, s') ∧ J3 zs (i + 1) s' := by
  obtain ⟨ms, hl, h⟩ := h
  obtain ⟨z, hz1⟩ : ∃ z, zs[i]? = some z := ⟨zs[i], by simp [hi]⟩
  obtain ⟨s1, e1, h1, b1⟩ := r3_2 (n + 5) p zs ms i s h
  obtain ⟨s2, e2, b2, h2⟩ := r3_3 (n + 4) p zs ms i z hz1 s1 h1
  have step : ∀ ms' : List Int, ms'.length ≤ 30 → ∀ s3, I3 zs ms' i s3 → ∃ s', run (cx (n + 5)) p (.seq l3_9 (.seq l3_10 (.seq l3_11 (.cond (.t 87) (.seq (.region [] [⟨(some 2), (.mv (.k (.sc (.c (.bool false))))), none, 0, []⟩] [] []) .ret) .skip)))) s3 = some (.normal, s') ∧ I3 zs ms' i s' := by
    intro ms' hl' s3 h3
    obtain ⟨s4, e4, h4, B4, b4⟩ := r3_9 (n + 4) p zs ms' (by omega) i s3 h3
    obtain ⟨s5, e5, h5, B5, b5, C5, c5⟩ := r3_10 (n + 4) p zs ms' (by omega) i s4 h4 B4 b4
    obtain ⟨s6, e6, h6, b6⟩ := r3_11 (n + 4) p (by omega) zs ms' (by omega) i s5 h5 B5 b5 C5 c5
    refine ⟨s6, ?_, h6⟩
    rw [run_seq e4, run_seq e5, run_seq e6, run_cond b6]
    rfl
  have fin : ∀ ms' : List Int, ms'.length ≤ 30 → ∀ s3, I3 zs ms' i s3 → run (cx (n + 5)) p (.cond (.t 32) (.seq l3_4 (.seq l3_5 (.seq (.seq l3_6 (.cond (.t 45) (.seq (.region [] [⟨(some 2), (.mv (.k (.sc (.c (.bool false))))), none, 0, []⟩] [] []) .ret) .skip)) l3_7))) l3_8) s2 = some (.normal, s3) → ∃ s', run (cx (n + 5)) p l3_13 s = some (.normal, s') ∧ J3 zs (i + 1) s' := by
    intro ms' hl' s3 h3 e3
    obtain ⟨s4, e4, h4⟩ := step ms' hl' s3 h3
    obtain ⟨s5, e5, h5⟩ := r3_12 (n + 5) p zs ms' i (by omega) s4 h4
    refine ⟨s5, ?_, ms', hl', h5⟩
    unfold l3_13
    rw [run_seq (s' := s1) (by rw [run_seq e1, run_cond b1]; simp [hi, run]), run_seq (s' := s4) (run_block (by rw [run_seq (s' := s3) (by rw [run_seq e2]; exact e3)]; exact e4))]
    exact e5
  cases hm : (modI z 3 == 0) with
  | true =>
    obtain ⟨s3, e3, h3⟩ := r3_undo (n + 4) p zs ms (by omega) i _ s2 h2
    exact fin _ (by simp; omega) s3 h3 (by rw [run_cond b2, hm]; exact e3)
  | false =>
    obtain ⟨s3, e3, h3⟩ := r3_8 n p zs ms hl i z hz1 s2 h2
    exact fin _ (pushed_len _ _) s3 h3 (by rw [run_cond b2, hm]; exact e3)

theorem last3 (n p : Nat) (zs : List Int) (s : St) (h : J3 zs zs.length s) : ∃ s', run (cx n) p l3_13 s = some (.exit 0, s') := by
  obtain ⟨ms, _, h⟩ := h
  obtain ⟨s1, e1, _, b1⟩ := r3_2 n p zs ms zs.length s h
  refine ⟨s1, ?_⟩
  unfold l3_13
  exact run_seq_stop (by rw [run_seq e1, run_cond b1]; simp [run]) (by simp)

theorem loop3 (n p : Nat) (hn : 41 ≤ n) (zs : List Int) (hz : zs.length ≤ 200) (hp : 201 ≤ p) (s : St) (h : J3 zs 0 s) : ∃ s', iter (run (cx (n + 5)) p l3_13) p s = some (.exit 0, s') := by
  obtain ⟨e, s', h1, h2⟩ := iter_inv (J3 zs) (R := fun x => x.1 = .exit 0) (m := zs.length) (f := run (cx (n + 5)) p l3_13) (fun i s hi h => by
    by_cases hlt : i < zs.length
    · obtain ⟨s', h1, h2⟩ := round3 n p hn zs hz i hlt s h
      exact .inl ⟨s', h1, hlt, h2⟩
    · have : i = zs.length := by omega
      subst this
      obtain ⟨s', h1⟩ := last3 (n + 5) p zs s h
      exact .inr ⟨_, s', h1, by simp, rfl⟩) p 0 s (Nat.zero_le _) (by omega) h
  simp only at h2
  subst h2
  exact ⟨s', h1⟩

end Go.Vs.Try
