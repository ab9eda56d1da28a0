/- The laws of the history, evaluated (8). -/
import Derived.Test.YtogldkeabdgjgaaVsA6
import Derived.Test.YtogldkeabdgjgaaVs32
namespace Go.Vs.Try
open Go Go.Vs

theorem modI_range (a b : Int) (h1 : 1 ≤ b) (h2 : b ≤ 1000) : ∃ k : Nat, modI a b = (k : Int) ∧ (k : Int) < b := by
  have hlo := Int.lt_tmod_of_pos a (b := b) (by omega)
  have hhi := Int.tmod_lt_of_pos a (b := b) (by omega)
  have hnb : ¬ b < 1 := by omega
  unfold modI
  rw [if_neg hnb]
  by_cases hn : a.tmod b < 0
  · rw [if_pos hn, wrap_small _ (by omega)]
    exact ⟨(a.tmod b + b).toNat, by omega, by omega⟩
  · rw [if_neg hn]
    exact ⟨(a.tmod b).toNat, by omega, by omega⟩

/-- The history after pushes. -/
def pushes (b l : List Int) : List Int := l.foldl (fun ms z => pushed ms (modI z 1000)) b

theorem pushes_len (b l : List Int) (h : b.length ≤ 30) : (pushes b l).length ≤ 30 := by
  induction l generalizing b with
  | nil => exact h
  | cons z l ih => exact ih _ (pushed_len _ _)

theorem pushes_snoc (b l : List Int) (z : Int) : pushes b (l ++ [z]) = pushed (pushes b l) (modI z 1000) := by simp [pushes]

theorem pushes_take (b l : List Int) (i : Nat) (h : i < l.length) : pushes b (l.take (i + 1)) = pushed (pushes b (l.take i)) (modI l[i] 1000) := by
  rw [List.take_succ_eq_append_getElem h, pushes_snoc]

theorem pushed_eq (b : List Int) (m : Int) : pushed b m = (b ++ [m]).drop (b.length - 29) := by
  rw [List.drop_append_of_le_length (by omega)]
  rfl

theorem pushes_eq (l : List Int) : ∀ b : List Int, b.length ≤ 30 → pushes b l = (b ++ l.map fun z => modI z 1000).drop (b.length + l.length - 30) := by
  induction l with
  | nil =>
    intro b h
    have : b.length - 30 = 0 := by omega
    simp [pushes, this]
  | cons z l ih =>
    intro b h
    have h1 := ih (pushed b (modI z 1000)) (pushed_len _ _)
    have h2 : pushes b (z :: l) = pushes (pushed b (modI z 1000)) l := rfl
    rw [h2, h1, pushed_eq]
    by_cases h3 : b.length ≤ 29
    · have h4 : b.length - 29 = 0 := by omega
      simp only [h4, List.drop_zero, List.append_assoc, List.singleton_append, List.length_append, List.map_cons, List.length_cons, List.length_nil]
      congr 1
      omega
    · have h4 : b.length = 30 := by omega
      have h5 : b.length - 29 = 1 := by omega
      have h6 : ((b ++ [modI z 1000]).drop 1 ++ l.map fun z => modI z 1000) = (b ++ (z :: l).map fun z => modI z 1000).drop 1 := by
        rw [List.drop_append_of_le_length (by omega), List.drop_append_of_le_length (by omega)]
        simp
      rw [h5, h6, List.drop_drop]
      congr 1
      simp
      omega

/-- As many undos as pushes. -/
theorem back (b l : List Int) (hb : b.length ≤ 30) : (pushes b l).take ((pushes b l).length - l.length) =
    if b.length + l.length ≤ 30 then b else if 30 ≤ l.length then [] else b.drop (b.length + l.length - 30) := by
  rw [pushes_eq l b hb]
  by_cases h1 : b.length + l.length ≤ 30
  · have h2 : b.length + l.length - 30 = 0 := by omega
    simp [h1, h2]
  · rw [if_neg h1]
    by_cases h3 : 30 ≤ l.length
    · rw [if_pos h3]
      simp
      omega
    · rw [if_neg h3, List.drop_append_of_le_length (by omega)]
      rw [List.take_append_of_le_length (by simp <;> omega)]
      apply List.take_of_length_le
      simp <;> omega

def A5 (n : Int) (l b : List Int) (i : Nat) (s : St) : Prop := get? s.env 0 = some (iv n) ∧ get? s.env 1 = some (rv (intRows .i64 l)) ∧ get? s.env 5 = some (hv b) ∧ get? s.env 6 = some (.sc (.c (.int .i64 i)))

theorem c5_1 (q p : Nat) (n : Int) (k : Nat) (hk : modI n 25 = (k : Int)) (l b : List Int) (i : Nat) (s : St) (h : A5 n l b i s) :
    ∃ s', run (cx (q + 1)) p l5_1 s = some (.normal, s') ∧ get? s'.env 20 = some (.sc (.c (.bool (decide (i < k))))) ∧ A5 n l b i s' := by
  obtain ⟨h0, h1, h5, h6⟩ := h
  obtain ⟨env, objs⟩ := s
  simp only at h0 h1 h5 h6
  have u := mod_eq q n 25
  rw [hk] at u
  unfold iv at h0 u
  unfold rv at h1
  unfold hv at h5
  generalize hr : b.map itemC = rows at h5
  generalize hrs : intRows .i64 l = rws at h1
  simp [run, runOps, execL, execO, runO, exec1, ownV, Opd.val, iv, look, putAll, St.live, binW, isShift, intBin, listM, V.toD, W.toC, deep, V.cells, W.ids, V.ren, W.ren, ble_dec, updL, call1, calleeOf, argsOf, vals, ownArgs, reach, indexIn, newIds, updOf, l5_1, A5, h0, h1, h5, h6, get?_put, u, hr, hrs, hv, rv, -List.map_map, -List.all_map]

theorem b5_2 (q p : Nat) (n : Int) (l b : List Int) (hb : b.length ≤ 30) (i : Nat) (hi : i ≤ 900) (s : St) (h : A5 n l b i s) :
    ∃ s', run (cx (q + 5)) p (.seq (.block 1 l5_2) l5_3) s = some (.normal, s') ∧ A5 n l (pushed b (modI i 1000)) (i + 1) s' := by
  obtain ⟨h0, h1, h5, h6⟩ := h
  obtain ⟨env, objs⟩ := s
  simp only at h0 h1 h5 h6
  have hw := wrap_nat (i + 1) (by omega)
  simp only [Int.natCast_add, Int.cast_ofNat_Int] at hw
  have u1 := item_eq (q + 3) (i : Int)
  have u2 := push12_hv (q + 4) b (modI i 1000) (by omega)
  have hq : ((itemC (modI i 1000)).map W.c).all notUn = true := by simp [notUn]
  unfold itemV at u1 u2
  have c1 := ren_cs (itemC (modI i 1000))
  have c2 := ids_cs (itemC (modI i 1000))
  have c3 : ∀ (L : Nat → Option Vs.Obj) (d : Nat), listM (W.toC L d) ((itemC (modI i 1000)).map W.c) = some (itemC (modI i 1000)) := fun L d => listM_c L d _
  generalize itemC (modI i 1000) = it at u1 u2 hq c1 c2 c3
  generalize hit : it.map W.c = xs at u1 u2 hq c1 c2 c3
  generalize hms : pushed b (modI i 1000) = ms' at u2
  unfold iv at h0 u1
  unfold rv at h1
  unfold hv at h5 u2
  generalize hr : b.map itemC = rows at h5 u2
  generalize hr2 : ms'.map itemC = rows2 at u2
  generalize hrs : intRows .i64 l = rws at h1
  simp [run, runOps, execL, execO, runO, exec1, ownV, Opd.val, iv, look, putAll, St.live, binW, isShift, intBin, listM, V.toD, W.toC, deep, V.cells, W.ids, V.ren, W.ren, ble_dec, updL, call1, calleeOf, argsOf, vals, ownArgs, reach, indexIn, newIds, updOf, l5_2, l5_3, A5, h0, h1, h5, h6, hw, get?_put, u1, u2, c1, c2, c3, hit, hr2, hrs, hv, rv, -List.map_map, -List.all_map]

def B5 (l b a : List Int) (i : Nat) (s : St) : Prop := get? s.env 1 = some (rv (intRows .i64 l)) ∧ get? s.env 5 = some (hv b) ∧ get? s.env 7 = some (hv a) ∧ get? s.env 8 = some (.sc (.c (.int .i64 i)))

theorem c5_5 (q p : Nat) (l b a : List Int) (i : Nat) (s : St) (h : B5 l b a i s) :
    ∃ s', run (cx q) p l5_5 s = some (.normal, s') ∧ get? s'.env 31 = some (.sc (.c (.bool (decide (i < l.length))))) ∧ B5 l b a i s' := by
  obtain ⟨h1, h5, h7, h8⟩ := h
  obtain ⟨env, objs⟩ := s
  simp only at h1 h5 h7 h8
  have hk : (intRows .i64 l).length = l.length := by simp [intRows]
  unfold rv at h1
  unfold hv at h5 h7
  generalize hr : b.map itemC = rows at h5
  generalize hr2 : a.map itemC = rows2 at h7
  generalize hrs : intRows .i64 l = rws at h1 hk
  simp [run, runOps, execL, execO, runO, exec1, ownV, Opd.val, putAll, St.live, binW, isShift, intBin, lenV, isStr, l5_5, B5, h1, h5, h7, h8, hk, get?_put, hr, hr2, hrs, hv, rv, -List.map_map, -List.all_map]

theorem b5_6 (q p : Nat) (l b a : List Int) (ha : a.length ≤ 30) (i : Nat) (hi : i ≤ 900) (hil : i < l.length) (s : St) (h : B5 l b a i s) :
    ∃ s', run (cx (q + 5)) p (.seq (.block 3 l5_6) l5_7) s = some (.normal, s') ∧ B5 l b (pushed a (modI l[i] 1000)) (i + 1) s' := by
  obtain ⟨h1, h5, h7, h8⟩ := h
  obtain ⟨env, objs⟩ := s
  simp only at h1 h5 h7 h8
  have hk : (intRows .i64 l).length = l.length := by simp [intRows]
  have hrow : (intRows .i64 l)[i]? = some [.int .i64 l[i]] := by simp [intRows, hil]
  generalize l[i] = z at hrow
  have hw := wrap_nat (i + 1) (by omega)
  simp only [Int.natCast_add, Int.cast_ofNat_Int] at hw
  have u1 := item_eq (q + 3) z
  have u2 := push12_hv (q + 4) a (modI z 1000) (by omega)
  have hq : ((itemC (modI z 1000)).map W.c).all notUn = true := by simp [notUn]
  unfold itemV at u1 u2
  have c1 := ren_cs (itemC (modI z 1000))
  have c2 := ids_cs (itemC (modI z 1000))
  have c3 : ∀ (L : Nat → Option Vs.Obj) (d : Nat), listM (W.toC L d) ((itemC (modI z 1000)).map W.c) = some (itemC (modI z 1000)) := fun L d => listM_c L d _
  generalize itemC (modI z 1000) = it at u1 u2 hq c1 c2 c3
  generalize hit : it.map W.c = xs at u1 u2 hq c1 c2 c3
  generalize hms : pushed a (modI z 1000) = ms' at u2
  unfold iv at u1
  unfold rv at h1
  unfold hv at h5 h7 u2
  generalize hr : b.map itemC = rows at h5
  generalize hr3 : a.map itemC = rows3 at h7 u2
  generalize hr2 : ms'.map itemC = rows2 at u2
  generalize hrs : intRows .i64 l = rws at h1 hk hrow
  have hrow2 : ∀ h : i < rws.length, rws[i]'h = [.int .i64 z] := fun h => by simpa [h] using hrow
  simp [run, runOps, execL, execO, runO, exec1, ownV, Opd.val, look, putAll, St.live, binW, isShift, intBin, listM, V.toD, W.toC, deep, V.cells, W.ids, V.ren, W.ren, ble_dec, blt_dec, cut, asV, updL, call1, calleeOf, argsOf, vals, ownArgs, reach, indexIn, newIds, updOf, l5_6, l5_7, B5, h1, h5, h7, h8, hw, hk, hil, hrow2, natBelow_nat, get?_put, u1, u2, c1, c2, c3, hit, hr, hr2, hrs, hv, rv, -List.map_map, -List.all_map]

def C5 (l b a : List Int) (lost : Int) (i : Nat) (s : St) : Prop := get? s.env 1 = some (rv (intRows .i64 l)) ∧ get? s.env 5 = some (hv b) ∧ get? s.env 7 = some (hv a) ∧ get? s.env 9 = some (.sc (.c (.int .i64 lost))) ∧ get? s.env 10 = some (.sc (.c (.int .i64 i)))

theorem c5_10 (q p : Nat) (l b a : List Int) (lost : Int) (i : Nat) (s : St) (h : C5 l b a lost i s) :
    ∃ s', run (cx q) p l5_10 s = some (.normal, s') ∧ get? s'.env 50 = some (.sc (.c (.bool (decide (i < l.length))))) ∧ C5 l b a lost i s' := by
  obtain ⟨h1, h5, h7, h9, h10⟩ := h
  obtain ⟨env, objs⟩ := s
  simp only at h1 h5 h7 h9 h10
  have hk : (intRows .i64 l).length = l.length := by simp [intRows]
  unfold rv at h1
  unfold hv at h5 h7
  generalize hr : b.map itemC = rows at h5
  generalize hr2 : a.map itemC = rows2 at h7
  generalize hrs : intRows .i64 l = rws at h1 hk
  simp [run, runOps, execL, execO, runO, exec1, ownV, Opd.val, putAll, St.live, binW, isShift, intBin, lenV, isStr, l5_10, C5, h1, h5, h7, h9, h10, hk, get?_put, hr, hr2, hrs, hv, rv, -List.map_map, -List.all_map]

theorem b5_11 (q p : Nat) (l b a : List Int) (ha : a.length ≤ 30) (lost : Int) (i : Nat) (hi : i ≤ 900) (s : St) (h : C5 l b a lost i s) :
    ∃ s', run (cx (q + 1)) p (.seq (.block 5 l5_11) l5_12) s = some (.normal, s') ∧ C5 l b a.dropLast lost (i + 1) s' := by
  obtain ⟨h1, h5, h7, h9, h10⟩ := h
  obtain ⟨env, objs⟩ := s
  simp only at h1 h5 h7 h9 h10
  have hw := wrap_nat (i + 1) (by omega)
  simp only [Int.natCast_add, Int.cast_ofNat_Int] at hw
  have u1 := undo10_eq q a (by omega)
  generalize a.dropLast = a' at u1
  generalize (!a.isEmpty) = e at u1
  unfold rv at h1
  unfold hv at h5 h7 u1
  generalize hr : b.map itemC = rows at h5
  generalize hr2 : a.map itemC = rows2 at h7 u1
  generalize hr3 : a'.map itemC = rows3 at u1
  generalize hrs : intRows .i64 l = rws at h1
  simp [run, runOps, execL, execO, runO, exec1, ownV, Opd.val, look, putAll, St.live, binW, isShift, intBin, listM, V.toD, W.toC, deep, V.cells, W.ids, V.ren, W.ren, ble_dec, updL, call1, calleeOf, argsOf, vals, ownArgs, reach, indexIn, newIds, updOf, l5_11, l5_12, C5, h1, h5, h7, h9, h10, hw, u1, get?_put, hr, hr3, hrs, hv, rv, -List.map_map, -List.all_map]

theorem loop5_4 (q p : Nat) (hp : 41 ≤ p) (n : Int) (l : List Int) (s : St) (h : A5 n l [] 0 s) : ∃ s' b, run (cx (q + 5)) p (.loop l5_4) s = some (.exit 0, s') ∧ b.length ≤ 30 ∧ get? s'.env 1 = some (rv (intRows .i64 l)) ∧ get? s'.env 5 = some (hv b) := by
  obtain ⟨k, hk, hk2⟩ := modI_range n 25 (by omega) (by omega)
  obtain ⟨s', e, b, hb, h0, h1, h5, h6⟩ := countLoop (C := cx (q + 5)) (p := p) (lc := l5_1) (lb := .seq (.block 1 l5_2) l5_3) (b := 20) (e := 0) (fun i s => ∃ b : List Int, b.length ≤ 30 ∧ A5 n l b i s) (m := k)
    (fun i s _ h => by
      obtain ⟨b, hb, h⟩ := h
      obtain ⟨s', e, h1, h2⟩ := c5_1 (q + 4) p n k hk l b i s h
      exact ⟨s', e, h1, b, hb, h2⟩)
    (fun i s hi h => by
      obtain ⟨b, hb, h⟩ := h
      obtain ⟨s', e, h2⟩ := b5_2 q p n l b hb i (by omega) s h
      exact ⟨s', e, _, pushed_len _ _, h2⟩) (by omega) (s := s) ⟨[], by simp, h⟩
  exact ⟨s', b, e, hb, h1, h5⟩

theorem loop5_8 (q p : Nat) (hp : 41 ≤ p) (l b : List Int) (hl : l.length ≤ 40) (hb : b.length ≤ 30) (s : St) (h : B5 l b b 0 s) : ∃ s', run (cx (q + 5)) p (.loop l5_8) s = some (.exit 2, s') ∧ get? s'.env 1 = some (rv (intRows .i64 l)) ∧ get? s'.env 5 = some (hv b) ∧ get? s'.env 7 = some (hv (pushes b l)) := by
  obtain ⟨s', e, h1, h5, h7, h8⟩ := countLoop (C := cx (q + 5)) (p := p) (lc := l5_5) (lb := .seq (.block 3 l5_6) l5_7) (b := 31) (e := 2) (fun i s => B5 l b (pushes b (l.take i)) i s) (m := l.length)
    (fun i s _ h => c5_5 (q + 5) p l b _ i s h)
    (fun i s hi h => by
      obtain ⟨s', e, h2⟩ := b5_6 q p l b _ (pushes_len b _ hb) i (by omega) hi s h
      rw [← pushes_take b l i hi] at h2
      exact ⟨s', e, h2⟩) (by omega) (s := s) h
  rw [List.take_length] at h7
  exact ⟨s', e, h1, h5, h7⟩

theorem loop5_13 (q p : Nat) (hp : 41 ≤ p) (l b a : List Int) (hl : l.length ≤ 40) (ha : a.length ≤ 30) (lost : Int) (s : St) (h : C5 l b a lost 0 s) : ∃ s', run (cx (q + 1)) p (.loop l5_13) s = some (.exit 4, s') ∧ C5 l b (a.take (a.length - l.length)) lost l.length s' := by
  obtain ⟨s', e, h⟩ := countLoop (C := cx (q + 1)) (p := p) (lc := l5_10) (lb := .seq (.block 5 l5_11) l5_12) (b := 50) (e := 4) (fun i s => C5 l b (a.take (a.length - i)) lost i s) (m := l.length)
    (fun i s _ h => c5_10 (q + 1) p l b _ lost i s h)
    (fun i s hi h => by
      obtain ⟨s', e, h2⟩ := b5_11 q p l b _ (by simp; omega) lost i (by omega) s h
      refine ⟨s', e, ?_⟩
      rw [List.dropLast_eq_take, List.take_take, List.length_take] at h2
      rwa [show min (min (a.length - i) a.length - 1) (a.length - i) = a.length - (i + 1) by omega] at h2) (by omega) (s := s) (by simpa using h)
  exact ⟨s', e, h⟩

end Go.Vs.Try
