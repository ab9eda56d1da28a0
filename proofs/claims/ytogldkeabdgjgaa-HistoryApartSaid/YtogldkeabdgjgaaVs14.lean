/- The value semantics, 14: append. -/
import Derived.Test.YtogldkeabdgjgaaVs13
namespace Go.Vs
open Go

section
variable {P : Program} {C : Ctx} {N : Nat} {w0 : World} {ω0 : Nat → Nat} {S : Fr} {E : Nat → Option V} {L : Nat → Option Obj} {a : Act} {w : World} {ω : Nat → Nat} {β : Nat → Option Nat}
variable {o : Oper} {v : V}

theorem run_append_zero {t ty e : TypeId} {i : TypeInfo} (ht : P.underlying t = some (.slice e)) (hi : P.info? e = some i) {base yb : Option Addr} {n cap yc : Nat} (hn : n ≤ cap) :
    (Builtin.append_ #[t, t] ty #[.slice base n cap, .slice yb 0 yc]).run P w = .ok (.slice base n cap) w := by
  have hf : (Builtin.firstCells i.size 0 (.slice yb 0 yc)).run P w = .ok #[] w := by
    cases yb with
    | none => rfl
    | some b =>
      have := run_loadCells_list (P := P) w b [] (by simp)
      simpa [Builtin.firstCells] using this
  cases base <;> simp [Builtin.append_, run_underlying ht, sizeOf, typeInfo, hi, Builtin.lenOf, hn, hf, storeCells]

theorem run_append_room' {t ty e : TypeId} {i : TypeInfo} (ht : P.underlying t = some (.slice e)) (hi : P.info? e = some i) {g sLen sCap : Nat} {cur : Array Value} {te : TypeId} (hg : w.heap[g]? = some (.cells cur te (0, 0)))
    {A : Addr} {m c : Nat} {news : List Value} (hl : news.length = m * i.size) (hnews : ∀ (j : Nat) (u : Value), news[j]? = some u → w.cell? (A.add j) = some u) (h1 : ∀ u ∈ news, u.oneCell' = true)
    (hroom : sLen + m ≤ sCap) (hfit : sLen * i.size + news.length ≤ cur.size) :
    (Builtin.append_ #[t, t] ty #[.slice (some ⟨g, 0, none⟩) sLen sCap, .slice (some A) m c]).run P w =
      .ok (.slice (some ⟨g, 0, none⟩) (sLen + m) sCap) (w.setRow g (cur.toList.take (sLen * i.size) ++ news ++ cur.toList.drop (sLen * i.size + news.length)).toArray) := by
  have hf := run_firstCells_some (P := P) w i.size m A m c news hl hnews
  have hst := run_storeCells_at P g (sLen * i.size) te news 0 cur w hg (by simpa using hfit) h1
  simp only [Nat.add_zero] at hst
  simp [Builtin.append_, run_underlying ht, sizeOf, typeInfo, hi, Builtin.lenOf, hroom, hf, Addr.add_lit, hst]

theorem Tr.heapEq {w' : World} (h : w'.heap = w.heap) (k : Nat) : Tr w β w' β L L k := by
  unfold Tr
  cases L k with
  | none => trivial
  | some o => cases o with
    | box cs => exact ⟨⟨cs, rfl, rfl⟩, rfl⟩
    | arr s rows p => exact ⟨rows, p, rfl, Nat.le_refl _, fun _ => ⟨rfl, fun b cur t _ hc => ⟨cur, by rw [h]; exact hc, rfl⟩⟩⟩

theorem RWlist.drew {xs : List W} {vs : List Value} (h : RWlist w ω β L xs vs) : RWlist w.drew ω β L xs vs :=
  RWlist.step (w := w) (w' := w.drew) (ω := ω) (ω' := ω) (β := β) (β' := β) (L := L) (L' := L) ⟨fun _ _ hi _ hv => ⟨hv, hi⟩⟩ (fun k => Tr.heapEq rfl k) xs h

theorem run_call_append {t u : TypeId} {x y : Operand} (ho : o.op = .call { callee := .builtin .append, args := #[x, y], argTypes := #[t, u] }) {vv : Value} {w' : World}
    (h : (Builtin.append_ #[t, u] o.type #[a.eval x, a.eval y]).run P w = .ok vv w') : (execOp a.eval o).run P w = .ok (.value vv) w' := by
  unfold execOp
  simp only [ho, resolve, invoke, builtin, Sem.run_bind, Sem.run_pure, Result.andThen_ok, List.map_toArray, List.map_cons, List.map_nil, h]

theorem flat_length {s : Nat} : ∀ {ys : List (List W)}, (∀ r ∈ ys, r.length = s) → ys.flatten.length = ys.length * s
  | [], _ => by simp
  | x :: xs, h => by
    rw [List.flatten_cons, List.length_append, h x (by simp), flat_length (fun r hr => h r (by simp [hr]))]
    simp only [List.length_cons, Nat.add_mul]; omega

theorem all_notUn {ys : List (List W)} {s : Nat} (h : ys.all (fun r => r.length == s && r.all notUn) = true) : (∀ r ∈ ys, r.length = s) ∧ ys.flatten.all notUn = true := by
  rw [List.all_eq_true] at h
  refine ⟨fun r hr => ?_, ?_⟩
  · have := h r hr
    simp only [Bool.and_eq_true, beq_iff_eq] at this
    exact this.1
  · rw [List.all_eq_true]
    intro x hx
    rw [List.mem_flatten] at hx
    obtain ⟨r, hr, hx⟩ := hx
    have := h r hr
    simp only [Bool.and_eq_true] at this
    exact List.all_eq_true.1 this.2 x hx

theorem take_grown {α : Type} (xs ns rest : List α) {k : Nat} (h : (xs ++ ns).length = k) : (xs ++ ns ++ rest).take k = xs ++ ns := by
  rw [← h, List.take_left']
  rfl

theorem makes_app (r : Rel C.gl N w0 ω0 S E L a w ω β) {t e : TypeId} {i : TypeInfo} {z : Value} {x y : Operand} {x' y' : Opd} {oid : Nat} {mk : Bool} (ho : o.op = .call { callee := .builtin .append, args := #[x, y], argTypes := #[t, t] })
    (hx : mOpd x x' = true) (hy : mOpd y y' = true) (ht : P.underlying t = some (.slice e)) (hi : P.info? e = some i) (hz : i.zero = some z) (hzs : z.cells.size = i.size) (hs : 0 < i.size) {u : Upd}
    (h : exec1 C E L oid (.app i.size i.bytes mk x' y') = some (v, u)) : Makes P C.gl N w0 ω0 S E L o a w v u := by
  have h1 := mOpd_ok r hx
  have h2 := mOpd_ok r hy
  simp only [exec1] at h
  unfold append1 at h
  split at h
  · cases h
  · rename_i ys hys
    cases hall : ys.all (fun r => r.length == i.size && r.all notUn) with
    | false => rw [hall] at h; simp at h
    | true =>
      rw [hall] at h
      simp only [cond_true] at h
      obtain ⟨hrows, hnu⟩ := all_notUn hall
      obtain ⟨yb, yc, hyv, hread⟩ := rowsRead r h2 hys hrows
      -- what is common to a growing append
      have grown : ∀ (vs : List Value) (n : Nat) (news : List Value), vs.length = n * i.size → news.length = ys.length * i.size → ∀ (k : Nat), n + ys.length ≤ k →
          (vs.toArray ++ news.toArray ++ Builtin.zeroCells z.cells (k - (n + ys.length))).size = k * i.size ∧
          (vs.toArray ++ news.toArray ++ Builtin.zeroCells z.cells (k - (n + ys.length))).toList.take ((n + ys.length) * i.size) = vs ++ news := by
        intro vs n news hv hn k hk
        constructor
        · simp only [Array.size_append, List.size_toArray, size_zeroCells, hzs, hv, hn, ← Nat.add_mul]
          congr 1
          omega
        · simp only [Array.toList_append]
          rw [take_grown]
          rw [List.length_append, hv, hn, Nat.add_mul]
      split at h
      · rename_i k n hv
        rw [hv] at h1
        split at h
        · rename_i s' rows p hL
          cases hb : (rows.length == n && s' == i.size && !mk && Nat.ble (n + ys.length) maxRows && Nat.ble ((n + ys.length) * i.bytes) maxBytes) with
          | false => rw [hb] at h; simp at h
          | true =>
            rw [hb] at h
            simp only [cond_true, Option.some.injEq, Prod.mk.injEq] at h
            obtain ⟨rfl, rfl⟩ := h
            simp only [Bool.and_eq_true, beq_iff_eq] at hb
            obtain ⟨⟨⟨⟨hn, hs'⟩, _⟩, hb1⟩, hb2⟩ := hb
            subst hs' hn
            have hb1 := Nat.le_of_ble_eq_true hb1
            have hb2 := Nat.le_of_ble_eq_true hb2
            have hb1' : rows.length + ys.length ≤ 9223372036854775807 := hb1
            have hb2' : (rows.length + ys.length) * i.bytes ≤ 140737488355328 := hb2
            obtain ⟨f1, f2, f3, f4⟩ := r.obj k _ hL
            simp only [RV, RV1, RW] at h1
            obtain ⟨s1, rows1, p1, e1, e2, _, e3⟩ := h1
            rw [hL] at e1
            cases e1
            have hnewrows : ∀ r ∈ rows ++ ys, r.length = i.size := by
              intro r hr
              rw [List.mem_append] at hr
              rcases hr with hr | hr
              · exact f2 r hr
              · exact hrows r hr
            have hflat : (rows ++ ys).flatten = rows.flatten ++ ys.flatten := by simp
            by_cases hy0 : ys = []
            · subst hy0
              simp only [List.append_nil, List.length_nil, Nat.add_zero] at *
              have hsl : ∃ base cap, a.eval x = .slice base rows.length cap ∧ rows.length ≤ cap := by
                rcases e3 trivial with ⟨b, cap, cur, ty, g1, g2, g3, g4⟩ | ⟨g1, g2, base, g3⟩
                · refine ⟨_, cap, g2, ?_⟩
                  rcases f4 with ⟨b', cap', cur', t', k2, k3, k4, k5, k6, _⟩ | ⟨k2, _⟩
                  · rw [g1] at k2; cases k2; rw [g3] at k3; cases k3
                    have : cap = cap' := Nat.eq_of_mul_eq_mul_right f1 (g4.symm.trans k4)
                    omega
                  · rw [g1] at k2; cases k2
                · exact ⟨base, 0, by rw [g2]; exact g3, by omega⟩
              obtain ⟨base, cap, hxv, hcap⟩ := hsl
              have hrun := run_append_zero (P := P) (w := w) (ty := o.type) (yb := yb) (yc := yc) (base := base) ht hi hcap
              rw [← hxv, ← hyv] at hrun
              have eL : updO L k (some (.arr i.size rows p)) = L := by
                funext j
                by_cases hj : j = k
                · subst hj; rw [updO_same]; exact hL.symm
                · exact updO_ne hj
              refine ⟨_, a.eval x, w, ω, β, run_call_append ho hrun, .inl rfl, ?_, ?_⟩
              · simp only [updL, eL]; exact r
              · simp only [updL, eL, RV, RV1, RW]
                exact ⟨i.size, rows, p, hL, Nat.le_refl _, ⟨base, _, cap, hxv⟩, fun _ => e3 trivial⟩
            · have hm : 0 < ys.length := by cases ys with
                | nil => exact absurd rfl hy0
                | cons _ _ => simp
              rcases hread with hread | ⟨A, news, rfl, hnr, hnl, hnat⟩
              · exact absurd hread hy0
              have hone := hnr.oneCells hnu
              rcases e3 rfl with ⟨b, cap, cur, ty, g1, g2, g3, g4⟩ | ⟨g1, g2, base, g3⟩
              · rcases f4 with ⟨b', cap', cur', t', k2, k3, k4, k5, k6, k7, k8⟩ | ⟨k2, _⟩
                · rw [g1] at k2; cases k2; rw [g3] at k3; cases k3
                  have hcc : cap = cap' := Nat.eq_of_mul_eq_mul_right f1 (g4.symm.trans k4)
                  subst hcc
                  by_cases hroom : rows.length + ys.length ≤ cap
                  · -- in place
                    have hfit : rows.length * i.size + news.length ≤ cur.size := by rw [hnl, g4, ← Nat.add_mul]; exact Nat.mul_le_mul_right _ hroom
                    have hrun := run_append_room' (P := P) (ty := o.type) (c := yc) ht hi g3 hnl hnat hone hroom hfit
                    rw [← g2, ← hyv] at hrun
                    have hpsz : p * i.size ≤ rows.length * i.size := Nat.mul_le_mul_right _ f3
                    have hpub : ∀ q, q < ω b → (cur.toList.take (rows.length * i.size) ++ news ++ cur.toList.drop (rows.length * i.size + news.length)).toArray[q]? = cur[q]? := by
                      intro q hq
                      rw [k8] at hq
                      have hlt : q < (cur.toList.take (rows.length * i.size)).length := by
                        simp only [List.length_take, Array.length_toList]; omega
                      rw [List.getElem?_toArray, List.append_assoc, List.getElem?_append_left hlt, List.getElem?_take]
                      rw [if_pos (by omega), Array.getElem?_toList]
                    obtain ⟨r2, t2⟩ := r.write (o' := .arr i.size (rows ++ ys) p) hL g1 cur (cur.toList.take (rows.length * i.size) ++ news ++ cur.toList.drop (rows.length * i.size + news.length)).toArray ty g3
                      (by simp only [List.size_toArray, List.length_append, List.length_take, List.length_drop, Array.length_toList]; omega) (p * i.size) (by omega) hpub ⟨rfl, by simp⟩
                      (fun tr hh => by
                        refine ⟨f1, hnewrows, by simp only [List.length_append]; omega, .inl ⟨b, cap, _, ty, g1, hh, ?_, by simp only [List.length_append]; exact hroom, k6, ?_, by simp [setN]⟩⟩
                        · simp only [List.size_toArray, List.length_append, List.length_take, List.length_drop, Array.length_toList]; omega
                        · have gr : Grows w ω (w.setRow b (cur.toList.take (rows.length * i.size) ++ news ++ cur.toList.drop (rows.length * i.size + news.length)).toArray) (setN ω b (p * i.size)) := ⟨fun b' q hq v hv => by
                            by_cases hb' : b' = b
                            · subst hb'
                              have hh2 := setRow_heap w b' cur (cur.toList.take (rows.length * i.size) ++ news ++ cur.toList.drop (rows.length * i.size + news.length)).toArray ty (0, 0) g3
                              exact ⟨by rw [at?_block hh2, hpub q hq, ← at?_block g3]; exact hv, by simp only [setN, if_true]; omega⟩
                            · exact ⟨by rw [at?_setRow_other w b b' q _ hb']; exact hv, by simp [setN, hb']; exact hq⟩⟩
                          have hst := RWlist.step gr tr _ (k7.append hnr)
                          rw [hflat]
                          have e : (cur.toList.take (rows.length * i.size) ++ news ++ cur.toList.drop (rows.length * i.size + news.length)).toArray.toList.take ((rows ++ ys).length * i.size) = cur.toList.take (rows.length * i.size) ++ news := by
                            refine take_grown _ _ _ ?_
                            simp only [List.length_append, List.length_take, Array.length_toList, hnl, Nat.add_mul]
                            omega
                          rw [e]
                          exact hst)
                    refine ⟨_, _, _, _, _, run_call_append ho hrun, .inl rfl, r2, ?_⟩
                    simp only [updL, RV, RV1, RW]
                    refine ⟨i.size, rows ++ ys, p, updO_same _ _ _, by simp, ⟨_, _, _, rfl⟩, fun _ => .inl ⟨b, cap, _, ty, g1, rfl, setRow_heap w b cur _ ty _ g3, ?_⟩⟩
                    simp only [List.size_toArray, List.length_append, List.length_take, List.length_drop, Array.length_toList]
                    omega
                  · -- into a new block
                    have holds : ∀ j v, (cur.toList.take (rows.length * i.size))[j]? = some v → w.cell? ((⟨b, 0, none⟩ : Addr).add j) = some v := by
                      intro j q hq
                      rw [addr_add]
                      rw [List.getElem?_take] at hq
                      split at hq
                      · have := at?_block (i := j) g3
                        simp only [at?] at this
                        rw [Nat.zero_add, this, ← Array.getElem?_toList]
                        exact hq
                      · cases hq
                    have holl : (cur.toList.take (rows.length * i.size)).length = rows.length * i.size := by
                      have : rows.length * i.size ≤ cap * i.size := Nat.mul_le_mul_right _ k5
                      simp only [List.length_take, Array.length_toList]; omega
                    have hrun := run_append_grow (P := P) w t o.type e i z ht hi hz ⟨b, 0, none⟩ rows.length cap _ holl holds A ys.length yc news hnl hnat (by omega) (by omega) (growslice_fits (by omega) hb2')
                    rw [← g2, ← hyv] at hrun
                    have hge := grownCap_ge w (rows.length + ys.length) cap e
                    have hcm := grownCap_le_maxLen w (rows.length + ys.length) cap e hb1'
                    obtain ⟨q1, q2⟩ := grown _ rows.length news holl hnl _ hge
                    have rd : Rel C.gl N w0 ω0 S E L a w.drew ω β := r.heapEq rfl rfl rfl rfl
                    obtain ⟨r2, t2⟩ := rd.move (k := k) (s := i.size) (rows := rows) (rows' := rows ++ ys) (p := p) (p' := p) hL (by simp; omega) ((cur.toList.take (rows.length * i.size)).toArray ++ news.toArray ++ Builtin.zeroCells z.cells (grownCap w (rows.length + ys.length) cap e - (rows.length + ys.length))) e (p * i.size)
                      (fun tr => ⟨f1, hnewrows, by simp only [List.length_append]; omega, .inl ⟨w.heap.size, _, _, e, by simp [setN], heap_alloc_new w.drew _, q1, by simpa using hge, hcm, by
                        rw [hflat, List.length_append, q2]
                        exact RWlist.step (Grows.alloc w.drew ω _ _) tr _ (k7.append hnr).drew, by simp [setN]⟩⟩)
                    refine ⟨_, _, _, _, _, run_call_append ho hrun, .inl rfl, r2, ?_⟩
                    simp only [updL, RV, RV1, RW]
                    exact ⟨i.size, rows ++ ys, p, updO_same _ _ _, by simp, ⟨_, _, _, rfl⟩, fun _ => .inl ⟨w.heap.size, _, _, e, by simp [setN], rfl, heap_alloc_new w.drew _, q1⟩⟩
                · rw [g1] at k2; cases k2
              · -- no block yet
                have hr0 : rows = [] := List.eq_nil_of_length_eq_zero g2
                subst hr0
                simp only [List.length_nil, Nat.zero_add, List.nil_append] at *
                have hp0 : p = 0 := by omega
                subst hp0
                have hrun : (Builtin.append_ #[t, t] o.type #[.slice base 0 0, .slice (some A) ys.length yc]).run P w = .ok (.slice (some ⟨w.heap.size, 0, none⟩) ys.length (grownCap w ys.length 0 e)) (w.drew.alloc (.cells (news.toArray ++ Builtin.zeroCells z.cells (grownCap w ys.length 0 e - ys.length)) e)) := by
                  cases base with
                  | none => exact run_append_nil (P := P) w t o.type e i z ht hi hz A ys.length yc news hnl hnat hm (by omega) (by omega)
                  | some b =>
                    have := run_append_grow (P := P) w t o.type e i z ht hi hz b 0 0 [] (by simp) (by simp) A ys.length yc news hnl hnat (by omega) (by omega) (growslice_fits (by omega) (by simpa using hb2'))
                    simpa using this
                rw [← g3, ← hyv] at hrun
                have hge := grownCap_ge w ys.length 0 e
                have hcm := grownCap_le_maxLen w ys.length 0 e hb1'
                obtain ⟨q1, q2⟩ := grown [] 0 news (by simp) hnl _ (by simpa using hge)
                simp only [Nat.zero_add, List.nil_append, Array.empty_append] at q1 q2
                have rd : Rel C.gl N w0 ω0 S E L a w.drew ω β := r.heapEq rfl rfl rfl rfl
                obtain ⟨r2, t2⟩ := rd.move (k := k) (s := i.size) (rows := []) (rows' := ys) (p := 0) (p' := 0) hL (by simpa using hm) (news.toArray ++ Builtin.zeroCells z.cells (grownCap w ys.length 0 e - ys.length)) e 0
                  (fun tr => ⟨f1, hrows, Nat.zero_le _, .inl ⟨w.heap.size, _, _, e, by simp [setN], heap_alloc_new w.drew _, q1, hge, hcm, by
                    rw [q2]; exact RWlist.step (Grows.alloc w.drew ω _ _) tr _ hnr.drew, by simp [setN]⟩⟩)
                refine ⟨_, _, _, _, _, run_call_append ho hrun, .inl rfl, r2, ?_⟩
                simp only [updL, RV, RV1, RW]
                exact ⟨i.size, ys, 0, updO_same _ _ _, Nat.le_refl _, ⟨_, _, _, rfl⟩, fun _ => .inl ⟨w.heap.size, _, _, e, by simp [setN], rfl, heap_alloc_new w.drew _, q1⟩⟩
        · cases h
      · split at h
        · cases h
        · rename_i rows0 hrows0
          split at h
          · cases h
          · rename_i hk
            cases hb : (mk && (rows0.isEmpty || !ys.isEmpty) && rows0.all (fun r => r.length == i.size) && Nat.ble (rows0.length + ys.length) maxRows && Nat.ble ((rows0.length + ys.length) * i.bytes) maxBytes) with
            | false => rw [hb] at h; simp at h
            | true =>
              rw [hb] at h
              simp only [cond_true, Option.some.injEq, Prod.mk.injEq] at h
              obtain ⟨rfl, rfl⟩ := h
              simp only [Bool.and_eq_true, Bool.or_eq_true, Bool.not_eq_true', List.isEmpty_iff] at hb
              obtain ⟨⟨⟨⟨_, hb0⟩, hbr⟩, hb1⟩, hb2⟩ := hb
              have hb1 := Nat.le_of_ble_eq_true hb1
              have hb2 := Nat.le_of_ble_eq_true hb2
              have hb1' : rows0.length + ys.length ≤ 9223372036854775807 := hb1
              have hb2' : (rows0.length + ys.length) * i.bytes ≤ 140737488355328 := hb2
              have hr0 : ∀ r ∈ rows0, r.length = i.size := by
                intro r hr
                simpa using List.all_eq_true.1 hbr r hr
              have hr0' : ∀ r ∈ rows0.map (·.map W.c), r.length = i.size := by
                intro r hr
                obtain ⟨q, hq, rfl⟩ := List.mem_map.1 hr
                simpa using hr0 q hq
              -- the old value: exactly full
              obtain ⟨base, hxv, hold⟩ : ∃ base, a.eval x = .slice base rows0.length rows0.length ∧ (rows0 = [] ∨ ∃ A olds, base = some A ∧ RWlist w ω β L (rows0.map (·.map W.c)).flatten olds ∧ olds.length = rows0.length * i.size ∧ ∀ (j : Nat) (u : Value), olds[j]? = some u → w.cell? (A.add j) = some u) := by
                split at hrows0
                · rename_i hv
                  simp only [Option.some.injEq] at hrows0
                  subst hrows0
                  rw [hv] at h1
                  simp only [RV, RV1, RW] at h1
                  exact ⟨none, h1, .inl rfl⟩
                · rename_i rows hv
                  simp only [Option.some.injEq] at hrows0
                  subst hrows0
                  rw [hv] at h1
                  obtain ⟨b1, c1, g1, g2⟩ := rowsRead r h1 (ys := rows.map (·.map W.c)) (s := i.size) (by simp [rowsOf]) hr0'
                  simp only [RV, RV1, RW] at h1
                  obtain ⟨_, b2, n2, g3⟩ := h1
                  rw [g3] at g1
                  simp only [Value.slice.injEq, List.length_map] at g1
                  obtain ⟨rfl, rfl, _⟩ := g1
                  refine ⟨b2, g3, ?_⟩
                  rcases g2 with g2 | ⟨A, news, g2, g4, g5, g6⟩
                  · left; simpa using g2
                  · right; exact ⟨A, news, g2, g4, by simpa using g5, g6⟩
                · cases hrows0
              by_cases hy0 : ys = []
              · have hz0 : rows0 = [] := by
                  rcases hb0 with hb0 | hb0
                  · exact hb0
                  · rw [hy0] at hb0; simp at hb0
                subst hy0 hz0
                simp only [List.length_nil, Nat.add_zero, List.map_nil, List.nil_append] at *
                have hrun := run_append_zero (P := P) (w := w) (ty := o.type) (yb := yb) (yc := yc) (base := base) ht hi (Nat.le_refl 0)
                rw [← hxv, ← hyv] at hrun
                obtain ⟨r2, t2⟩ := r.newNil hk hs
                refine ⟨_, a.eval x, w, ω, _, run_call_append ho hrun, .inl rfl, r2, ?_⟩
                simp only [updL, RV, RV1, RW]
                exact ⟨i.size, [], 0, updO_same _ _ _, by simp, ⟨_, _, _, hxv⟩, fun _ => .inr ⟨by simp [setN], rfl, base, hxv⟩⟩
              · have hm : 0 < ys.length := by cases ys with
                  | nil => exact absurd rfl hy0
                  | cons _ _ => simp
                rcases hread with hread | ⟨A, news, rfl, hnr, hnl, hnat⟩
                · exact absurd hread hy0
                obtain ⟨olds, hor, hol, hrun⟩ : ∃ olds : List Value, RWlist w ω β L (rows0.map (·.map W.c)).flatten olds ∧ olds.length = rows0.length * i.size ∧
                    (Builtin.append_ #[t, t] o.type #[.slice base rows0.length rows0.length, .slice (some A) ys.length yc]).run P w = .ok (.slice (some ⟨w.heap.size, 0, none⟩) (rows0.length + ys.length) (grownCap w (rows0.length + ys.length) rows0.length e))
                      (w.drew.alloc (.cells (olds.toArray ++ news.toArray ++ Builtin.zeroCells z.cells (grownCap w (rows0.length + ys.length) rows0.length e - (rows0.length + ys.length))) e)) := by
                  rcases hold with rfl | ⟨B, olds, rfl, g1, g2, g3⟩
                  · refine ⟨[], by simp [RWlist], by simp, ?_⟩
                    simp only [List.length_nil, Nat.zero_add] at hb1' hb2' ⊢
                    cases base with
                    | none =>
                      have := run_append_nil (P := P) w t o.type e i z ht hi hz A ys.length yc news hnl hnat hm (by omega) (by omega)
                      simpa using this
                    | some b =>
                      have := run_append_grow (P := P) w t o.type e i z ht hi hz b 0 0 [] (by simp) (by simp) A ys.length yc news hnl hnat (by omega) (by omega) (growslice_fits (by omega) (by simpa using hb2'))
                      simpa using this
                  · exact ⟨olds, g1, g2, run_append_grow (P := P) w t o.type e i z ht hi hz B rows0.length rows0.length olds g2 g3 A ys.length yc news hnl hnat (by omega) (by omega) (growslice_fits (by omega) hb2')⟩
                rw [← hxv, ← hyv] at hrun
                have hge := grownCap_ge w (rows0.length + ys.length) rows0.length e
                have hcm := grownCap_le_maxLen w (rows0.length + ys.length) rows0.length e hb1'
                obtain ⟨q1, q2⟩ := grown olds rows0.length news hol hnl _ hge
                have rd : Rel C.gl N w0 ω0 S E L a w.drew ω β := r.heapEq rfl rfl rfl rfl
                have hlen : (rows0.map (·.map W.c) ++ ys).length = rows0.length + ys.length := by simp
                obtain ⟨ω', β', r2, h3⟩ := rd.newArr (rows := rows0.map (·.map W.c) ++ ys) (cap := grownCap w (rows0.length + ys.length) rows0.length e) hk hs (by
                    intro r hr
                    rw [List.mem_append] at hr
                    rcases hr with hr | hr
                    · exact hr0' r hr
                    · exact hrows r hr) (cs := olds.toArray ++ news.toArray ++ Builtin.zeroCells z.cells (grownCap w (rows0.length + ys.length) rows0.length e - (rows0.length + ys.length))) e q1 (by rw [hlen]; exact hge) hcm (by
                    rw [hlen, q2, List.flatten_append]
                    exact (hor.append hnr).drew)
                rw [hlen] at h3
                exact ⟨_, _, _, ω', β', run_call_append ho hrun, .inl rfl, r2, h3⟩

end
end Go.Vs
