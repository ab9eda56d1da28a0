/- The value semantics, 12: stores, make, append. -/
import Derived.Test.YtogldkeabdgjgaaVs11
namespace Go.Vs
open Go

section
variable {P : Program} {C : Ctx} {N : Nat} {w0 : World} {ω0 : Nat → Nat} {S : Fr} {E : Nat → Option V} {L : Nat → Option Obj} {a : Act} {w : World} {ω : Nat → Nat} {β : Nat → Option Nat}
variable {o : Oper} {v : V}

theorem take_drop_mid {α : Type} (A B : List α) (q n : Nat) (us : List α) (h : q + n ≤ A.length) :
    (A ++ B).take q ++ us ++ (A ++ B).drop (q + n) = (A.take q ++ us ++ A.drop (q + n)) ++ B := by
  rw [List.take_append_of_le_length (by omega), List.drop_append_of_le_length h]
  simp [List.append_assoc]

theorem setRow_flat {s : Nat} {off : Nat} {ys cs : List W} {us : List Value} (hy : RWlist w ω β L ys us) : ∀ {rows : List (List W)} {vs : List Value} {i : Nat} {row : List W}, (∀ r ∈ rows, r.length = s) → rows[i]? = some row → splice row off ys = some cs →
    RWlist w ω β L rows.flatten vs → RWlist w ω β L (setRow rows i cs).flatten (vs.take (i * s + off) ++ us ++ vs.drop (i * s + off + us.length)) ∧ i * s + off + us.length ≤ vs.length ∧ (∀ r ∈ setRow rows i cs, r.length = s) ∧ (setRow rows i cs).length = rows.length
  | [], _, _, _, _, h, _, _ => by simp at h
  | r :: rs, vs, i, row, hs, hi, hc, h => by
    have hr : r.length = s := hs r (by simp)
    have hrs : ∀ x ∈ rs, x.length = s := fun x hx => hs x (by simp [hx])
    have h1 := h.take s
    have h2 := h.drop s
    simp only [List.flatten_cons, ← hr, List.take_left'] at h1
    simp only [List.flatten_cons, ← hr, List.drop_left'] at h2
    rw [hr] at h1 h2
    have hvl : s ≤ vs.length := by
      have := h.length
      simp only [List.flatten_cons, List.length_append] at this
      omega
    have hA : (vs.take s).length = s := by simp [hvl]
    have hv : vs = vs.take s ++ vs.drop s := (List.take_append_drop s vs).symm
    cases i with
    | zero =>
      simp at hi
      subst hi
      obtain ⟨g1, g2, g3⟩ := h1.splice hy hc
      simp only [Nat.zero_mul, Nat.zero_add, setRow, List.flatten_cons]
      refine ⟨?_, by omega, ?_, by simp⟩
      · have e := take_drop_mid (vs.take s) (vs.drop s) off us.length us g2
        rw [← hv] at e
        rw [e]
        exact g1.append h2
      · intro x hx
        simp only [List.mem_cons] at hx
        rcases hx with rfl | hx
        · omega
        · exact hrs x hx
    | succ i =>
      obtain ⟨g1, g2, g3, g4⟩ := setRow_flat hy hrs (by simpa using hi) hc h2
      have e : (i + 1) * s + off = s + (i * s + off) := by rw [Nat.add_mul]; omega
      simp only [setRow, List.flatten_cons]
      rw [e]
      simp only [List.length_drop] at g2
      refine ⟨?_, by omega, ?_, by simp [g4]⟩
      · have h3 := h1.append g1
        have e2 : vs.take s ++ ((vs.drop s).take (i * s + off) ++ us ++ (vs.drop s).drop (i * s + off + us.length)) = vs.take (s + (i * s + off)) ++ us ++ vs.drop (s + (i * s + off) + us.length) := by
          have t1 : vs.take (s + (i * s + off)) = vs.take s ++ (vs.drop s).take (i * s + off) := by rw [List.take_add]
          have t2 : vs.drop (s + (i * s + off) + us.length) = (vs.drop s).drop (i * s + off + us.length) := by rw [List.drop_drop]; congr 1; omega
          rw [t1, t2]
          simp only [List.append_assoc]
        rw [e2] at h3
        exact h3
      · intro x hx
        simp only [List.mem_cons] at hx
        rcases hx with rfl | hx
        · exact hr
        · exact g3 x hx

theorem storeVar_run {t : TypeId} {i : TypeInfo} {b off : Nat} {z : Value} {cur : Array Value} {ty : TypeId} (hi : P.info? t = some i) (hz : z.cells.size = i.size) (hg : w.heap[b]? = some (.cells cur ty (0, 0)))
    (hfit : off + z.cells.size ≤ cur.size) (h1 : ∀ v ∈ z.cells.toList, v.oneCell' = true) :
    (storeVar t ⟨b, off, none⟩ z).run P w = .ok () (w.setRow b (cur.toList.take off ++ z.cells.toList ++ cur.toList.drop (off + z.cells.toList.length)).toArray) := by
  unfold storeVar
  have hst := run_storeCells_at P b off ty z.cells.toList 0 cur w hg (by simpa using hfit) h1
  simp only [Nat.add_zero] at hst
  simp only [Sem.run_bind, run_sizeOf' hi, Result.andThen_ok, hz, ne_eq, not_true_eq_false, if_false, hst]

theorem makes_store (r : Rel C.gl N w0 ω0 S E L a w ω β) {t : TypeId} {i : TypeInfo} {x y : Operand} {x' y' : Opd} {own : List (Nat × Nat)} {oid : Nat} (ho : o.op = .store t x y) (hx : mOpd x x' = true) (hy : mOpd y y' = true)
    (hi : P.info? t = some i) (hpos : ∀ p ∈ own, 0 < p.2) {u : Upd} (h : exec1 C E L oid (.store i.size x' y' own) = some (v, u)) : Makes P C.gl N w0 ω0 S E L o a w v u := by
  have h1 := mOpd_ok r hx
  have h2 := mOpd_ok r hy
  simp only [exec1] at h
  split at h
  · cases h
  · rename_i hne
    have hne' : ∀ l, y'.val C E ≠ .tu l := fun l e => hne l e
    cases hb : ((y'.val C E).cells.length == i.size && (y'.val C E).cells.all notUn && (ownW oid own 0 (y'.val C E).cells).2.all (fun u => (L u.1).isNone)) with
    | false => rw [hb] at h; simp at h
    | true =>
      rw [hb] at h
      simp only [cond_true] at h
      simp only [Bool.and_eq_true, beq_iff_eq] at hb
      obtain ⟨⟨hlen, hnu⟩, hfr⟩ := hb
      have hfree : ∀ x ∈ (ownW oid own 0 (y'.val C E).cells).2, L x.1 = none := by
        intro x hx
        have := List.all_eq_true.1 hfr x hx
        simpa using this
      have hc := h2.cells hne' hnu
      have hone := hc.oneCells hnu
      have hsz : (a.eval y).cells.size = i.size := by
        have := hc.length
        simp only [Array.length_toList] at this
        omega
      obtain ⟨β1, r1, hr1, t1, g1⟩ := own_ok hpos _ 0 L β _ r hc hfree
      generalize hW : ownW oid own 0 (y'.val C E).cells = Y at h hfree r1 hr1 t1 g1
      have keep : ∀ k, L k ≠ none → updL L Y.2 k = L k := fun k hk => updL_free (fun x hx e => hk (e ▸ hfree x hx))
      have h1' := RV.step (Grows.refl w ω) t1 h1
      have run : ∀ b off cur ty, a.eval x = .pointer (some ⟨b, off, none⟩) → w.heap[b]? = some (.cells cur ty (0, 0)) → off + (a.eval y).cells.toList.length ≤ cur.size →
          (execOp a.eval o).run P w = .ok .skip (w.setRow b (cur.toList.take off ++ (a.eval y).cells.toList ++ cur.toList.drop (off + (a.eval y).cells.toList.length)).toArray) := by
        intro b off cur ty he hg hfit
        have := storeVar_run (P := P) (z := a.eval y) hi hsz hg (by simpa using hfit) hone
        simp only [execOp, ho, Instr.storeAt, Sem.run_bind, he, sureAddr_run, Result.andThen_ok, this, Sem.run_pure]
      split at h
      · rename_i k off hv
        rw [hv] at h1 h1'
        split at h
        · rename_i cells hL
          have hL1 : updL L Y.2 k = some (.box cells) := (keep k (by simp [hL])).trans hL
          cases hs : splice cells off Y.1 with
          | none => simp [hs] at h
          | some cs =>
            simp only [hs, Option.map_some, Option.some.injEq, Prod.mk.injEq] at h
            obtain ⟨rfl, rfl⟩ := h
            obtain ⟨b, cur, ty, e1, e2, e3, e4⟩ := r1.obj k _ hL1
            simp only [RV, RV1, RW] at h1'
            obtain ⟨_, b', _, e5, e6⟩ := h1'
            rw [e1] at e5
            cases e5
            obtain ⟨e7, e8, e9⟩ := e3.splice hr1 hs
            have hrun := run b off cur ty e6 e2 (by simpa using e8)
            obtain ⟨r2, t2⟩ := r1.write (o' := .box cs) hL1 e1 cur (cur.toList.take off ++ (a.eval y).cells.toList ++ cur.toList.drop (off + (a.eval y).cells.toList.length)).toArray ty e2
              (by simp only [List.size_toArray, List.length_append, List.length_take, List.length_drop, Array.length_toList] at e8 ⊢; omega) 0 (by omega) (by intro q hq; omega) e9
              (fun tr hh => ⟨b, _, ty, e1, hh, by simpa using RWlist.step (w' := w.setRow b _) (ω' := setN ω b 0) ⟨fun b' q hq v hv => by
                by_cases hb' : b' = b
                · subst hb'; omega
                · exact ⟨by rw [at?_setRow_other w b b' q _ hb']; exact hv, by simp [setN, hb']; exact hq⟩⟩ tr cs e7, by simp [setN]⟩)
            exact ⟨_, undef, _, _, _, hrun, .inr ⟨rfl, rfl⟩, by rw [updL_append]; exact r2, by simp [RV, RV1, RW]⟩
        · cases h
      · rename_i k M j off hv
        rw [hv] at h1 h1'
        split at h
        · rename_i s rows p hL
          have hL1 : updL L Y.2 k = some (.arr s rows p) := (keep k (by simp [hL])).trans hL
          cases hb : (rows.length == M && Nat.ble p j) with
          | false => simp [hb] at h
          | true =>
            simp only [hb, cond_true] at h
            simp only [Bool.and_eq_true, beq_iff_eq] at hb
            obtain ⟨hM, hpj⟩ := hb
            have hpj := Nat.le_of_ble_eq_true hpj
            cases hrow : rows[j]? with
            | none => simp [hrow] at h
            | some row =>
              simp only [hrow] at h
              have hj : j < rows.length := (List.getElem?_eq_some_iff.1 hrow).1
              cases hs : splice row off Y.1 with
              | none => simp [hs] at h
              | some cs =>
                simp only [hs, Option.map_some, Option.some.injEq, Prod.mk.injEq] at h
                obtain ⟨rfl, rfl⟩ := h
                obtain ⟨f1, f2, f3, f4⟩ := r1.obj k _ hL1
                simp only [RV, RV1, RW] at h1'
                obtain ⟨s', rows', p', e1, e2, _, e3⟩ := h1'
                rw [hL1] at e1
                cases e1
                obtain ⟨b, e4, e5⟩ := e3 hM.symm (by omega)
                rcases f4 with ⟨b', cap, cur, ty, g2, g3, g4, g5, g6, g7, g8⟩ | ⟨g2, _⟩
                · rw [e4] at g2
                  cases g2
                  obtain ⟨k1, k2, k3, k4⟩ := setRow_flat hr1 f2 hrow hs g7
                  have hrs : rows.length * s ≤ cur.size := by rw [g4]; exact Nat.mul_le_mul_right _ g5
                  have hfit : j * s + off + (a.eval y).cells.toList.length ≤ cur.size := by
                    simp only [List.length_take, Array.length_toList] at k2 ⊢; omega
                  have hlow : p * s ≤ j * s + off := by
                    have := Nat.mul_le_mul_right s hpj; omega
                  have hrun := run b (j * s + off) cur ty e5 g3 hfit
                  have hpub : ∀ q, q < ω b → (cur.toList.take (j * s + off) ++ (a.eval y).cells.toList ++ cur.toList.drop (j * s + off + (a.eval y).cells.toList.length)).toArray[q]? = cur[q]? := by
                    intro q hq
                    rw [g8] at hq
                    have hlt : q < (cur.toList.take (j * s + off)).length := by
                      simp only [List.length_take, Array.length_toList] at hfit ⊢; omega
                    rw [List.getElem?_toArray, List.append_assoc, List.getElem?_append_left hlt, List.getElem?_take]
                    rw [if_pos (by omega), Array.getElem?_toList]
                  obtain ⟨r2, t2⟩ := r1.write (o' := .arr s (setRow rows j cs) p) hL1 e4 cur (cur.toList.take (j * s + off) ++ (a.eval y).cells.toList ++ cur.toList.drop (j * s + off + (a.eval y).cells.toList.length)).toArray ty g3
                    (by simp only [List.size_toArray, List.length_append, List.length_take, List.length_drop, Array.length_toList] at hfit ⊢; omega) (p * s) (by omega) hpub ⟨rfl, by omega⟩
                    (fun tr hh => by
                      refine ⟨f1, k3, by omega, .inl ⟨b, cap, _, ty, e4, hh, ?_, by omega, g6, ?_, by simp [setN]⟩⟩
                      · simp only [List.size_toArray, List.length_append, List.length_take, List.length_drop, Array.length_toList] at hfit ⊢; omega
                      · have hst := RWlist.step (w' := w.setRow b (cur.toList.take (j * s + off) ++ (a.eval y).cells.toList ++ cur.toList.drop (j * s + off + (a.eval y).cells.toList.length)).toArray) (ω' := setN ω b (p * s)) ⟨fun b' q hq v hv => by
                          by_cases hb' : b' = b
                          · subst hb'
                            have hh2 := setRow_heap w b' cur (cur.toList.take (j * s + off) ++ (a.eval y).cells.toList ++ cur.toList.drop (j * s + off + (a.eval y).cells.toList.length)).toArray ty (0, 0) g3
                            exact ⟨by rw [at?_block hh2, hpub q hq, ← at?_block g3]; exact hv, by simp only [setN, if_true]; omega⟩
                          · exact ⟨by rw [at?_setRow_other w b b' q _ hb']; exact hv, by simp [setN, hb']; exact hq⟩⟩ tr _ k1
                        rw [k4]
                        have e : (cur.toList.take (j * s + off) ++ (a.eval y).cells.toList ++ cur.toList.drop (j * s + off + (a.eval y).cells.toList.length)).toArray.toList.take (rows.length * s) =
                            (cur.toList.take (rows.length * s)).take (j * s + off) ++ (a.eval y).cells.toList ++ (cur.toList.take (rows.length * s)).drop (j * s + off + (a.eval y).cells.toList.length) := by
                          have hcur : cur.toList = cur.toList.take (rows.length * s) ++ cur.toList.drop (rows.length * s) := (List.take_append_drop _ _).symm
                          have hk2 := k2
                          generalize hA : cur.toList.take (rows.length * s) = A at hcur hk2 ⊢
                          generalize cur.toList.drop (rows.length * s) = B at hcur
                          rw [hcur, take_drop_mid _ _ _ _ _ hk2]
                          have hAl : A.length = rows.length * s := by rw [← hA]; simp [hrs]
                          have hl : (A.take (j * s + off) ++ (a.eval y).cells.toList ++ A.drop (j * s + off + (a.eval y).cells.toList.length)).length = rows.length * s := by
                            simp only [List.length_append, List.length_take, List.length_drop]; omega
                          rw [← hl, List.take_left']
                          rfl
                        rw [e]
                        exact hst)
                  exact ⟨_, undef, _, _, _, hrun, .inr ⟨rfl, rfl⟩, by rw [updL_append]; exact r2, by simp [RV, RV1, RW]⟩
                · rw [e4] at g2; cases g2
        · cases h
      · cases h

end
end Go.Vs
