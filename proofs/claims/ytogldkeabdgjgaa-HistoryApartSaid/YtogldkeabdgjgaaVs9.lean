/- The value semantics, 9: elements and parts of slices, loads, struct values, closures. -/
import Derived.Test.YtogldkeabdgjgaaVs8
namespace Go.Vs
open Go

theorem rowCells {w : World} {ω : Nat → Nat} {β : Nat → Option Nat} {L : Nat → Option Obj} {s : Nat} : ∀ {rows : List (List W)} {vs : List Value} {j : Nat} {row : List W}, (∀ r ∈ rows, r.length = s) → rows[j]? = some row →
    RWlist w ω β L rows.flatten vs → RWlist w ω β L row ((vs.drop (j * s)).take s)
  | [], _, _, _, _, h, _ => by simp at h
  | r :: rs, vs, j, row, hs, hj, h => by
    have hr : r.length = s := hs r (by simp)
    cases j with
    | zero =>
      simp at hj
      subst hj
      have := h.take s
      simp only [List.flatten_cons, ← hr, List.take_left'] at this
      simpa [hr] using this
    | succ j =>
      have h2 := h.drop s
      simp only [List.flatten_cons, ← hr, List.drop_left'] at h2
      have := rowCells (fun r hr => hs r (by simp [hr])) (by simpa using hj) h2
      rw [hr] at this
      rw [List.drop_drop] at this
      rw [show (j + 1) * s = s + j * s from by rw [Nat.add_mul]; omega]
      exact this

section
variable {P : Program} {C : Ctx} {N : Nat} {w0 : World} {ω0 : Nat → Nat} {S : Fr} {E : Nat → Option V} {L : Nat → Option Obj} {a : Act} {w : World} {ω : Nat → Nat} {β : Nat → Option Nat}
variable {o : Oper} {v : V}

theorem indexAt_run {t e : TypeId} {i : TypeInfo} {b off len cap j : Nat} {k : IntKind} (ht : P.underlying t = some (.slice e)) (hi : P.info? e = some i) (hj : j < len) :
    (Instr.indexAt t (.slice (some ⟨b, off, none⟩) len cap) (.int k j)).run P w = .ok (.pointer (some ⟨b, off + j * i.size, none⟩)) w := by
  have h5 : (0 : Int) ≤ (j : Int) ∧ (j : Int) < (len : Int) := ⟨by omega, by omega⟩
  unfold Instr.indexAt
  simp only [Sem.run_bind, run_underlying ht, Result.andThen_ok, asIntOf, Sem.run_pure, h5, and_self, if_true, run_sizeOf' hi, addr_add, Int.toNat_natCast]

theorem gives_idxA (r : Rel C.gl N w0 ω0 S E L a w ω β) {x y : Operand} {x' y' : Opd} {t e : TypeId} {i : TypeInfo} (ho : o.op = .indexAddr t x y) (hx : mOpd x x' = true) (hy : mOpd y y' = true)
    (ht : P.underlying t = some (.slice e)) (hi : P.info? e = some i) {u : Upd}
    (h : exec1 C E L 0 (.idxA i.size x' y') = some (v, u)) : u = [] ∧ Gives P o a w ω β L v := by
  have h1 := mOpd_ok r hx
  have h2 := mOpd_ok r hy
  have pub : ∀ rows : List (List Cell), RD w ω (.sl rows) (a.eval x) → ∀ j row, natBelow (y'.val C E) rows.length = some j → rows[j]? = some row → row.length = i.size → Gives P o a w ω β L (.sc (.c (.ro row 0))) := by
    intro rows hr j row hj hrow hlen
    obtain ⟨k, h3, h4⟩ := natBelow_ok hj h2
    simp only [RD] at hr
    obtain ⟨base, cap, h5, h6, h7, h8⟩ := hr
    rcases h8 with h8 | ⟨b, off, s, rfl, h9, h10⟩
    · subst h8; simp at hrow
    · obtain ⟨h11, h12⟩ := h10.get hrow
      have hs : s = i.size := by omega
      subst hs
      refine ⟨.pointer (some ⟨b, off + j * i.size, none⟩), ?_, ?_⟩
      · simp only [execOp, ho, h5, h3, Sem.run_bind, indexAt_run ht hi h4, Result.andThen_ok, Sem.run_pure]
      · simp only [RV, RV1, RW, RD]
        exact ⟨b, _, rfl, h12⟩
  simp only [exec1] at h
  split at h
  · rename_i rows hv
    rw [hv] at h1
    cases hj : natBelow (y'.val C E) rows.length with
    | none => simp [hj] at h
    | some j =>
      simp only [hj] at h
      cases hrow : rows[j]? with
      | none => simp [hrow] at h
      | some row =>
        simp only [hrow] at h
        cases hl : (row.length == i.size) with
        | false => simp [hl] at h
        | true =>
          simp only [hl, cond_true, Option.some.injEq, Prod.mk.injEq] at h
          obtain ⟨rfl, rfl⟩ := h
          exact ⟨rfl, pub rows (by simpa only [RV, RV1, RW] using h1) j row hj hrow (by simpa using hl)⟩
  · rename_i rows hv
    rw [hv] at h1
    cases hj : natBelow (y'.val C E) rows.length with
    | none => simp [hj] at h
    | some j =>
      simp only [hj] at h
      cases hrow : rows[j]? with
      | none => simp [hrow] at h
      | some row =>
        simp only [hrow] at h
        cases hl : (row.length == i.size) with
        | false => simp [hl] at h
        | true =>
          simp only [hl, cond_true, Option.some.injEq, Prod.mk.injEq] at h
          obtain ⟨rfl, rfl⟩ := h
          exact ⟨rfl, pub rows (by simp only [RV, RV1, RW] at h1; exact h1.1) j row hj hrow (by simpa using hl)⟩
  · rename_i k n hv
    rw [hv] at h1
    split at h
    · rename_i s rows p hL
      cases hb : (rows.length == n && s == i.size) with
      | false => simp [hb] at h
      | true =>
        simp only [hb, cond_true] at h
        simp only [Bool.and_eq_true, beq_iff_eq] at hb
        obtain ⟨hn, rfl⟩ := hb
        cases hj : natBelow (y'.val C E) n with
        | none => simp [hj] at h
        | some j =>
          simp only [hj, Option.map_some, Option.some.injEq, Prod.mk.injEq] at h
          obtain ⟨rfl, rfl⟩ := h
          refine ⟨rfl, ?_⟩
          obtain ⟨kk, h3, h4⟩ := natBelow_ok hj h2
          simp only [RV, RV1, RW] at h1
          obtain ⟨s', rows', p', h5, h6, _, h7⟩ := h1
          rw [hL] at h5
          cases h5
          rcases h7 hn.symm with ⟨b, cap, cur, t', h8, h9, h10, h11⟩ | ⟨_, h9, _⟩
          · refine ⟨.pointer (some ⟨b, 0 + j * i.size, none⟩), ?_, ?_⟩
            · simp only [execOp, ho, h9, h3, Sem.run_bind, indexAt_run ht hi h4, Result.andThen_ok, Sem.run_pure]
            · simp only [RV, RV1, RW]
              exact ⟨i.size, rows, p, hL, h6, ⟨_, rfl⟩, fun _ _ => ⟨b, h8, by simp⟩⟩
          · omega
    · cases h
  · rename_i k M lo n hv
    rw [hv] at h1
    split at h
    · rename_i s rows p hL
      cases hb : (rows.length == M && Nat.ble (lo + n) M && s == i.size) with
      | false => simp [hb] at h
      | true =>
        simp only [hb, cond_true] at h
        simp only [Bool.and_eq_true, beq_iff_eq] at hb
        obtain ⟨⟨hn, hle⟩, rfl⟩ := hb
        have hle := Nat.le_of_ble_eq_true hle
        cases hj : natBelow (y'.val C E) n with
        | none => simp [hj] at h
        | some j =>
          simp only [hj, Option.map_some, Option.some.injEq, Prod.mk.injEq] at h
          obtain ⟨rfl, rfl⟩ := h
          refine ⟨rfl, ?_⟩
          obtain ⟨kk, h3, h4⟩ := natBelow_ok hj h2
          simp only [RV, RV1, RW] at h1
          obtain ⟨s', rows', p', h5, h6, _, h7⟩ := h1
          rw [hL] at h5
          cases h5
          rcases h7 hn.symm hle with ⟨h8, _⟩ | ⟨b, cap, cur, t', h8, h9, h10, h11, h12⟩
          · omega
          · refine ⟨.pointer (some ⟨b, lo * i.size + j * i.size, none⟩), ?_, ?_⟩
            · simp only [execOp, ho, h9, h3, Sem.run_bind, indexAt_run ht hi h4, Result.andThen_ok, Sem.run_pure]
            · simp only [RV, RV1, RW]
              exact ⟨i.size, rows, p, hL, h6, ⟨_, rfl⟩, fun _ _ => ⟨b, h8, by rw [Nat.add_mul]; simp⟩⟩
    · cases h
  · cases h

/-- The model's slice of a slice. -/
theorem sliceAt_run {t e : TypeId} {i : TypeInfo} {base : Option Addr} {len cap : Nat} {lo hi mx : Option Value} {l h m : Nat} (ht : P.underlying t = some (.slice e)) (hi' : P.info? e = some i)
    (hb : (Instr.sliceBounds true len cap lo hi mx).run P w = .ok (l, h, m) w) :
    (Instr.sliceAt t (.slice base len cap) lo hi mx).run P w = .ok (.slice (if m = l then base else base.map (·.add (l * i.size))) (h - l) (m - l)) w := by
  simp only [Instr.sliceAt, Instr.slice, Sem.run_bind, run_underlying ht, Result.andThen_ok, hb, run_sizeOf' hi', Sem.run_pure]

theorem rowsFit_ok {rows : List (List Cell)} {s s' b off : Nat} (h : rowsFit s rows = true) (hr : RDrows w ω b s' off rows) (hne : rows ≠ []) : s' = s := by
  cases rows with
  | nil => exact absurd rfl hne
  | cons r rs =>
    simp only [rowsFit, beq_iff_eq] at h
    simp only [RDrows] at hr
    omega

/-- What a part of a published slice is. -/
theorem RD.part {rows : List (List Cell)} {s : Nat} {base : Option Addr} {len cap l h m : Nat} (hr : RD w ω (.sl rows) (.slice base len cap)) (hf : rowsFit s rows = true) (hl : l ≤ h) (hh : h ≤ rows.length) (hm : h ≤ m) (hmc : m ≤ cap) :
    RD w ω (.sl ((rows.take h).drop l)) (.slice (if m = l then base else base.map (·.add (l * s))) (h - l) (m - l)) := by
  simp only [RD] at hr ⊢
  obtain ⟨base', cap', h1, h2, h3, h4⟩ := hr
  simp only [Value.slice.injEq] at h1
  obtain ⟨rfl, rfl, rfl⟩ := h1
  have hlen : ((rows.take h).drop l).length = h - l := by simp; omega
  refine ⟨_, m - l, by rw [hlen], by rw [hlen]; omega, by omega, ?_⟩
  by_cases hz : h = l
  · left; subst hz; simp
  · rcases h4 with h4 | ⟨b, off, s', rfl, h5, h6⟩
    · subst h4; left; simp
    · right
      have hne : rows ≠ [] := by intro e; subst e; simp at hh; omega
      have := rowsFit_ok hf h6 hne
      subst this
      refine ⟨b, off + l * s', s', ?_, h5, (h6.take h).drop l⟩
      rw [if_neg (by omega)]
      simp [addr_add]

theorem gives_sl (r : Rel C.gl N w0 ω0 S E L a w ω β) {x : Operand} {x' : Opd} {t e : TypeId} {i : TypeInfo} {lo hi mx : Option Operand} {lo' hi' mx' : Option Opd} (ho : o.op = .slice t x lo hi mx) (hx : mOpd x x' = true)
    (hlo : mOpt lo lo' = true) (hhi : mOpt hi hi' = true) (hmx : mOpt mx mx' = true) (hno : mx.isSome = true → hi.isSome = true)
    (ht : P.underlying t = some (.slice e)) (hi0 : P.info? e = some i) {u : Upd}
    (h : exec1 C E L 0 (.sl i.size x' lo' hi' mx') = some (v, u)) : u = [] ∧ Gives P o a w ω β L v := by
  have h1 := mOpd_ok r hx
  have hno' : (mx.map a.eval).isSome = true → (hi.map a.eval).isSome = true := by simpa using hno
  have run : ∀ base len cap l h m, a.eval x = .slice base len cap → (Instr.sliceBounds true len cap (lo.map a.eval) (hi.map a.eval) (mx.map a.eval)).run P w = .ok (l, h, m) w →
      (execOp a.eval o).run P w = .ok (.value (.slice (if m = l then base else base.map (·.add (l * i.size))) (h - l) (m - l))) w := by
    intro base len cap l h m he hb
    simp only [execOp, ho, he, Sem.run_bind, sliceAt_run ht hi0 hb, Result.andThen_ok, Sem.run_pure]
  have pub : ∀ rows : List (List Cell), RD w ω (.sl rows) (a.eval x) → ∀ m h l, boundOr (mx'.map (·.val C E)) rows.length rows.length = some m → boundOr (hi'.map (·.val C E)) rows.length m = some h → boundOr (lo'.map (·.val C E)) 0 h = some l →
      rowsFit i.size rows = true → ∃ vv, (execOp a.eval o).run P w = .ok (.value vv) w ∧ RD w ω (.sl ((rows.take h).drop l)) vv ∧
        ((mx'.isSome = true ∨ ∃ base, a.eval x = .slice base rows.length rows.length) → m = h → ∃ base n, vv = .slice base n n) := by
    intro rows hr m h l hm hh hl hf
    obtain ⟨b1, b2⟩ := boundOr_ok r hmx hm
    obtain ⟨b3, b4⟩ := boundOr_ok r hhi hh
    obtain ⟨b5, b6⟩ := boundOr_ok r hlo hl
    have hr' := hr
    simp only [RD] at hr'
    obtain ⟨base, cap, h5, h6, h7, _⟩ := hr'
    rcases b1 with ⟨e1, e2⟩ | ⟨k1, e1, e2⟩
    · have hb := sliceBounds_run (P := P) (w := w) (isS := true) (len := rows.length) (cap := cap) (l := l) (h := h) (m := cap) (.inl ⟨e1, rfl⟩) (Nat.le_refl _) b3 (by omega) b5 (Nat.le_refl _) hno'
      refine ⟨_, run _ _ _ _ _ _ h5 hb, ?_, ?_⟩
      · rw [h5] at hr
        exact hr.part hf b6 (by omega) (by omega) (Nat.le_refl _)
      · rintro (hs | ⟨base', hs⟩) hmh
        · cases mx with
          | none => cases mx' with
            | none => simp at hs
            | some _ => simp [mOpt] at hmx
          | some _ => simp at e1
        · rw [h5] at hs
          cases hs
          subst hmh
          exact ⟨_, _, by rw [e2]⟩
    · have hb := sliceBounds_run (P := P) (w := w) (isS := true) (len := rows.length) (cap := cap) (l := l) (h := h) (m := m) (.inr ⟨k1, e1, e2⟩) (by omega) b3 (Nat.le_refl _) b5 (Nat.le_refl _) hno'
      refine ⟨_, run _ _ _ _ _ _ h5 hb, ?_, ?_⟩
      · rw [h5] at hr
        exact hr.part hf b6 (by omega) b4 (by omega)
      · intro _ hmh
        subst hmh
        exact ⟨_, _, rfl⟩
  simp only [exec1] at h
  unfold slice1 at h
  split at h
  · rename_i hv
    rw [hv] at h1
    simp only [RV, RV1, RW] at h1
    split at h
    · rename_i m hh l hm hhh hl
      simp only [Option.some.injEq, Prod.mk.injEq] at h
      obtain ⟨rfl, rfl⟩ := h
      obtain ⟨b1, b2⟩ := boundOr_ok r hmx hm
      obtain ⟨b3, b4⟩ := boundOr_ok r hhi hhh
      obtain ⟨b5, b6⟩ := boundOr_ok r hlo hl
      have em : m = 0 := by omega
      have eh : hh = 0 := by omega
      have el : l = 0 := by omega
      subst em eh el
      have hb := sliceBounds_run (P := P) (w := w) (isS := true) (len := 0) (cap := 0) (l := 0) (h := 0) (m := 0) b1 (Nat.le_refl _) b3 (Nat.le_refl _) b5 (Nat.le_refl _) hno'
      exact ⟨rfl, _, run _ _ _ _ _ _ h1 hb, by simp [RV, RV1, RW]⟩
    · cases h
  · rename_i rows hv
    rw [hv] at h1
    simp only [RV, RV1, RW] at h1
    split at h
    · cases h
    · rename_i m hm
      split at h
      · cases h
      · rename_i hh hhh
        split at h
        · cases h
        · rename_i l hl
          cases hf : rowsFit i.size rows with
          | false => simp [hf] at h
          | true =>
            simp only [hf, cond_true] at h
            obtain ⟨vv, h2, h3, h4⟩ := pub rows h1 m hh l hm hhh hl hf
            cases hq : ((mx'.map (·.val C E)).isSome && m == hh) with
            | false =>
              simp only [hq, cond_false, Option.some.injEq, Prod.mk.injEq] at h
              obtain ⟨rfl, rfl⟩ := h
              exact ⟨rfl, vv, h2, h3⟩
            | true =>
              simp only [hq, cond_true, Option.some.injEq, Prod.mk.injEq] at h
              obtain ⟨rfl, rfl⟩ := h
              simp only [Bool.and_eq_true, Option.isSome_map, beq_iff_eq] at hq
              exact ⟨rfl, vv, h2, by simp only [RV, RV1, RW]; exact ⟨h3, h4 (.inl hq.1) hq.2⟩⟩
  · rename_i rows hv
    rw [hv] at h1
    simp only [RV, RV1, RW] at h1
    obtain ⟨h1, base, n, hfull⟩ := h1
    split at h
    · cases h
    · rename_i m hm
      split at h
      · cases h
      · rename_i hh hhh
        split at h
        · cases h
        · rename_i l hl
          cases hf : rowsFit i.size rows with
          | false => simp [hf] at h
          | true =>
            simp only [hf, cond_true] at h
            obtain ⟨vv, h2, h3, h4⟩ := pub rows h1 m hh l hm hhh hl hf
            cases hq : (m == hh) with
            | false =>
              simp only [hq, cond_false, Option.some.injEq, Prod.mk.injEq] at h
              obtain ⟨rfl, rfl⟩ := h
              exact ⟨rfl, vv, h2, h3⟩
            | true =>
              simp only [hq, cond_true, Option.some.injEq, Prod.mk.injEq] at h
              obtain ⟨rfl, rfl⟩ := h
              have hn : n = rows.length := by
                simp only [RD] at h1
                obtain ⟨_, _, h5, _⟩ := h1
                rw [hfull] at h5
                cases h5
                rfl
              subst hn
              exact ⟨rfl, vv, h2, by simp only [RV, RV1, RW]; exact ⟨h3, h4 (.inr ⟨base, hfull⟩) (by simpa using hq)⟩⟩
  · rename_i k n hv
    rw [hv] at h1
    split at h
    · rename_i s rows p hL
      split at h
      · cases h
      · rename_i hh hhh
        split at h
        · cases h
        · rename_i l hl
          cases hb : (rows.length == n && s == i.size) with
          | false => simp [hb] at h
          | true =>
            simp only [hb, cond_true] at h
            simp only [Bool.and_eq_true, beq_iff_eq] at hb
            obtain ⟨hn, rfl⟩ := hb
            obtain ⟨b3, b4⟩ := boundOr_ok r hhi hhh
            obtain ⟨b5, b6⟩ := boundOr_ok r hlo hl
            simp only [RV, RV1, RW] at h1
            obtain ⟨s', rows', p', h5, h6, _, h7⟩ := h1
            rw [hL] at h5
            cases h5
            have hobj := r.obj k _ hL
            obtain ⟨hs0, _, _, hok⟩ := hobj
            cases hmm : mx' with
            | none =>
              have hmx0 : mx = none := by cases mx with
                | none => rfl
                | some _ => simp [hmm, mOpt] at hmx
              simp only [hmm, Option.map_none, Option.some.injEq, Prod.mk.injEq] at h
              obtain ⟨rfl, rfl⟩ := h
              refine ⟨rfl, ?_⟩
              rcases h7 hn.symm with ⟨b, cap, cur, t', h8, h9, h10, h11⟩ | ⟨h8, h9, base, h10⟩
              · obtain ⟨hcap1, hcap2⟩ : rows.length ≤ cap ∧ cap ≤ maxRows := by
                  rcases hok with ⟨b', cap', cur', t'', g1, g2, g3, g4, g5, _⟩ | ⟨g1, _⟩
                  · rw [h8] at g1
                    cases g1
                    rw [h10] at g2
                    cases g2
                    have : cap = cap' := Nat.eq_of_mul_eq_mul_right hs0 (h11.symm.trans g3)
                    subst this
                    exact ⟨g4, g5⟩
                  · rw [h8] at g1; cases g1
                have hb := sliceBounds_run (P := P) (w := w) (isS := true) (len := n) (cap := cap) (l := l) (h := hh) (m := cap) (mx := mx.map a.eval) (.inl ⟨by simp [hmx0], rfl⟩) (Nat.le_refl _) b3 (by omega) b5 (Nat.le_refl _) hno'
                refine ⟨_, run _ _ _ _ _ _ h9 hb, ?_⟩
                simp only [RV, RV1, RW]
                refine ⟨i.size, rows, p, hL, by omega, ⟨_, _, _, rfl⟩, fun _ _ => ?_⟩
                by_cases hz : hh = l
                · left; exact ⟨by omega, _, cap - l, by rw [show hh - l = 0 from by omega], by omega⟩
                · right
                  refine ⟨b, cap - l, cur, t', h8, ?_, by omega, by omega, h10, ?_⟩
                  · rw [if_neg (by omega)]
                    simp [addr_add]
                  · rw [h11, show l + (cap - l) = cap from by omega]
                    exact Nat.le_refl _
              · subst h9
                have el : l = 0 := by omega
                have eh : hh = 0 := by omega
                subst el eh
                have hb := sliceBounds_run (P := P) (w := w) (isS := true) (len := 0) (cap := 0) (l := 0) (h := 0) (m := 0) (mx := mx.map a.eval) (.inl ⟨by simp [hmx0], rfl⟩) (Nat.le_refl _) b3 (by omega) b5 (Nat.le_refl _) hno'
                refine ⟨_, run _ _ _ _ _ _ h10 hb, ?_⟩
                simp only [RV, RV1, RW]
                exact ⟨i.size, rows, p, hL, by omega, ⟨_, _, _, rfl⟩, fun _ _ => .inl ⟨rfl, _, 0, rfl, by decide⟩⟩
            | some mm =>
              simp only [hmm, Option.map_some] at h
              split at h
              · rename_i m hm
                cases hq : (m == hh && l == hh) with
                | false => simp [hq] at h
                | true =>
                  simp only [hq, cond_true, Option.some.injEq, Prod.mk.injEq] at h
                  obtain ⟨rfl, rfl⟩ := h
                  simp only [Bool.and_eq_true, beq_iff_eq] at hq
                  obtain ⟨e3, e4⟩ := hq
                  refine ⟨rfl, ?_⟩
                  cases mx with
                  | none => simp [hmm, mOpt] at hmx
                  | some m0 =>
                    obtain ⟨kk, e1, e2⟩ := natBelow_ok hm (mOpd_ok r (by simpa [hmm, mOpt] using hmx))
                    obtain ⟨base, cap, he, hcap⟩ : ∃ base cap, a.eval x = .slice base n cap ∧ n ≤ cap := by
                      rcases h7 hn.symm with ⟨b, cap, cur, t', h8, h9, h10, h11⟩ | ⟨h8, h9, base, h10⟩
                      · refine ⟨_, cap, h9, ?_⟩
                        rcases hok with ⟨b', cap', cur', t'', g1, g2, g3, g4, g5, _⟩ | ⟨g1, _⟩
                        · rw [h8] at g1
                          cases g1
                          rw [h10] at g2
                          cases g2
                          have : cap = cap' := Nat.eq_of_mul_eq_mul_right hs0 (h11.symm.trans g3)
                          omega
                        · rw [h8] at g1; cases g1
                      · exact ⟨base, 0, by rw [h9]; exact h10, by omega⟩
                    have hb := sliceBounds_run (P := P) (w := w) (isS := true) (len := n) (cap := cap) (l := l) (h := hh) (m := m) (.inr ⟨kk, by simp [e1], (by omega : m ≤ n)⟩) hcap b3.self (by omega) b5 (Nat.le_refl _) hno'
                    refine ⟨_, run _ _ _ _ _ _ he hb, ?_⟩
                    rw [show hh - l = 0 from by omega, show m - l = 0 from by omega]
                    simp only [RV, RV1, RW, RD]
                    exact ⟨⟨_, 0, rfl, by simp, by decide, .inl trivial⟩, _, 0, rfl⟩
              · cases h
    · cases h
  · rename_i k M lo0 n hv
    rw [hv] at h1
    split at h
    · rename_i s rows p hL
      split at h
      · cases h
      · rename_i hh hhh
        split at h
        · cases h
        · rename_i l hl
          cases hb : (rows.length == M && Nat.ble (lo0 + n) M && s == i.size && (mx'.map (·.val C E)).isNone) with
          | false => rw [hb] at h; simp at h
          | true =>
            rw [hb] at h
            simp only [cond_true, Option.some.injEq, Prod.mk.injEq] at h
            obtain ⟨rfl, rfl⟩ := h
            simp only [Bool.and_eq_true, beq_iff_eq, Option.isNone_map] at hb
            obtain ⟨⟨⟨hn, hle⟩, rfl⟩, hnone⟩ := hb
            have hle := Nat.le_of_ble_eq_true hle
            have hmx0 : mx = none := by cases mx with
              | none => rfl
              | some _ => cases mx' with
                | none => simp [mOpt] at hmx
                | some _ => simp at hnone
            obtain ⟨b3, b4⟩ := boundOr_ok r hhi hhh
            obtain ⟨b5, b6⟩ := boundOr_ok r hlo hl
            simp only [RV, RV1, RW] at h1
            obtain ⟨s', rows', p', h5, h6, _, h7⟩ := h1
            rw [hL] at h5
            cases h5
            refine ⟨rfl, ?_⟩
            rcases h7 hn.symm hle with ⟨h8, base, cap, h9, h10⟩ | ⟨b, cap, cur, t', h8, h9, h10, h11, h12, h13⟩
            · subst h8
              have el : l = 0 := by omega
              have eh : hh = 0 := by omega
              subst el eh
              have hb := sliceBounds_run (P := P) (w := w) (isS := true) (len := 0) (cap := cap) (l := 0) (h := 0) (m := cap) (mx := mx.map a.eval) (.inl ⟨by simp [hmx0], rfl⟩) (Nat.le_refl _) b3 (by omega) b5 (Nat.le_refl _) hno'
              refine ⟨_, run _ _ _ _ _ _ h9 hb, ?_⟩
              simp only [RV, RV1, RW]
              exact ⟨i.size, rows, p, hL, by omega, ⟨_, _, _, rfl⟩, fun _ _ => .inl ⟨rfl, _, cap, rfl, h10⟩⟩
            · have hb := sliceBounds_run (P := P) (w := w) (isS := true) (len := n) (cap := cap) (l := l) (h := hh) (m := cap) (mx := mx.map a.eval) (.inl ⟨by simp [hmx0], rfl⟩) (Nat.le_refl _) b3 (by omega) b5 (Nat.le_refl _) hno'
              refine ⟨_, run _ _ _ _ _ _ h9 hb, ?_⟩
              simp only [RV, RV1, RW]
              refine ⟨i.size, rows, p, hL, by omega, ⟨_, _, _, rfl⟩, fun _ _ => ?_⟩
              by_cases hz : hh = l
              · left; exact ⟨by omega, _, cap - l, by rw [show hh - l = 0 from by omega], by omega⟩
              · right
                refine ⟨b, cap - l, cur, t', h8, ?_, by omega, by omega, h12, ?_⟩
                · rw [if_neg (by omega)]
                  simp [addr_add, Nat.add_mul]
                · rw [show lo0 + l + (cap - l) = lo0 + cap from by omega]
                  exact h13
    · cases h
  · cases h

/-- Loads out of a block. -/
theorem load_key (r : Rel C.gl N w0 ω0 S E L a w ω β) {x : Operand} {x' : Opd} {t : TypeId} {i : TypeInfo} (hx : mOpd x x' = true)
    (hu : (P.underlying t).isSome = true) (hi : P.info? t = some i) {u : Upd}
    (h : exec1 C E L 0 (.load (isAggB P t) i.size x') = some (v, u)) : u = [] ∧ ∃ b off vv, a.eval x = .pointer (some ⟨b, off, none⟩) ∧ (loadVar t ⟨b, off, none⟩).run P w = .ok vv w ∧ RV w ω β L v vv := by
  have h1 := mOpd_ok r hx
  have key : ∀ (b off : Nat) (cs : List W) (vs : List Value), a.eval x = .pointer (some ⟨b, off, none⟩) → RWlist w ω β L cs vs → vs.length = i.size → asV (isAggB P t) cs = some v →
      (∀ j v, vs[j]? = some v → at? w b (off + j) = some v) → ∃ b off vv, a.eval x = .pointer (some ⟨b, off, none⟩) ∧ (loadVar t ⟨b, off, none⟩).run P w = .ok vv w ∧ RV w ω β L v vv := by
    intro b off cs vs he hr hl hv hat
    have hl' := hr.length
    have hag : isAggB P t = true ∨ vs.length = 1 := by
      cases hb : isAggB P t with
      | true => exact .inl rfl
      | false =>
        right
        unfold asV at hv
        simp only [hb, cond_false] at hv
        split at hv
        · simpa using hl'.symm
        · cases hv
    refine ⟨b, off, packV (isAggB P t) vs, he, run_loadVar hu hi hl hag hat, ?_⟩
    unfold asV at hv
    cases hb : isAggB P t with
    | true =>
      simp only [hb, cond_true, Option.some.injEq] at hv
      subst hv
      simp only [packV, if_true]
      exact ⟨_, rfl, hr⟩
    | false =>
      simp only [hb, cond_false] at hv
      split at hv
      · simp only [Option.some.injEq] at hv
        subst hv
        cases vs with
        | nil => simp at hl'
        | cons y ys =>
          simp only [RWlist] at hr
          simp only [packV, Bool.false_eq_true, if_false, List.headD_cons]
          exact hr.1
      · cases hv
  simp only [exec1] at h
  split at h
  · rename_i k off hv
    rw [hv] at h1
    simp only [RV, RV1, RW] at h1
    obtain ⟨cells, b, h2, h3, h4⟩ := h1
    rw [h2] at h
    simp only at h
    cases hc : cut cells off i.size with
    | none => simp [hc] at h
    | some cs =>
      simp only [hc] at h
      cases hav : asV (isAggB P t) cs with
      | none => simp [hav] at h
      | some v' =>
        simp only [hav, Option.map_some, Option.some.injEq, Prod.mk.injEq] at h
        obtain ⟨rfl, rfl⟩ := h
        refine ⟨rfl, ?_⟩
        obtain ⟨b', cur, t', g1, g2, g3, _⟩ := r.obj k _ h2
        rw [h3] at g1
        cases g1
        obtain ⟨g5, g6⟩ := g3.cut hc
        refine key b off cs _ h4 g5 ?_ hav ?_
        · simp only [List.length_take, List.length_drop]; omega
        · intro j y hy
          rw [List.getElem?_take] at hy
          split at hy
          · rw [List.getElem?_drop] at hy
            rw [at?_block g2, ← Array.getElem?_toList]
            exact hy
          · cases hy
  · rename_i k M j off hv
    rw [hv] at h1
    split at h
    · rename_i s rows p hL
      cases hb : (rows.length == M) with
      | false => simp [hb] at h
      | true =>
        simp only [hb, cond_true] at h
        cases hrow : rows[j]? with
        | none => simp [hrow] at h
        | some row =>
          simp only [hrow] at h
          cases hc : cut row off i.size with
          | none => simp [hc] at h
          | some cs =>
            simp only [hc] at h
            cases hav : asV (isAggB P t) cs with
            | none => simp [hav] at h
            | some v' =>
              simp only [hav, Option.map_some, Option.some.injEq, Prod.mk.injEq] at h
              obtain ⟨rfl, rfl⟩ := h
              refine ⟨rfl, ?_⟩
              have hM : rows.length = M := by simpa using hb
              have hj : j < rows.length := (List.getElem?_eq_some_iff.1 hrow).1
              simp only [RV, RV1, RW] at h1
              obtain ⟨s', rows', p', e1, e2, _, e3⟩ := h1
              rw [hL] at e1
              cases e1
              obtain ⟨b, e4, e5⟩ := e3 hM.symm (by omega)
              obtain ⟨hs0, hrows, _, hok⟩ := r.obj k _ hL
              rcases hok with ⟨b', cap, cur, t', g1, g2, g3, g4, g5, g6, _⟩ | ⟨g1, _⟩
              · rw [e4] at g1
                cases g1
                -- the row's cells
                have hflat := rowCells (w := w) (ω := ω) (β := β) (L := L) hrows hrow g6
                obtain ⟨g7, g8⟩ := hflat.cut hc
                refine key b _ cs _ e5 g7 ?_ hav ?_
                · simp only [List.length_take, List.length_drop] at g8 ⊢; omega
                · intro q y hy
                  rw [List.getElem?_take] at hy
                  split at hy
                  · rw [List.getElem?_drop, List.getElem?_take] at hy
                    split at hy
                    · rw [List.getElem?_drop, List.getElem?_take] at hy
                      split at hy
                      · rw [at?_block g2, ← Array.getElem?_toList, ← hy]
                        congr 1
                        omega
                      · cases hy
                    · cases hy
                  · cases hy
              · rw [e4] at g1; cases g1
    · cases h
  · rename_i row off hv
    rw [hv] at h1
    simp only [RV, RV1, RW, RD] at h1
    obtain ⟨b, o', h2, h3⟩ := h1
    cases hc : cut row off i.size with
    | none => simp [hc] at h
    | some cs =>
      simp only [hc] at h
      cases hav : asV (isAggB P t) (cs.map W.c) with
      | none => simp [hav] at h
      | some v' =>
        simp only [hav, Option.map_some, Option.some.injEq, Prod.mk.injEq] at h
        obtain ⟨rfl, rfl⟩ := h
        refine ⟨rfl, ?_⟩
        obtain ⟨vs, g1, g2⟩ := (h3.cut hc).list
        refine key b _ _ vs h2 (RDlist.to g1) ?_ hav ?_
        · rw [← g1.length]
          unfold cut at hc
          cases hb : Nat.ble (off + i.size) row.length with
          | false => simp [hb] at hc
          | true =>
            simp only [hb, cond_true, Option.some.injEq] at hc
            subst hc
            have := Nat.le_of_ble_eq_true hb
            simp only [List.length_take, List.length_drop]
            omega
        · intro j y hy
          exact (g2 j y hy).1
  · cases h

theorem gives_load (r : Rel C.gl N w0 ω0 S E L a w ω β) {x : Operand} {x' : Opd} {t : TypeId} {i : TypeInfo} (ho : o.op = .load t x) (hx : mOpd x x' = true)
    (hu : (P.underlying t).isSome = true) (hi : P.info? t = some i) {u : Upd}
    (h : exec1 C E L 0 (.load (isAggB P t) i.size x') = some (v, u)) : u = [] ∧ Gives P o a w ω β L v := by
  obtain ⟨h0, b, off, vv, he, hrun, hv⟩ := load_key r hx hu hi h
  refine ⟨h0, vv, ?_, hv⟩
  simp only [execOp, ho, he, Instr.loadAt, Sem.run_bind, sureAddr_run, Result.andThen_ok, hrun, Sem.run_pure]

end
end Go.Vs
