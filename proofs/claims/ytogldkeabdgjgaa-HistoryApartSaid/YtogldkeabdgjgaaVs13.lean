/- The value semantics, 13: make and append. -/
import Derived.Test.YtogldkeabdgjgaaVs12
namespace Go.Vs
open Go

section
variable {P : Program} {C : Ctx} {N : Nat} {w0 : World} {ω0 : Nat → Nat} {S : Fr} {E : Nat → Option V} {L : Nat → Option Obj} {a : Act} {w : World} {ω : Nat → Nat} {β : Nat → Option Nat}
variable {o : Oper} {v : V}

theorem replicate_cells (z : Array Value) (hz : 0 < z.size) : ∀ m, ((Array.range (m * z.size)).map fun q => z[q % z.size]!).toList = (List.replicate m z.toList).flatten := by
  intro m
  apply List.ext_getElem?
  intro i
  have hl : ∀ m, ((List.replicate m z.toList).flatten).length = m * z.size := by
    intro m; simp [List.length_flatten]
  by_cases hi : i < m * z.size
  · have hmod : i % z.size < z.size := Nat.mod_lt _ hz
    have h1 : ((Array.range (m * z.size)).map fun q => z[q % z.size]!).toList[i]? = some (z[i % z.size]!) := by
      simp [hi]
    rw [h1]
    induction m generalizing i with
    | zero => simp at hi
    | succ m ih =>
      rw [List.replicate_succ, List.flatten_cons]
      by_cases h : i < z.size
      · rw [List.getElem?_append_left (by simpa using h), Nat.mod_eq_of_lt h]
        simp [h]
      · rw [List.getElem?_append_right (by simpa using Nat.le_of_not_lt h)]
        have hi' : i - z.size < m * z.size := by rw [Nat.add_mul] at hi; omega
        have := ih (i - z.size) hi' (Nat.mod_lt _ hz) (by simp [hi'])
        rw [show i % z.size = (i - z.size) % z.size from by rw [Nat.mod_eq_sub_mod (by omega)]]
        simpa using this
  · rw [List.getElem?_eq_none (by simpa using Nat.le_of_not_lt hi), List.getElem?_eq_none (by rw [hl]; omega)]

theorem RWlist.flatReplicate {zero : List W} {zs : List Value} (h : RWlist w ω β L zero zs) : ∀ m, RWlist w ω β L (List.replicate m zero).flatten (List.replicate m zs).flatten
  | 0 => by simp [RWlist]
  | m + 1 => by rw [List.replicate_succ, List.replicate_succ, List.flatten_cons, List.flatten_cons]; exact h.append (RWlist.flatReplicate h m)

theorem makes_mkS (r : Rel C.gl N w0 ω0 S E L a w ω β) {t e : TypeId} {i : TypeInfo} {z : Value} {zero : List W} {x y : Operand} {x' : Opd} {oid : Nat} (ho : o.op = .makeSlice t x y) (hx : mOpd x x' = true) (hy : mOpd y x' = true)
    (ht : P.underlying t = some (.slice e)) (hi : P.info? e = some i) (hz : i.zero = some z) (hc : cvList z.cells.toList zero = true) (hzs : z.cells.size = i.size) {u : Upd}
    (h : exec1 C E L oid (.mkS i.size i.bytes zero x') = some (v, u)) : Makes P C.gl N w0 ω0 S E L o a w v u := by
  have h1 := mOpd_ok r hx
  have h2 := mOpd_ok r hy
  simp only [exec1] at h
  split at h
  · rename_i m hk hm
    cases hb : (Nat.ble (m * i.bytes) maxBytes && zero.length == i.size && Nat.blt 0 i.size && Nat.ble m maxRows) with
    | false => rw [hb] at h; simp at h
    | true =>
      rw [hb] at h
      simp only [cond_true, Option.some.injEq, Prod.mk.injEq] at h
      obtain ⟨rfl, rfl⟩ := h
      simp only [Bool.and_eq_true, beq_iff_eq] at hb
      obtain ⟨⟨⟨hb1, hzl⟩, hs⟩, hb2⟩ := hb
      have hb1 := Nat.le_of_ble_eq_true hb1
      have hb2 := Nat.le_of_ble_eq_true hb2
      have hs : 0 < i.size := Nat.le_of_ble_eq_true (show Nat.ble (0 + 1) i.size = true from hs)
      obtain ⟨k, hval⟩ : ∃ k, x'.val C E = .sc (.c (.int k m)) := by
        unfold intOf at hm
        split at hm
        · rename_i k n hv
          simp only [Option.some.injEq] at hm
          rw [hm] at hv
          exact ⟨k, hv⟩
        · cases hm
      rw [hval] at h1 h2
      simp only [RV, RV1, RW, RD] at h1 h2
      have hw : IntKind.i64.wrap (m : Int) = m := by
        have : m < 9223372036854775808 := by simp only [maxRows] at hb2; omega
        exact IntWalk.i64_in _ (by omega)
      have hbytes : ¬ ((i.bytes : Int) * (m : Int) > 2 ^ 48) := by
        have h3 : ((m * i.bytes : Nat) : Int) ≤ (maxBytes : Nat) := by exact_mod_cast hb1
        rw [Int.natCast_mul] at h3
        rw [Int.mul_comm]
        have : ((maxBytes : Nat) : Int) = 140737488355328 := rfl
        omega
      have run : (execOp a.eval o).run P w = .ok (.value (.slice (some ⟨w.heap.size, 0, none⟩) m m)) (w.alloc (.cells ((Array.range (m * i.size)).map fun q => (if m * i.size = 0 then (#[] : Array Value) else z.cells)[q % (if m * i.size = 0 then (#[] : Array Value) else z.cells).size]!) e)) := by
        simp only [execOp, ho, Instr.makeSlice, Sem.run_bind, run_underlying ht, Result.andThen_ok, h1, h2, asInt, asIntOf, Sem.run_pure, typeInfo, run_program, hi, hw, Int.toNat_natCast]
        have hneg : ¬ ((m : Int) < 0) := by omega
        simp only [hneg, hbytes, decide_false, Bool.or_false, gt_iff_lt, Int.lt_irrefl, Bool.false_eq_true, if_false, Sem.run_bind, run_askRoom, Result.andThen_ok, run_sizeOf' hi]
        by_cases h0 : m * i.size = 0
        · simp only [h0, if_true, Sem.run_pure, Result.andThen_ok, newRow, Sem.run_bind, run_newObj]
          rfl
        · simp only [h0, if_false, zeroValue, typeInfo, Sem.run_bind, run_program, hi, hz, Sem.run_pure, Result.andThen_ok, newRow, run_newObj]
          rfl
      have hcells : ((Array.range (m * i.size)).map fun q => (if m * i.size = 0 then (#[] : Array Value) else z.cells)[q % (if m * i.size = 0 then (#[] : Array Value) else z.cells).size]!).toList = (List.replicate m z.cells.toList).flatten := by
        by_cases h0 : m * i.size = 0
        · have : m = 0 := by
            rcases Nat.mul_eq_zero.1 h0 with h | h
            · exact h
            · omega
          subst this
          simp
        · simp only [h0, if_false]
          have := replicate_cells z.cells (by omega) m
          rw [hzs] at this
          rw [hzs]
          exact this
      obtain ⟨ω', β', r2, g2⟩ := r.newArr (cap := m) (rows := List.replicate m zero) hk hs (by intro r hr; rw [List.eq_of_mem_replicate hr]; exact hzl) (cs := (Array.range (m * i.size)).map fun q => (if m * i.size = 0 then (#[] : Array Value) else z.cells)[q % (if m * i.size = 0 then (#[] : Array Value) else z.cells).size]!) e
        (by simp) (by simp) hb2 (by
          rw [hcells, List.take_of_length_le (by simp [List.length_flatten, hzs])]
          exact RWlist.flatReplicate (cvList_ok hc) m)
      simp only [List.length_replicate] at g2
      exact ⟨_, _, _, ω', β', run, .inl rfl, r2, g2⟩
  · cases h

/- ## append -/

/-- Where the rows to be appended lie. -/
theorem rowsRead (r : Rel C.gl N w0 ω0 S E L a w ω β) {y : V} {vv : Value} (hr : RV w ω β L y vv) {ys : List (List W)} {s : Nat} (h : rowsOf L y = some ys) (hs : ∀ r ∈ ys, r.length = s) :
    ∃ base cap, vv = .slice base ys.length cap ∧ (ys = [] ∨ ∃ A news, base = some A ∧ RWlist w ω β L ys.flatten news ∧ news.length = ys.length * s ∧ ∀ (j : Nat) (u : Value), news[j]? = some u → w.cell? (A.add j) = some u) := by
  have hlen : ∀ ys : List (List W), (∀ r ∈ ys, r.length = s) → ys.flatten.length = ys.length * s := by
    intro ys
    induction ys with
    | nil => simp
    | cons x xs ih =>
      intro h
      rw [List.flatten_cons, List.length_append, h x (by simp), ih (fun r hr => h r (by simp [hr]))]
      simp only [List.length_cons, Nat.add_mul]; omega
  have pub : ∀ rows : List (List Cell), (∀ r ∈ rows, r.length = s) → RD w ω (.sl rows) vv → ∃ base cap, vv = .slice base (rows.map (·.map W.c)).length cap ∧
      (rows.map (·.map W.c) = [] ∨ ∃ A news, base = some A ∧ RWlist w ω β L (rows.map (·.map W.c)).flatten news ∧ news.length = (rows.map (·.map W.c)).length * s ∧ ∀ (j : Nat) (u : Value), news[j]? = some u → w.cell? (A.add j) = some u) := by
    intro rows hrs h
    simp only [RD] at h
    obtain ⟨base, cap, h1, _, _, h2⟩ := h
    refine ⟨base, cap, by simpa using h1, ?_⟩
    rcases h2 with rfl | ⟨b, o', s', rfl, h3, h4⟩
    · left; rfl
    · by_cases hne : rows = []
      · left; simp [hne]
      right
      have hs' : s' = s := by
        cases rows with
        | nil => exact absurd rfl hne
        | cons x xs =>
          simp only [RDrows] at h4
          have := hrs x (by simp)
          omega
      subst hs'
      have hflat : ∀ (rows : List (List Cell)) (o' : Nat), RDrows w ω b s' o' rows → RDcells w ω b o' rows.flatten := by
        intro rows
        induction rows with
        | nil => intro o' _; simp [RDcells]
        | cons x xs ih =>
          intro o' h
          simp only [RDrows] at h
          rw [List.flatten_cons]
          have h5 := ih _ h.2.2
          obtain ⟨v1, g1, g2⟩ := h.2.1.list
          obtain ⟨v2, g3, g4⟩ := h5.list
          have hx : v1.length = s' := by rw [← g1.length]; exact h.1
          refine RDcells.mk (vs := v1 ++ v2) ?_ ?_
          · have := RWlist.append (RDlist.to (β := β) (L := L) g1) (RDlist.to g3)
            rw [← List.map_append] at this
            exact RDlist.of this
          · intro j u hu
            by_cases hj : j < v1.length
            · rw [List.getElem?_append_left hj] at hu
              exact g2 j u hu
            · rw [List.getElem?_append_right (by omega)] at hu
              have := g4 _ u hu
              rw [show o' + j = o' + s' + (j - v1.length) from by omega]
              exact this
      obtain ⟨news, g1, g2⟩ := (hflat rows o' h4).list
      refine ⟨⟨b, o', none⟩, news, rfl, ?_, ?_, ?_⟩
      · have := RDlist.to (β := β) (L := L) g1
        rw [List.map_flatten] at this
        exact this
      · rw [← g1.length]
        have := hlen (rows.map (·.map W.c)) (by simpa using hrs)
        rw [← this]
        simp [List.length_flatten, Function.comp_def]
      · intro j u hu
        rw [addr_add]
        exact (g2 j u hu).1
  unfold rowsOf at h
  split at h
  · rename_i rows
    simp only [Option.some.injEq] at h
    subst h
    exact pub rows (by simpa using hs) (by simpa only [RV, RV1, RW] using hr)
  · simp only [Option.some.injEq] at h
    subst h
    simp only [RV, RV1, RW] at hr
    exact ⟨none, 0, hr, .inl rfl⟩
  · rename_i rows
    simp only [Option.some.injEq] at h
    subst h
    simp only [RV, RV1, RW] at hr
    exact pub rows (by simpa using hs) hr.1
  · rename_i k n
    split at h
    · rename_i s' rows p hL
      cases hb : (rows.length == n) with
      | false => simp [hb] at h
      | true =>
        simp only [hb, cond_true, Option.some.injEq] at h
        subst h
        simp only [RV, RV1, RW] at hr
        obtain ⟨s1, rows1, p1, h1, h2, _, h3⟩ := hr
        rw [hL] at h1
        cases h1
        have hn : n = rows.length := (by simpa using hb : rows.length = n).symm
        subst hn
        obtain ⟨f1, f2, f3, f4⟩ := r.obj k _ hL
        rcases h3 rfl with ⟨b, cap, cur, t, h4, h5, h6, h7⟩ | ⟨h4, h5, base, h6⟩
        · refine ⟨_, cap, h5, ?_⟩
          by_cases hne : rows = []
          · left; exact hne
          right
          rcases f4 with ⟨b', cap', cur', t', g2, g3, g4, g5, g6, g7, g8⟩ | ⟨g2, _⟩
          · rw [h4] at g2
            cases g2
            rw [h6] at g3
            cases g3
            have hss : s' = s := by
              cases rows with
              | nil => exact absurd rfl hne
              | cons x xs => have := f2 x (by simp); have := hs x (by simp); omega
            subst hss
            refine ⟨_, _, rfl, g7, ?_, ?_⟩
            · rw [← g7.length]; exact hlen rows hs
            · intro j u hu
              rw [addr_add]
              rw [List.getElem?_take] at hu
              split at hu
              · have := at?_block (i := j) h6
                simp only [at?] at this
                rw [Nat.zero_add, this, ← Array.getElem?_toList]
                exact hu
              · cases hu
          · rw [h4] at g2; cases g2
        · refine ⟨base, 0, by rw [h5]; exact h6, .inl ?_⟩
          exact List.eq_nil_of_length_eq_zero h5
    · cases h
  · rename_i k M lo n
    split at h
    · rename_i s' rows p hL
      cases hb : (rows.length == M) with
      | false => simp [hb] at h
      | true =>
        simp only [hb, cond_true] at h
        simp only [RV, RV1, RW] at hr
        obtain ⟨s1, rows1, p1, h1, h2, _, h3⟩ := hr
        rw [hL] at h1
        cases h1
        have hn : M = rows.length := (by simpa using hb : rows.length = M).symm
        subst hn
        unfold cut at h
        cases hb2 : Nat.ble (lo + n) rows.length with
        | false => simp [hb2] at h
        | true =>
          simp only [hb2, cond_true, Option.some.injEq] at h
          have hle := Nat.le_of_ble_eq_true hb2
          have hyl : ys.length = n := by rw [← h]; simp; omega
          obtain ⟨f1, f2, f3, f4⟩ := r.obj k _ hL
          rcases h3 rfl hle with ⟨h4, base, cap, h5, _⟩ | ⟨b, cap, cur, t, h4, h5, h6, h7, h8, h9⟩
          · exact ⟨base, cap, by rw [hyl, h4]; exact h5, .inl (List.eq_nil_of_length_eq_zero (by omega))⟩
          · refine ⟨_, cap, by rw [hyl]; exact h5, ?_⟩
            by_cases hne : ys = []
            · left; exact hne
            right
            rcases f4 with ⟨b', cap', cur', t', g2, g3, g4, g5, g6, g7, g8⟩ | ⟨g2, _⟩
            · rw [h4] at g2
              cases g2
              rw [h8] at g3
              cases g3
              have hss : s' = s := by
                cases hys : ys with
                | nil => exact absurd hys hne
                | cons x xs =>
                  have hx : x ∈ rows := by
                    have : x ∈ (rows.drop lo).take n := by rw [h, hys]; simp
                    exact List.mem_of_mem_drop (List.mem_of_mem_take this)
                  have := f2 x hx
                  have := hs x (by rw [hys]; simp)
                  omega
              subst hss
              have hd : ∀ (m : Nat) (rows : List (List W)), (∀ r ∈ rows, r.length = s') → (rows.drop m).flatten = rows.flatten.drop (m * s') := by
                intro m
                induction m with
                | zero => intro rows _; simp
                | succ m ih =>
                  intro rows hrs
                  cases rows with
                  | nil => simp
                  | cons x xs =>
                    rw [List.drop_succ_cons, ih xs (fun r hr => hrs r (by simp [hr])), List.flatten_cons]
                    have hx := hrs x (by simp)
                    rw [show (m + 1) * s' = x.length + m * s' from by rw [Nat.add_mul, hx]; omega, ← List.drop_drop]
                    rw [List.drop_left']
                    rfl
              have ht : ∀ (m : Nat) (rows : List (List W)), (∀ r ∈ rows, r.length = s') → (rows.take m).flatten = rows.flatten.take (m * s') := by
                intro m
                induction m with
                | zero => intro rows _; simp
                | succ m ih =>
                  intro rows hrs
                  cases rows with
                  | nil => simp
                  | cons x xs =>
                    rw [List.take_succ_cons, List.flatten_cons, ih xs (fun r hr => hrs r (by simp [hr])), List.flatten_cons]
                    have hx := hrs x (by simp)
                    rw [show (m + 1) * s' = x.length + m * s' from by rw [Nat.add_mul, hx]; omega]
                    rw [List.take_length_add_append]
              have hyf : RWlist w ω β L ys.flatten (((cur.toList.take (rows.length * s')).drop (lo * s')).take (n * s')) := by
                rw [← h, ht _ _ (fun r hr => f2 r (List.mem_of_mem_drop hr)), hd _ _ f2]
                exact (g7.drop _).take _
              refine ⟨_, _, rfl, hyf, ?_, ?_⟩
              · rw [← hyf.length]; exact hlen ys hs
              · intro j u hu
                rw [addr_add]
                rw [List.getElem?_take] at hu
                split at hu
                · rw [List.getElem?_drop, List.getElem?_take] at hu
                  split at hu
                  · have := at?_block (i := lo * s' + j) h8
                    simp only [at?] at this
                    rw [this, ← Array.getElem?_toList]
                    exact hu
                  · cases hu
                · cases hu
            · rw [h4] at g2; cases g2
    · cases h
  · cases h

end
end Go.Vs
