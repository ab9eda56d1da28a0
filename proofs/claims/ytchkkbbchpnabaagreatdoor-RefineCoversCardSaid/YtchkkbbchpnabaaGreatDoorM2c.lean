/- The value semantics, 13: make and append. -/
import Derived.Test.YtchkkbbchpnabaaGreatDoorM1c
import Derived.Lib.ConvBytes
import Derived.MapKept
set_option linter.unusedSimpArgs false
set_option linter.unusedVariables false
set_option linter.deprecated false

/- The value semantics, 13: make and append. -/
namespace Go.Vs
open Go

section
variable {P : Program} {C : Ctx} {N : Nat} {w0 : World} {ω0 : Nat → Nat} {S : Fr} {E : Nat → Option V} {L : Nat → Option Obj} {a : Act} {w : World} {ω : Nat → Nat} {β : Nat → Option Nat}
variable {o : Oper} {v : V}

theorem replicate_cells (z : Array Value) (hz : 0 < z.size) : ∀ m, ((Array.range (m * z.size)).map fun q => z[q % z.size]!).toList = (List.replicate m z.toList).flatten := by
  intro m
  apply List.ext_getElem?
  intro i
  have hl : ∀ m, ((List.replicate m z.toList).flatten).length = m * z.size := by
    simp
  by_cases hi : i < m * z.size
  · have hmod : i % z.size < z.size := Nat.mod_lt _ hz
    have h1 : ((Array.range (m * z.size)).map fun q => z[q % z.size]!).toList[i]? = some (z[i % z.size]!) := by
      grind
    rw [h1]
    induction m generalizing i <;> grind [Nat.mod_eq_of_lt, List.getElem?_append_right, Nat.mod_eq_sub_mod]
  grind

theorem RWlist.flatReplicate {zero : List W} {zs : List Value} (h : RWlist w ω β L zero zs) : ∀ m, RWlist w ω β L (List.replicate m zero).flatten (List.replicate m zs).flatten
  | 0 => by simp [RWlist]
  | m + 1 => by rw [List.replicate_succ, List.replicate_succ, List.flatten_cons, List.flatten_cons]; exact h.append (RWlist.flatReplicate h m)

theorem makes_mkS (r : Rel C.gl N w0 ω0 S E L a w ω β) {t e : TypeId} {i : TypeInfo} {z : Value} {zero : List W} {x y : Operand} {x' : Opd} {oid : Nat} (ho : o.op = .makeSlice t x y) (hx : mOpd x x' = true) (hy : mOpd y x' = true)
    (ht : P.underlying t = some (.slice e)) (hi : P.info? e = some i) (hz : i.zero = some z) (hc : cvList z.cells.toList zero = true) (hzs : z.cells.size = i.size) {u : Upd}
    (h : exec1 C E L oid (.mkS i.size i.bytes zero x') = some (v, u)) : Makes P C.gl N w0 ω0 S E L o a w v u := by
  have h1 := mOpd_ok r hx
  have h2 := mOpd_ok r hy
  simp only [exec1] at h
  split at h
  · rename_i m hk hm
    cases hb : (Nat.ble (m * i.bytes) maxBytes && zero.length == i.size && Nat.blt 0 i.size && Nat.ble m maxRows) with
    | false => grind
    | true =>
      rw [hb] at h
      simp only [cond_true, Option.some.injEq, Prod.mk.injEq] at h
      obtain ⟨rfl, rfl⟩ := h
      simp only [Bool.and_eq_true, beq_iff_eq] at hb
      obtain ⟨⟨⟨hb1, hzl⟩, hs⟩, hb2⟩ := hb
      have hb1 := Nat.le_of_ble_eq_true hb1
      have hb2 := Nat.le_of_ble_eq_true hb2
      have hs : 0 < i.size := Nat.le_of_ble_eq_true (show Nat.ble (0 + 1) i.size = true from hs)
      obtain ⟨k, hval⟩ : ∃ k, x'.val C E = .sc (.c (.int k m)) := by
        unfold intOf at hm
        grind
      rw [hval] at h1 h2
      simp only [RV, RV1, RW, RD] at h1 h2
      have hw : IntKind.i64.wrap (m : Int) = m := by
        grind [maxRows, IntWalk.i64_in]
      have hbytes : ¬ ((i.bytes : Int) * (m : Int) > 2 ^ 48) := by
        grind [maxBytes]
      have run : (execOp a.eval o).run P w = .ok (.value (.slice (some ⟨w.heap.size, 0, none⟩) m m)) (w.alloc (.cells ((Array.range (m * i.size)).map fun q => (if m * i.size = 0 then (#[] : Array Value) else z.cells)[q % (if m * i.size = 0 then (#[] : Array Value) else z.cells).size]!) e)) := by
        simp only [execOp, ho, Instr.makeSlice, Sem.run_bind, run_underlying ht, Result.andThen_ok, h1, h2, asInt, asIntOf, Sem.run_pure, typeInfo, run_program, hi, hw, Int.toNat_natCast]
        have hneg : ¬ ((m : Int) < 0) := by omega
        simp only [hneg, hbytes, decide_false, Bool.or_false, gt_iff_lt, Int.lt_irrefl, Bool.false_eq_true, if_false, Sem.run_bind, run_askRoom, Result.andThen_ok, run_sizeOf' hi]
        by_cases h0 : m * i.size = 0
        · simp only [h0, if_true, Sem.run_pure, Result.andThen_ok, newRow, Sem.run_bind, run_newObj]
          rfl
        · simp only [h0, if_false, zeroValue, typeInfo, Sem.run_bind, run_program, hi, hz, Sem.run_pure, Result.andThen_ok, newRow, run_newObj]
          rfl
      have hcells : ((Array.range (m * i.size)).map fun q => (if m * i.size = 0 then (#[] : Array Value) else z.cells)[q % (if m * i.size = 0 then (#[] : Array Value) else z.cells).size]!).toList = (List.replicate m z.cells.toList).flatten := by
        grind [replicate_cells]
      obtain ⟨ω', β', r2, g2⟩ := r.newArr (cap := m) (rows := List.replicate m zero) hk hs (by grind) (cs := (Array.range (m * i.size)).map fun q => (if m * i.size = 0 then (#[] : Array Value) else z.cells)[q % (if m * i.size = 0 then (#[] : Array Value) else z.cells).size]!) e
        (by simp) (by simp) hb2 (by
          grind [List.length_flatten, RWlist.flatReplicate, cvList_ok])
      simp only [List.length_replicate] at g2
      exact ⟨_, _, _, ω', β', run, .inl rfl, r2, g2⟩
  grind

/- ## append -/

/-- Where the rows to be appended lie. -/
theorem rowsRead (r : Rel C.gl N w0 ω0 S E L a w ω β) {y : V} {vv : Value} (hr : RV w ω β L y vv) {ys : List (List W)} {s : Nat} (h : rowsOf L y = some ys) (hs : ∀ r ∈ ys, r.length = s) :
    ∃ base cap, vv = .slice base ys.length cap ∧ (ys = [] ∨ ∃ A news, base = some A ∧ RWlist w ω β L ys.flatten news ∧ news.length = ys.length * s ∧ ∀ (j : Nat) (u : Value), news[j]? = some u → w.cell? (A.add j) = some u) := by
  have hlen : ∀ ys : List (List W), (∀ r ∈ ys, r.length = s) → ys.flatten.length = ys.length * s := by
    intro ys
    induction ys <;> grind
  have pub : ∀ rows : List (List Cell), (∀ r ∈ rows, r.length = s) → RD w ω (.sl rows) vv → ∃ base cap, vv = .slice base (rows.map (·.map W.c)).length cap ∧
      (rows.map (·.map W.c) = [] ∨ ∃ A news, base = some A ∧ RWlist w ω β L (rows.map (·.map W.c)).flatten news ∧ news.length = (rows.map (·.map W.c)).length * s ∧ ∀ (j : Nat) (u : Value), news[j]? = some u → w.cell? (A.add j) = some u) := by
    intro rows hrs h
    simp only [RD] at h
    obtain ⟨base, cap, h1, _, _, h2⟩ := h
    refine ⟨base, cap, by grind, ?_⟩
    rcases h2 with rfl | ⟨b, o', s', rfl, h3, h4⟩
    simp
    · by_cases hne : rows = []
      grind
      right
      have hs' : s' = s := by
        cases rows <;> grind [RDrows]
      subst hs'
      have hflat : ∀ (rows : List (List Cell)) (o' : Nat), RDrows w ω b s' o' rows → RDcells w ω b o' rows.flatten := by
        intro rows
        induction rows with
        | nil => grind [RDcells]
        | cons x xs ih =>
          intro o' h
          simp only [RDrows] at h
          rw [List.flatten_cons]
          have h5 := ih _ h.2.2
          obtain ⟨v1, g1, g2⟩ := h.2.1.list
          obtain ⟨v2, g3, g4⟩ := h5.list
          have hx : v1.length = s' := by rw [← g1.length]; omega
          refine RDcells.mk (vs := v1 ++ v2) ?_ ?_
          · have := RWlist.append (RDlist.to (β := β) (L := L) g1) (RDlist.to g3)
            rw [← List.map_append] at this
            exact RDlist.of this
          grind
      obtain ⟨news, g1, g2⟩ := (hflat rows o' h4).list
      refine ⟨⟨b, o', none⟩, news, rfl, ?_, ?_, ?_⟩
      grind [RDlist.to]
      · rw [← g1.length]
        grind
      · intro j u hu
        rw [addr_add]
        exact (g2 j u hu).1
  unfold rowsOf at h
  split at h
  · rename_i rows
    simp only [Option.some.injEq] at h
    subst h
    exact pub rows (by simp_all) (by grind [RV, RV1, RW])
  grind [RV, RV1, RW]
  grind [RV, RV1, RW]
  · rename_i rows
    simp only [Option.some.injEq] at h
    subst h
    simp only [RV, RV1, RW] at hr
    simp_all
  · rename_i k n
    split at h
    · rename_i s' rows p hL
      cases hb : (rows.length == n) with
      | false => grind
      | true =>
        simp only [hb, cond_true, Option.some.injEq] at h
        subst h
        simp only [RV, RV1, RW] at hr
        obtain ⟨s1, rows1, p1, h1, h2, _, h3⟩ := hr
        rw [hL] at h1
        cases h1
        have hn : n = rows.length := (by grind : rows.length = n).symm
        subst hn
        obtain ⟨f1, f2, f3, f4⟩ := r.obj k _ hL
        rcases h3 rfl with ⟨b, cap, cur, t, h4, h5, h6, h7⟩ | ⟨h4, h5, base, h6⟩
        · refine ⟨_, cap, h5, ?_⟩
          by_cases hne : rows = []
          grind
          right
          rcases f4 with ⟨b', cap', cur', t', g2, g3, g4, g5, g6, g7, g8⟩ | ⟨g2, _⟩
          · rw [h4] at g2
            cases g2
            rw [h6] at g3
            cases g3
            have hss : s' = s := by
              cases rows <;> grind
            subst hss
            refine ⟨_, _, rfl, g7, ?_, ?_⟩
            · rw [← g7.length]; grind
            · intro j u hu
              rw [addr_add]
              rw [List.getElem?_take] at hu
              split at hu
              · have := at?_block (i := j) h6
                grind [at?]
              grind
          grind
        grind
    grind
  · rename_i k M lo n
    split at h
    · rename_i s' rows p hL
      cases hb : (rows.length == M) with
      | false => grind
      | true =>
        simp only [hb, cond_true] at h
        simp only [RV, RV1, RW] at hr
        obtain ⟨s1, rows1, p1, h1, h2, _, h3⟩ := hr
        rw [hL] at h1
        cases h1
        have hn : M = rows.length := (by grind : rows.length = M).symm
        subst hn
        unfold cut at h
        cases hb2 : Nat.ble (lo + n) rows.length with
        | false => grind
        | true =>
          simp only [hb2, cond_true, Option.some.injEq] at h
          have hle := Nat.le_of_ble_eq_true hb2
          have hyl : ys.length = n := by grind
          obtain ⟨f1, f2, f3, f4⟩ := r.obj k _ hL
          rcases h3 rfl hle with ⟨h4, base, cap, h5, _⟩ | ⟨b, cap, cur, t, h4, h5, h6, h7, h8, h9⟩
          grind
          · refine ⟨_, cap, by rw [hyl]; exact h5, ?_⟩
            by_cases hne : ys = []
            grind
            right
            rcases f4 with ⟨b', cap', cur', t', g2, g3, g4, g5, g6, g7, g8⟩ | ⟨g2, _⟩
            · rw [h4] at g2
              cases g2
              rw [h8] at g3
              cases g3
              have hss : s' = s := by
                cases hys : ys <;> grind
              subst hss
              have hd : ∀ (m : Nat) (rows : List (List W)), (∀ r ∈ rows, r.length = s') → (rows.drop m).flatten = rows.flatten.drop (m * s') := by
                intro m
                induction m with
                | zero => simp
                | succ m ih =>
                  intro rows hrs
                  cases rows with
                  | nil => simp
                  | cons x xs =>
                    rw [List.drop_succ_cons, ih xs (fun r hr => hrs r (by grind)), List.flatten_cons]
                    have hx := hrs x (by simp)
                    rw [show (m + 1) * s' = x.length + m * s' from by grind, ← List.drop_drop]
                    simp
              have ht : ∀ (m : Nat) (rows : List (List W)), (∀ r ∈ rows, r.length = s') → (rows.take m).flatten = rows.flatten.take (m * s') := by
                intro m
                induction m with
                | zero => simp
                | succ m ih =>
                  intro rows hrs
                  cases rows with
                  | nil => simp
                  | cons x xs =>
                    rw [List.take_succ_cons, List.flatten_cons, ih xs (fun r hr => hrs r (by grind)), List.flatten_cons]
                    grind [Nat.add_mul]
              have hyf : RWlist w ω β L ys.flatten (((cur.toList.take (rows.length * s')).drop (lo * s')).take (n * s')) := by
                rw [← h, ht _ _ (fun r hr => f2 r (List.mem_of_mem_drop hr)), hd _ _ f2]
                exact (g7.drop _).take _
              refine ⟨_, _, rfl, hyf, ?_, ?_⟩
              · rw [← hyf.length]; grind
              · intro j u hu
                rw [addr_add]
                rw [List.getElem?_take] at hu
                split at hu
                · rw [List.getElem?_drop, List.getElem?_take] at hu
                  split at hu
                  · have := at?_block (i := lo * s' + j) h8
                    grind [at?]
                  grind
                grind
            grind
    grind
  grind

end
end Go.Vs

/- The value semantics, 14: append. -/
namespace Go.Vs
open Go

section
variable {P : Program} {C : Ctx} {N : Nat} {w0 : World} {ω0 : Nat → Nat} {S : Fr} {E : Nat → Option V} {L : Nat → Option Obj} {a : Act} {w : World} {ω : Nat → Nat} {β : Nat → Option Nat}
variable {o : Oper} {v : V}

theorem run_append_zero {t ty e : TypeId} {i : TypeInfo} (ht : P.underlying t = some (.slice e)) (hi : P.info? e = some i) {base yb : Option Addr} {n cap yc : Nat} (hn : n ≤ cap) :
    (Builtin.append_ #[t, t] ty #[.slice base n cap, .slice yb 0 yc]).run P w = .ok (.slice base n cap) w := by
  have hf : (Builtin.firstCells i.size 0 (.slice yb 0 yc)).run P w = .ok #[] w := by
    cases yb with
    | none => rfl
    | some b =>
      have := run_loadCells_list (P := P) w b [] (by simp)
      grind [Builtin.firstCells]
  cases base <;> simp [Builtin.append_, run_underlying ht, sizeOf, typeInfo, hi, Builtin.lenOf, hn, hf, storeCells]

theorem run_append_room' {t ty e : TypeId} {i : TypeInfo} (ht : P.underlying t = some (.slice e)) (hi : P.info? e = some i) {g sLen sCap : Nat} {cur : Array Value} {te : TypeId} (hg : w.heap[g]? = some (.cells cur te (0, 0)))
    {A : Addr} {m c : Nat} {news : List Value} (hl : news.length = m * i.size) (hnews : ∀ (j : Nat) (u : Value), news[j]? = some u → w.cell? (A.add j) = some u) (h1 : ∀ u ∈ news, u.oneCell' = true)
    (hroom : sLen + m ≤ sCap) (hfit : sLen * i.size + news.length ≤ cur.size) :
    (Builtin.append_ #[t, t] ty #[.slice (some ⟨g, 0, none⟩) sLen sCap, .slice (some A) m c]).run P w =
      .ok (.slice (some ⟨g, 0, none⟩) (sLen + m) sCap) (w.setRow g (cur.toList.take (sLen * i.size) ++ news ++ cur.toList.drop (sLen * i.size + news.length)).toArray) := by
  have hf := run_firstCells_some (P := P) w i.size m A m c news hl hnews
  have hst := run_storeCells_at P g (sLen * i.size) te news 0 cur w hg (by omega) h1
  simp only [Nat.add_zero] at hst
  simp [Builtin.append_, run_underlying ht, sizeOf, typeInfo, hi, Builtin.lenOf, hroom, hf, Addr.add_lit, hst]

theorem Tr.heapEq {w' : World} (h : w'.heap = w.heap) (k : Nat) : Tr w β w' β L L k := by
  grind [Tr]

theorem RWlist.drew {xs : List W} {vs : List Value} (h : RWlist w ω β L xs vs) : RWlist w.drew ω β L xs vs :=
  RWlist.step (w := w) (w' := w.drew) (ω := ω) (ω' := ω) (β := β) (β' := β) (L := L) (L' := L) ⟨fun _ _ hi _ hv => ⟨hv, hi⟩⟩ (fun k => Tr.heapEq rfl k) xs h

theorem run_call_append {t u : TypeId} {x y : Operand} (ho : o.op = .call { callee := .builtin .append, args := #[x, y], argTypes := #[t, u] }) {vv : Value} {w' : World}
    (h : (Builtin.append_ #[t, u] o.type #[a.eval x, a.eval y]).run P w = .ok vv w') : (execOp a.eval o).run P w = .ok (.value vv) w' := by
  unfold execOp
  simp only [ho, resolve, invoke, builtin, Sem.run_bind, Sem.run_pure, Result.andThen_ok, List.map_toArray, List.map_cons, List.map_nil, h]

theorem flat_length {s : Nat} : ∀ {ys : List (List W)}, (∀ r ∈ ys, r.length = s) → ys.flatten.length = ys.length * s
  | [], _ => by simp
  | x :: xs, h => by
    rw [List.flatten_cons, List.length_append, h x (by simp), flat_length (fun r hr => h r (by grind))]
    grind

theorem all_notUn {ys : List (List W)} {s : Nat} (h : ys.all (fun r => r.length == s && r.all notUn) = true) : (∀ r ∈ ys, r.length = s) ∧ ys.flatten.all notUn = true := by
  grind

theorem drop_flat {s : Nat} : ∀ {rows : List (List W)} {n : Nat}, (∀ r ∈ rows, r.length = s) → (rows.drop n).flatten = rows.flatten.drop (n * s)
  | [], n, _ => by simp
  | x :: xs, 0, _ => by simp
  | x :: xs, n + 1, h => by
    have hx := h x (by simp)
    rw [List.drop_succ_cons, drop_flat (fun r hr => h r (by grind)), List.flatten_cons, List.drop_append, hx]
    grind [List.drop_of_length_le]

theorem take_flat {s : Nat} : ∀ {rows : List (List W)} {n : Nat}, (∀ r ∈ rows, r.length = s) → (rows.take n).flatten = rows.flatten.take (n * s)
  | [], n, _ => by simp
  | x :: xs, 0, _ => by simp
  | x :: xs, n + 1, h => by
    have hx := h x (by simp)
    rw [List.take_succ_cons, List.flatten_cons, take_flat (fun r hr => h r (by grind)), List.flatten_cons, List.take_append, hx]
    grind [List.take_of_length_le]

theorem take_grown {α : Type} (xs ns rest : List α) {k : Nat} (h : (xs ++ ns).length = k) : (xs ++ ns ++ rest).take k = xs ++ ns := by
  grind

theorem makes_appV (r : Rel C.gl N w0 ω0 S E L a w ω β) {t e : TypeId} {i : TypeInfo} {z : Value} {x y : Operand} (ho : o.op = .call { callee := .builtin .append, args := #[x, y], argTypes := #[t, t] })
    (ht : P.underlying t = some (.slice e)) (hi : P.info? e = some i) (hz : i.zero = some z) (hzs : z.cells.size = i.size) (hs : 0 < i.size) {u : Upd} {ys : List (List W)} (hrows : ∀ r ∈ ys, r.length = i.size) (hnu : ys.flatten.all notUn = true)
    {yb : Option Addr} {yc : Nat} (hyv : a.eval y = .slice yb ys.length yc) (hread : ys = [] ∨ ∃ A news, yb = some A ∧ RWlist w ω β L ys.flatten news ∧ news.length = ys.length * i.size ∧ ∀ (j : Nat) (u : Value), news[j]? = some u → w.cell? (A.add j) = some u)
    {k M n : Nat} (h1 : RV w ω β L (.sc (.vw k M 0 n)) (a.eval x))
    (h : (match L k with
      | some (.arr s' rows p) =>
        bif rows.length == M && s' == i.size && Nat.ble p n && Nat.ble n M && Nat.ble (n + ys.length) maxRows && Nat.ble ((n + ys.length) * i.bytes) maxBytes then
          some (V.sc (bif Nat.blt M (n + ys.length) then .arr k (n + ys.length) else .vw k M 0 (n + ys.length)), [(k, some (Obj.arr i.size (rows.take n ++ ys ++ rows.drop (n + ys.length)) p))])
        else none
      | _ => none) = some (v, u)) : Makes P C.gl N w0 ω0 S E L o a w v u := by
  split at h
  · rename_i s' rows p hL
    cases hb : (rows.length == M && s' == i.size && Nat.ble p n && Nat.ble n M && Nat.ble (n + ys.length) maxRows && Nat.ble ((n + ys.length) * i.bytes) maxBytes) with
    | false => rw [hb] at h; simp at h
    | true =>
      rw [hb] at h
      simp only [cond_true, Option.some.injEq, Prod.mk.injEq] at h
      obtain ⟨rfl, rfl⟩ := h
      simp only [Bool.and_eq_true, beq_iff_eq] at hb
      obtain ⟨⟨⟨⟨⟨hn, hs'⟩, hpn⟩, hnM⟩, hb1⟩, hb2⟩ := hb
      subst hs' hn
      have hpn := Nat.le_of_ble_eq_true hpn
      have hnM := Nat.le_of_ble_eq_true hnM
      have hb1' : n + ys.length ≤ 9223372036854775807 := Nat.le_of_ble_eq_true hb1
      have hb2' : (n + ys.length) * i.bytes ≤ 140737488355328 := Nat.le_of_ble_eq_true hb2
      obtain ⟨f1, f2, f3, f4⟩ := r.obj k _ hL
      simp only [RV, RV1, RW] at h1
      obtain ⟨s1, rows1, p1, e1, e2, _, e3⟩ := h1
      rw [hL] at e1
      cases e1
      have ev := e3 rfl (by omega)
      clear e3
      have hnewrows : ∀ r ∈ rows.take n ++ ys ++ rows.drop (n + ys.length), r.length = i.size := by
        intro r hr
        simp only [List.mem_append] at hr
        rcases hr with (hr | hr) | hr
        · exact f2 r (List.mem_of_mem_take hr)
        · exact hrows r hr
        · exact f2 r (List.mem_of_mem_drop hr)
      have hlen : (rows.take n ++ ys ++ rows.drop (n + ys.length)).length = max rows.length (n + ys.length) := by
        simp only [List.length_append, List.length_take, List.length_drop]
        omega
      have hflat : (rows.take n ++ ys ++ rows.drop (n + ys.length)).flatten = rows.flatten.take (n * i.size) ++ ys.flatten ++ rows.flatten.drop ((n + ys.length) * i.size) := by
        rw [List.flatten_append, List.flatten_append, take_flat f2, drop_flat f2]
      by_cases hy0 : ys = []
      · subst hy0
        have hblt : Nat.blt rows.length n = false := by
          cases hq : Nat.blt rows.length n with
          | false => rfl
          | true => have := Nat.le_of_ble_eq_true (show Nat.ble (rows.length + 1) n = true from hq); omega
        simp only [List.append_nil, List.length_nil, Nat.add_zero, List.take_append_drop, hblt, cond_false] at *
        obtain ⟨base, cap, hxv, hcap⟩ : ∃ base cap, a.eval x = .slice base n cap ∧ n ≤ cap := by
          rcases ev with ⟨g0, _, base, cap, g1, _⟩ | ⟨b, cap, cur, ty, g1, g2, g3, _⟩
          · exact ⟨base, cap, by rw [g1, g0], by omega⟩
          · exact ⟨_, _, g2, g3⟩
        have hrun := run_append_zero (P := P) (w := w) (ty := o.type) (yb := yb) (yc := yc) (base := base) ht hi hcap
        rw [← hxv, ← hyv] at hrun
        have eL : updO L k (some (.arr i.size rows p)) = L := by
          grind [updO_same, updO_ne]
        refine ⟨_, a.eval x, w, ω, β, run_call_append ho hrun, .inl rfl, ?_, ?_⟩
        · simp only [updL, eL]; exact r
        · simp only [updL, eL, RV, RV1, RW]
          exact ⟨_, _, _, hL, e2, ⟨_, _, _, hxv⟩, fun _ _ => ev⟩
      · have hm : 0 < ys.length := by cases ys with
          | nil => exact absurd rfl hy0
          | cons _ _ => simp
        rcases hread with hread | ⟨A, news, rfl, hnr, hnl, hnat⟩
        · exact absurd hread hy0
        have hone := hnr.oneCells hnu
        have growM : rows.length < n + ys.length → ∀ (olds : List Value) (cap : Nat), n ≤ cap → olds.length = n * i.size → RWlist w ω β L (rows.flatten.take (n * i.size)) olds →
            (Builtin.append_ #[t, t] o.type #[a.eval x, a.eval y]).run P w = .ok (.slice (some ⟨w.heap.size, 0, none⟩) (n + ys.length) (grownCap w (n + ys.length) cap e)) (w.drew.alloc (.cells (olds.toArray ++ news.toArray ++ Builtin.zeroCells z.cells (grownCap w (n + ys.length) cap e - (n + ys.length))) e)) →
            Makes P C.gl N w0 ω0 S E L o a w (.sc (bif Nat.blt rows.length (n + ys.length) then .arr k (n + ys.length) else .vw k rows.length 0 (n + ys.length))) [(k, some (.arr i.size (rows.take n ++ ys ++ rows.drop (n + ys.length)) p))] := by
          intro hlt olds cap _ hol hor hrun
          have hblt : Nat.blt rows.length (n + ys.length) = true := Nat.ble_eq_true_of_le (show rows.length + 1 ≤ n + ys.length from hlt)
          have hdrop : rows.drop (n + ys.length) = [] := List.drop_of_length_le (by omega)
          have hge := grownCap_ge w (n + ys.length) cap e
          have hcm := grownCap_le_maxLen w (n + ys.length) cap e hb1'
          have q1 : (olds.toArray ++ news.toArray ++ Builtin.zeroCells z.cells (grownCap w (n + ys.length) cap e - (n + ys.length))).size = grownCap w (n + ys.length) cap e * i.size := by
            simp only [Array.size_append, List.size_toArray, size_zeroCells, hzs, hol, hnl, ← Nat.add_mul]
            congr 1
            omega
          have q2 : (olds.toArray ++ news.toArray ++ Builtin.zeroCells z.cells (grownCap w (n + ys.length) cap e - (n + ys.length))).toList.take ((n + ys.length) * i.size) = olds ++ news := by
            simp only [Array.toList_append]
            rw [take_grown]
            rw [List.length_append, hol, hnl, Nat.add_mul]
          have rd : Rel C.gl N w0 ω0 S E L a w.drew ω β := r.heapEq rfl rfl rfl rfl
          rw [hdrop, List.append_nil] at hflat hlen hnewrows ⊢
          rw [hblt, cond_true]
          have hlen' : (rows.take n ++ ys).length = n + ys.length := by omega
          obtain ⟨r2, t2⟩ := rd.move (k := k) (s := i.size) (rows := rows) (rows' := rows.take n ++ ys) (p := p) (p' := p) hL (by omega) (olds.toArray ++ news.toArray ++ Builtin.zeroCells z.cells (grownCap w (n + ys.length) cap e - (n + ys.length))) e (p * i.size)
            (fun tr => ⟨f1, hnewrows, by omega, .inl ⟨w.heap.size, _, _, e, by simp [setN], heap_alloc_new w.drew _, q1, by omega, hcm, by
              rw [hlen', q2, List.flatten_append, take_flat f2]
              exact RWlist.step (Grows.alloc w.drew ω _ _) tr _ (hor.append hnr).drew, by simp [setN]⟩⟩)
          refine ⟨_, _, _, _, _, run_call_append ho hrun, .inl rfl, r2, ?_⟩
          simp only [updL, RV, RV1, RW]
          exact ⟨i.size, rows.take n ++ ys, p, updO_same _ _ _, by omega, ⟨_, _, _, rfl⟩, fun _ => .inl ⟨w.heap.size, _, _, e, by simp [setN], rfl, heap_alloc_new w.drew _, q1⟩⟩
        rcases ev with ⟨g0, g0', _⟩ | ⟨b, cap, cur, ty, g1, g2, g3, g4, g5, g6, g7⟩
        · -- no block yet
          obtain ⟨gn, base, gx⟩ := g0' rfl
          subst g0
          have hr0 : rows = [] := by
            rcases f4 with ⟨b', cap', cur', t', k2, _⟩ | ⟨_, k2⟩
            · rw [gn] at k2; cases k2
            · exact k2
          refine growM (by rw [hr0]; simpa using hm) [] 0 (Nat.le_refl _) (by simp) (by simp [RWlist]) ?_
          rw [gx, hyv]
          simp only [Nat.zero_add] at hb1' hb2' ⊢
          cases base with
          | none =>
            have := run_append_nil (P := P) w t o.type e i z ht hi hz A ys.length yc news hnl hnat hm (by omega) (by omega)
            simpa using this
          | some b =>
            have := run_append_grow (P := P) w t o.type e i z ht hi hz b 0 0 [] (by simp) (by simp) A ys.length yc news hnl hnat (by omega) (by omega) (growslice_fits (by omega) (by simpa using hb2'))
            simpa using this
        · rcases f4 with ⟨b', cap', cur', t', k2, k3, k4, k5, k6, k7, k8⟩ | ⟨k2, _⟩
          · rw [g1] at k2; cases k2; rw [g5] at k3; cases k3
            simp only [Nat.zero_add, Nat.zero_mul] at g2 g6
            have hcc : cap ≤ cap' := Nat.le_of_mul_le_mul_right (Nat.le_trans g6 (Nat.le_of_eq k4)) f1
            have g7 : cap = cap' ∨ cap = rows.length := by
              rcases g7 rfl with g7 | g7
              · exact .inl (Nat.eq_of_mul_eq_mul_right f1 (g7.trans k4))
              · exact .inr g7
            have hns : n * i.size ≤ rows.length * i.size := Nat.mul_le_mul_right _ hnM
            have hrs : rows.length * i.size ≤ cur.size := by rw [k4]; exact Nat.mul_le_mul_right _ k5
            have hmul : n * i.size + news.length = (n + ys.length) * i.size := by rw [hnl, Nat.add_mul]
            have hpsz : p * i.size ≤ n * i.size := Nat.mul_le_mul_right _ hpn
            by_cases hroom : n + ys.length ≤ cap
            · -- in place
              have hfit : n * i.size + news.length ≤ cur.size := by
                rw [hmul, k4]; exact Nat.mul_le_mul_right _ (Nat.le_trans hroom hcc)
              have hrun := run_append_room' (P := P) (ty := o.type) (c := yc) ht hi g5 hnl hnat hone hroom hfit
              rw [← g2, ← hyv] at hrun
              have htl : (cur.toList.take (n * i.size)).length = n * i.size := by
                rw [List.length_take, Array.length_toList]; omega
              have hpub : ∀ q, q < ω b → (cur.toList.take (n * i.size) ++ news ++ cur.toList.drop (n * i.size + news.length)).toArray[q]? = cur[q]? := by
                intro q hq
                rw [k8] at hq
                rw [List.getElem?_toArray, List.append_assoc, List.getElem?_append_left (by omega), List.getElem?_take]
                grind
              have hsize : (cur.toList.take (n * i.size) ++ news ++ cur.toList.drop (n * i.size + news.length)).length = cur.size := by
                simp only [List.length_append, htl, List.length_drop, Array.length_toList]; omega
              obtain ⟨r2, t2⟩ := r.write (o' := .arr i.size (rows.take n ++ ys ++ rows.drop (n + ys.length)) p) hL g1 cur (cur.toList.take (n * i.size) ++ news ++ cur.toList.drop (n * i.size + news.length)).toArray ty g5
                (by simpa using hsize) (p * i.size) (by omega) hpub ⟨rfl, by omega⟩
                (fun tr hh => by
                  refine ⟨f1, hnewrows, by omega, .inl ⟨b, cap', _, ty, g1, hh, by rw [List.size_toArray, hsize, k4], by omega, k6, ?_, by simp [setN]⟩⟩
                  have gr : Grows w ω (w.setRow b (cur.toList.take (n * i.size) ++ news ++ cur.toList.drop (n * i.size + news.length)).toArray) (setN ω b (p * i.size)) := ⟨fun b' q hq v hv => by
                    grind [at?_block, setN, at?_setRow_other]⟩
                  have hst := RWlist.step gr tr _ (((k7.take (n * i.size)).append hnr).append (k7.drop ((n + ys.length) * i.size)))
                  rw [hflat]
                  have eqn : (cur.toList.take (n * i.size) ++ news ++ cur.toList.drop (n * i.size + news.length)).toArray.toList.take ((rows.take n ++ ys ++ rows.drop (n + ys.length)).length * i.size) =
                      (cur.toList.take (rows.length * i.size)).take (n * i.size) ++ news ++ (cur.toList.take (rows.length * i.size)).drop ((n + ys.length) * i.size) := by
                    have hmx : max rows.length (n + ys.length) * i.size = max (rows.length * i.size) ((n + ys.length) * i.size) := by
                      rcases Nat.le_total rows.length (n + ys.length) with q | q
                      · rw [Nat.max_eq_right q, Nat.max_eq_right (Nat.mul_le_mul_right _ q)]
                      · rw [Nat.max_eq_left q, Nat.max_eq_left (Nat.mul_le_mul_right _ q)]
                    rw [hlen, hmx, ← hmul, List.append_assoc, List.append_assoc, List.take_append, List.take_append, htl]
                    rw [List.take_of_length_le (l := List.take (n * i.size) cur.toList) (by omega), List.take_of_length_le (l := news) (by omega), List.take_take, Nat.min_eq_left hns, List.drop_take]
                    congr 3
                    omega
                  rw [eqn]
                  exact hst)
              refine ⟨_, _, _, _, _, run_call_append ho hrun, .inl rfl, r2, ?_⟩
              cases hblt : Nat.blt rows.length (n + ys.length) with
              | true =>
                have hlt : rows.length < n + ys.length := Nat.le_of_ble_eq_true (show Nat.ble (rows.length + 1) (n + ys.length) = true from hblt)
                simp only [cond_true, updL, RV, RV1, RW]
                refine ⟨i.size, _, p, updO_same _ _ _, by omega, ⟨_, _, _, rfl⟩, fun _ => .inl ⟨b, cap, _, ty, g1, rfl, setRow_heap w b cur _ ty _ g5, ?_⟩⟩
                rw [List.size_toArray, hsize, k4]
                rcases g7 with g7 | g7
                · rw [g7]
                · omega
              | false =>
                have hge : n + ys.length ≤ rows.length := by
                  refine Nat.le_of_not_lt fun hlt => ?_
                  have : Nat.blt rows.length (n + ys.length) = true := Nat.ble_eq_true_of_le (show rows.length + 1 ≤ n + ys.length from hlt)
                  rw [this] at hblt
                  cases hblt
                simp only [cond_false, updL, RV, RV1, RW]
                refine ⟨i.size, _, p, updO_same _ _ _, by omega, ⟨_, _, _, rfl⟩, fun _ _ => .inr ⟨b, cap, _, ty, g1, by simp, hroom, g4, setRow_heap w b cur _ ty _ g5, ?_, fun _ => ?_⟩⟩
                · rw [List.size_toArray, hsize]; simpa using g6
                · rw [List.size_toArray, hsize, k4]
                  rcases g7 with g7 | g7
                  · exact .inl (by rw [g7])
                  · exact .inr g7
            · -- into a new block
              have hlt : rows.length < n + ys.length := by omega
              have holl : (cur.toList.take (n * i.size)).length = n * i.size := by
                rw [List.length_take, Array.length_toList]; omega
              have holds : ∀ j v, (cur.toList.take (n * i.size))[j]? = some v → w.cell? ((⟨b, 0, none⟩ : Addr).add j) = some v := by
                intro j q hq
                rw [addr_add]
                rw [List.getElem?_take] at hq
                split at hq
                · have := at?_block (i := j) g5
                  grind [at?]
                grind
              have hrun := run_append_grow (P := P) w t o.type e i z ht hi hz ⟨b, 0, none⟩ n cap _ holl holds A ys.length yc news hnl hnat (by omega) (by omega) (growslice_fits (by omega) hb2')
              rw [← g2, ← hyv] at hrun
              refine growM hlt _ cap g3 holl ?_ hrun
              have := k7.take (n * i.size)
              rw [List.take_take, Nat.min_eq_left hns] at this
              exact this
          · rw [g1] at k2; cases k2
  · cases h

theorem makes_app (r : Rel C.gl N w0 ω0 S E L a w ω β) {t e : TypeId} {i : TypeInfo} {z : Value} {x y : Operand} {x' y' : Opd} {oid : Nat} {mk : Bool} (ho : o.op = .call { callee := .builtin .append, args := #[x, y], argTypes := #[t, t] })
    (hx : mOpd x x' = true) (hy : mOpd y y' = true) (ht : P.underlying t = some (.slice e)) (hi : P.info? e = some i) (hz : i.zero = some z) (hzs : z.cells.size = i.size) (hs : 0 < i.size) {u : Upd}
    (h : exec1 C E L oid (.app i.size i.bytes mk x' y') = some (v, u)) : Makes P C.gl N w0 ω0 S E L o a w v u := by
  have h1 := mOpd_ok r hx
  have h2 := mOpd_ok r hy
  simp only [exec1] at h
  unfold append1 at h
  split at h
  · cases h
  · rename_i ys hys
    cases hall : ys.all (fun r => r.length == i.size && r.all notUn) with
    | false => rw [hall] at h; simp at h
    | true =>
      rw [hall] at h
      simp only [cond_true] at h
      obtain ⟨hrows, hnu⟩ := all_notUn hall
      obtain ⟨yb, yc, hyv, hread⟩ := rowsRead r h2 hys hrows
      -- what is common to a growing append
      have grown : ∀ (vs : List Value) (n : Nat) (news : List Value), vs.length = n * i.size → news.length = ys.length * i.size → ∀ (k : Nat), n + ys.length ≤ k →
          (vs.toArray ++ news.toArray ++ Builtin.zeroCells z.cells (k - (n + ys.length))).size = k * i.size ∧
          (vs.toArray ++ news.toArray ++ Builtin.zeroCells z.cells (k - (n + ys.length))).toList.take ((n + ys.length) * i.size) = vs ++ news := by
        intro vs n news hv hn k hk
        constructor
        · simp only [Array.size_append, List.size_toArray, size_zeroCells, hzs, hv, hn, ← Nat.add_mul]
          congr 1
          omega
        · simp only [Array.toList_append]
          rw [take_grown]
          rw [List.length_append, hv, hn, Nat.add_mul]
      split at h
      · rename_i k n hv
        rw [hv] at h1
        split at h
        · rename_i s' rows p hL
          cases hb : (rows.length == n && s' == i.size && Nat.ble (n + ys.length) maxRows && Nat.ble ((n + ys.length) * i.bytes) maxBytes) with
          | false => rw [hb] at h; simp at h
          | true =>
            rw [hb] at h
            simp only [cond_true, Option.some.injEq, Prod.mk.injEq] at h
            obtain ⟨rfl, rfl⟩ := h
            simp only [Bool.and_eq_true, beq_iff_eq] at hb
            obtain ⟨⟨⟨hn, hs'⟩, hb1⟩, hb2⟩ := hb
            subst hs' hn
            have hb1 := Nat.le_of_ble_eq_true hb1
            have hb2 := Nat.le_of_ble_eq_true hb2
            have hb1' : rows.length + ys.length ≤ 9223372036854775807 := hb1
            have hb2' : (rows.length + ys.length) * i.bytes ≤ 140737488355328 := hb2
            obtain ⟨f1, f2, f3, f4⟩ := r.obj k _ hL
            simp only [RV, RV1, RW] at h1
            obtain ⟨s1, rows1, p1, e1, e2, _, e3⟩ := h1
            rw [hL] at e1
            cases e1
            have hnewrows : ∀ r ∈ rows ++ ys, r.length = i.size := by
              grind
            have hflat : (rows ++ ys).flatten = rows.flatten ++ ys.flatten := by simp
            by_cases hy0 : ys = []
            · subst hy0
              simp only [List.append_nil, List.length_nil, Nat.add_zero] at *
              have hsl : ∃ base cap, a.eval x = .slice base rows.length cap ∧ rows.length ≤ cap := by
                rcases e3 trivial with ⟨b, cap, cur, ty, g1, g2, g3, g4⟩ | ⟨g1, g2, base, g3⟩ <;> grind [Nat.eq_of_mul_eq_mul_right]
              obtain ⟨base, cap, hxv, hcap⟩ := hsl
              have hrun := run_append_zero (P := P) (w := w) (ty := o.type) (yb := yb) (yc := yc) (base := base) ht hi hcap
              rw [← hxv, ← hyv] at hrun
              have eL : updO L k (some (.arr i.size rows p)) = L := by
                grind [updO_same, updO_ne]
              refine ⟨_, a.eval x, w, ω, β, run_call_append ho hrun, .inl rfl, ?_, ?_⟩
              grind [updL]
              · simp only [updL, eL, RV, RV1, RW]
                grind
            · have hm : 0 < ys.length := by grind
              rcases hread with hread | ⟨A, news, rfl, hnr, hnl, hnat⟩
              grind
              have hone := hnr.oneCells hnu
              rcases e3 rfl with ⟨b, cap, cur, ty, g1, g2, g3, g4⟩ | ⟨g1, g2, base, g3⟩
              · rcases f4 with ⟨b', cap', cur', t', k2, k3, k4, k5, k6, k7, k8⟩ | ⟨k2, _⟩
                · rw [g1] at k2; cases k2; rw [g3] at k3; cases k3
                  have hcc : cap = cap' := Nat.eq_of_mul_eq_mul_right f1 (g4.symm.trans k4)
                  subst hcc
                  by_cases hroom : rows.length + ys.length ≤ cap
                  · -- in place
                    have hfit : rows.length * i.size + news.length ≤ cur.size := by rw [hnl, g4, ← Nat.add_mul]; exact Nat.mul_le_mul_right _ hroom
                    have hrun := run_append_room' (P := P) (ty := o.type) (c := yc) ht hi g3 hnl hnat hone hroom hfit
                    rw [← g2, ← hyv] at hrun
                    have hpsz : p * i.size ≤ rows.length * i.size := Nat.mul_le_mul_right _ f3
                    have hpub : ∀ q, q < ω b → (cur.toList.take (rows.length * i.size) ++ news ++ cur.toList.drop (rows.length * i.size + news.length)).toArray[q]? = cur[q]? := by
                      intro q hq
                      rw [k8] at hq
                      have hlt : q < (cur.toList.take (rows.length * i.size)).length := by
                        grind
                      rw [List.getElem?_toArray, List.append_assoc, List.getElem?_append_left hlt, List.getElem?_take]
                      grind
                    obtain ⟨r2, t2⟩ := r.write (o' := .arr i.size (rows ++ ys) p) hL g1 cur (cur.toList.take (rows.length * i.size) ++ news ++ cur.toList.drop (rows.length * i.size + news.length)).toArray ty g3
                      (by simp only [List.size_toArray, List.length_append, List.length_take, List.length_drop, Array.length_toList]; omega) (p * i.size) (by omega) hpub ⟨rfl, by simp⟩
                      (fun tr hh => by
                        refine ⟨f1, hnewrows, by grind, .inl ⟨b, cap, _, ty, g1, hh, ?_, by grind, k6, ?_, by simp [setN]⟩⟩
                        grind [List.length_append, List.length_take]
                        · have gr : Grows w ω (w.setRow b (cur.toList.take (rows.length * i.size) ++ news ++ cur.toList.drop (rows.length * i.size + news.length)).toArray) (setN ω b (p * i.size)) := ⟨fun b' q hq v hv => by
                            grind [at?_block, setN, at?_setRow_other]⟩
                          have hst := RWlist.step gr tr _ (k7.append hnr)
                          grind [take_grown, List.length_append, List.length_take, Nat.add_mul])
                    refine ⟨_, _, _, _, _, run_call_append ho hrun, .inl rfl, r2, ?_⟩
                    simp only [updL, RV, RV1, RW]
                    refine ⟨i.size, rows ++ ys, p, updO_same _ _ _, by simp, ⟨_, _, _, rfl⟩, fun _ => .inl ⟨b, cap, _, ty, g1, rfl, setRow_heap w b cur _ ty _ g3, ?_⟩⟩
                    grind [List.length_append, List.length_take]
                  · -- into a new block
                    have holds : ∀ j v, (cur.toList.take (rows.length * i.size))[j]? = some v → w.cell? ((⟨b, 0, none⟩ : Addr).add j) = some v := by
                      intro j q hq
                      rw [addr_add]
                      rw [List.getElem?_take] at hq
                      split at hq
                      · have := at?_block (i := j) g3
                        grind [at?]
                      grind
                    have holl : (cur.toList.take (rows.length * i.size)).length = rows.length * i.size := by
                      simp_all
                    have hrun := run_append_grow (P := P) w t o.type e i z ht hi hz ⟨b, 0, none⟩ rows.length cap _ holl holds A ys.length yc news hnl hnat (by omega) (by omega) (growslice_fits (by omega) hb2')
                    rw [← g2, ← hyv] at hrun
                    have hge := grownCap_ge w (rows.length + ys.length) cap e
                    have hcm := grownCap_le_maxLen w (rows.length + ys.length) cap e hb1'
                    obtain ⟨q1, q2⟩ := grown _ rows.length news holl hnl _ hge
                    have rd : Rel C.gl N w0 ω0 S E L a w.drew ω β := r.heapEq rfl rfl rfl rfl
                    obtain ⟨r2, t2⟩ := rd.move (k := k) (s := i.size) (rows := rows) (rows' := rows ++ ys) (p := p) (p' := p) hL (by grind) ((cur.toList.take (rows.length * i.size)).toArray ++ news.toArray ++ Builtin.zeroCells z.cells (grownCap w (rows.length + ys.length) cap e - (rows.length + ys.length))) e (p * i.size)
                      (fun tr => ⟨f1, hnewrows, by grind, .inl ⟨w.heap.size, _, _, e, by simp [setN], heap_alloc_new w.drew _, q1, by grind, hcm, by
                        rw [hflat, List.length_append, q2]
                        exact RWlist.step (Grows.alloc w.drew ω _ _) tr _ (k7.append hnr).drew, by simp [setN]⟩⟩)
                    refine ⟨_, _, _, _, _, run_call_append ho hrun, .inl rfl, r2, ?_⟩
                    simp only [updL, RV, RV1, RW]
                    exact ⟨i.size, rows ++ ys, p, updO_same _ _ _, by simp, ⟨_, _, _, rfl⟩, fun _ => .inl ⟨w.heap.size, _, _, e, by simp [setN], rfl, heap_alloc_new w.drew _, q1⟩⟩
                · rw [g1] at k2; cases k2
              · -- no block yet
                have hr0 : rows = [] := List.eq_nil_of_length_eq_zero g2
                subst hr0
                simp only [List.length_nil, Nat.zero_add, List.nil_append] at *
                have hp0 : p = 0 := by omega
                subst hp0
                have hrun : (Builtin.append_ #[t, t] o.type #[.slice base 0 0, .slice (some A) ys.length yc]).run P w = .ok (.slice (some ⟨w.heap.size, 0, none⟩) ys.length (grownCap w ys.length 0 e)) (w.drew.alloc (.cells (news.toArray ++ Builtin.zeroCells z.cells (grownCap w ys.length 0 e - ys.length)) e)) := by
                  cases base with
                  | none => exact run_append_nil (P := P) w t o.type e i z ht hi hz A ys.length yc news hnl hnat hm (by omega) (by omega)
                  | some b =>
                    have := run_append_grow (P := P) w t o.type e i z ht hi hz b 0 0 [] (by simp) (by simp) A ys.length yc news hnl hnat (by omega) (by omega) (growslice_fits (by omega) (by simpa using hb2'))
                    simpa using this
                rw [← g3, ← hyv] at hrun
                have hge := grownCap_ge w ys.length 0 e
                have hcm := grownCap_le_maxLen w ys.length 0 e hb1'
                obtain ⟨q1, q2⟩ := grown [] 0 news (by simp) hnl _ (by simpa using hge)
                simp only [Nat.zero_add, List.nil_append, Array.empty_append] at q1 q2
                have rd : Rel C.gl N w0 ω0 S E L a w.drew ω β := r.heapEq rfl rfl rfl rfl
                obtain ⟨r2, t2⟩ := rd.move (k := k) (s := i.size) (rows := []) (rows' := ys) (p := 0) (p' := 0) hL (by simpa using hm) (news.toArray ++ Builtin.zeroCells z.cells (grownCap w ys.length 0 e - ys.length)) e 0
                  (fun tr => ⟨f1, hrows, Nat.zero_le _, .inl ⟨w.heap.size, _, _, e, by simp [setN], heap_alloc_new w.drew _, q1, hge, hcm, by
                    rw [q2]; exact RWlist.step (Grows.alloc w.drew ω _ _) tr _ hnr.drew, by simp [setN]⟩⟩)
                refine ⟨_, _, _, _, _, run_call_append ho hrun, .inl rfl, r2, ?_⟩
                simp only [updL, RV, RV1, RW]
                exact ⟨i.size, ys, 0, updO_same _ _ _, Nat.le_refl _, ⟨_, _, _, rfl⟩, fun _ => .inl ⟨w.heap.size, _, _, e, by simp [setN], rfl, heap_alloc_new w.drew _, q1⟩⟩
        · cases h
      · rename_i k M n hv
        rw [hv] at h1
        exact makes_appV r ho ht hi hz hzs hs hrows hnu hyv hread h1 h
      · split at h
        · cases h
        · rename_i rows0 hrows0
          split at h
          · cases h
          · rename_i hk
            cases hb : ((rows0.isEmpty || !ys.isEmpty) && rows0.all (fun r => r.length == i.size) && Nat.ble (rows0.length + ys.length) maxRows && Nat.ble ((rows0.length + ys.length) * i.bytes) maxBytes) with
            | false => rw [hb] at h; simp at h
            | true =>
              rw [hb] at h
              simp only [cond_true, Option.some.injEq, Prod.mk.injEq] at h
              obtain ⟨rfl, rfl⟩ := h
              simp only [Bool.and_eq_true, Bool.or_eq_true, Bool.not_eq_true', List.isEmpty_iff] at hb
              obtain ⟨⟨⟨hb0, hbr⟩, hb1⟩, hb2⟩ := hb
              have hb1 := Nat.le_of_ble_eq_true hb1
              have hb2 := Nat.le_of_ble_eq_true hb2
              have hb1' : rows0.length + ys.length ≤ 9223372036854775807 := hb1
              have hb2' : (rows0.length + ys.length) * i.bytes ≤ 140737488355328 := hb2
              have hr0 : ∀ r ∈ rows0, r.length = i.size := by
                intro r hr
                simpa using List.all_eq_true.1 hbr r hr
              have hr0' : ∀ r ∈ rows0.map (·.map W.c), r.length = i.size := by
                intro r hr
                obtain ⟨q, hq, rfl⟩ := List.mem_map.1 hr
                simpa using hr0 q hq
              -- the old value: exactly full
              obtain ⟨base, hxv, hold⟩ : ∃ base, a.eval x = .slice base rows0.length rows0.length ∧ (rows0 = [] ∨ ∃ A olds, base = some A ∧ RWlist w ω β L (rows0.map (·.map W.c)).flatten olds ∧ olds.length = rows0.length * i.size ∧ ∀ (j : Nat) (u : Value), olds[j]? = some u → w.cell? (A.add j) = some u) := by
                split at hrows0
                · rename_i hv
                  simp only [Option.some.injEq] at hrows0
                  subst hrows0
                  rw [hv] at h1
                  simp only [RV, RV1, RW] at h1
                  exact ⟨none, h1, .inl rfl⟩
                · rename_i rows hv
                  simp only [Option.some.injEq] at hrows0
                  subst hrows0
                  rw [hv] at h1
                  obtain ⟨b1, c1, g1, g2⟩ := rowsRead r h1 (ys := rows.map (·.map W.c)) (s := i.size) (by simp [rowsOf]) hr0'
                  simp only [RV, RV1, RW] at h1
                  obtain ⟨_, b2, n2, g3⟩ := h1
                  rw [g3] at g1
                  simp only [Value.slice.injEq, List.length_map] at g1
                  obtain ⟨rfl, rfl, _⟩ := g1
                  refine ⟨b2, g3, ?_⟩
                  rcases g2 with g2 | ⟨A, news, g2, g4, g5, g6⟩
                  · left; simpa using g2
                  · right; exact ⟨A, news, g2, g4, by simpa using g5, g6⟩
                · cases hrows0
              by_cases hy0 : ys = []
              · have hz0 : rows0 = [] := by
                  rcases hb0 with hb0 | hb0
                  · exact hb0
                  · rw [hy0] at hb0; simp at hb0
                subst hy0 hz0
                simp only [List.length_nil, Nat.add_zero, List.map_nil, List.nil_append] at *
                have hrun := run_append_zero (P := P) (w := w) (ty := o.type) (yb := yb) (yc := yc) (base := base) ht hi (Nat.le_refl 0)
                rw [← hxv, ← hyv] at hrun
                obtain ⟨r2, t2⟩ := r.newNil hk hs
                refine ⟨_, a.eval x, w, ω, _, run_call_append ho hrun, .inl rfl, r2, ?_⟩
                simp only [updL, RV, RV1, RW]
                exact ⟨i.size, [], 0, updO_same _ _ _, by simp, ⟨_, _, _, hxv⟩, fun _ => .inr ⟨by simp [setN], rfl, base, hxv⟩⟩
              · have hm : 0 < ys.length := by cases ys with
                  | nil => exact absurd rfl hy0
                  | cons _ _ => simp
                rcases hread with hread | ⟨A, news, rfl, hnr, hnl, hnat⟩
                · exact absurd hread hy0
                obtain ⟨olds, hor, hol, hrun⟩ : ∃ olds : List Value, RWlist w ω β L (rows0.map (·.map W.c)).flatten olds ∧ olds.length = rows0.length * i.size ∧
                    (Builtin.append_ #[t, t] o.type #[.slice base rows0.length rows0.length, .slice (some A) ys.length yc]).run P w = .ok (.slice (some ⟨w.heap.size, 0, none⟩) (rows0.length + ys.length) (grownCap w (rows0.length + ys.length) rows0.length e))
                      (w.drew.alloc (.cells (olds.toArray ++ news.toArray ++ Builtin.zeroCells z.cells (grownCap w (rows0.length + ys.length) rows0.length e - (rows0.length + ys.length))) e)) := by
                  rcases hold with rfl | ⟨B, olds, rfl, g1, g2, g3⟩
                  · refine ⟨[], by simp [RWlist], by simp, ?_⟩
                    simp only [List.length_nil, Nat.zero_add] at hb1' hb2' ⊢
                    cases base with
                    | none =>
                      have := run_append_nil (P := P) w t o.type e i z ht hi hz A ys.length yc news hnl hnat hm (by omega) (by omega)
                      simpa using this
                    | some b =>
                      have := run_append_grow (P := P) w t o.type e i z ht hi hz b 0 0 [] (by simp) (by simp) A ys.length yc news hnl hnat (by omega) (by omega) (growslice_fits (by omega) (by simpa using hb2'))
                      simpa using this
                  · exact ⟨olds, g1, g2, run_append_grow (P := P) w t o.type e i z ht hi hz B rows0.length rows0.length olds g2 g3 A ys.length yc news hnl hnat (by omega) (by omega) (growslice_fits (by omega) hb2')⟩
                rw [← hxv, ← hyv] at hrun
                have hge := grownCap_ge w (rows0.length + ys.length) rows0.length e
                have hcm := grownCap_le_maxLen w (rows0.length + ys.length) rows0.length e hb1'
                obtain ⟨q1, q2⟩ := grown olds rows0.length news hol hnl _ hge
                have rd : Rel C.gl N w0 ω0 S E L a w.drew ω β := r.heapEq rfl rfl rfl rfl
                have hlen : (rows0.map (·.map W.c) ++ ys).length = rows0.length + ys.length := by simp
                obtain ⟨ω', β', r2, h3⟩ := rd.newArr (rows := rows0.map (·.map W.c) ++ ys) (cap := grownCap w (rows0.length + ys.length) rows0.length e) hk hs (by
                    grind) (cs := olds.toArray ++ news.toArray ++ Builtin.zeroCells z.cells (grownCap w (rows0.length + ys.length) rows0.length e - (rows0.length + ys.length))) e q1 (by omega) hcm (by
                    rw [hlen, q2, List.flatten_append]
                    exact (hor.append hnr).drew)
                rw [hlen] at h3
                exact ⟨_, _, _, ω', β', run_call_append ho hrun, .inl rfl, r2, h3⟩


theorem run_copy {t u ty e : TypeId} {i : TypeInfo} (ht : P.underlying t = some (.slice e)) (hi : P.info? e = some i) {g dLen dCap : Nat} {cur : Array Value} {te : TypeId} (hg : w.heap[g]? = some (.cells cur te (0, 0)))
    {A : Addr} {m q c : Nat} {news : List Value} (hl : news.length = m * i.size) (hnews : ∀ (j : Nat) (u : Value), news[j]? = some u → w.cell? (A.add j) = some u) (h1 : ∀ u ∈ news, u.oneCell' = true)
    (hmin : Nat.min q dLen = m) (hfit : news.length ≤ cur.size) :
    (Builtin.copy_ #[t, u] ty #[.slice (some ⟨g, 0, none⟩) dLen dCap, .slice (some A) q c]).run P w =
      .ok (.int .i64 m) (w.setRow g (news ++ cur.toList.drop news.length).toArray) := by
  have hf := run_firstCells_some (P := P) w i.size m A q c news hl hnews
  have hst := run_storeCells_at P g 0 te news 0 cur w hg (by omega) h1
  simp only [Nat.add_zero, Nat.zero_add, List.take_zero, List.nil_append] at hst
  simp [Builtin.copy_, run_underlying ht, sizeOf, typeInfo, hi, Builtin.lenOf, hmin, hf, hst, goInt]

theorem run_copy_zero {t u ty e : TypeId} {i : TypeInfo} (ht : P.underlying t = some (.slice e)) (hi : P.info? e = some i) {base yb : Option Addr} {n cap q yc : Nat} (hmin : Nat.min q n = 0) :
    (Builtin.copy_ #[t, u] ty #[.slice base n cap, .slice yb q yc]).run P w = .ok (.int .i64 0) w := by
  have hf : (Builtin.firstCells i.size 0 (.slice yb q yc)).run P w = .ok #[] w := by
    cases yb with
    | none => rfl
    | some b =>
      have := run_loadCells_list (P := P) w b [] (by simp)
      grind [Builtin.firstCells]
  cases base <;> simp [Builtin.copy_, run_underlying ht, sizeOf, typeInfo, hi, Builtin.lenOf, hmin, hf, storeCells, goInt]

theorem run_call_copy {t u : TypeId} {x y : Operand} (ho : o.op = .call { callee := .builtin .copy, args := #[x, y], argTypes := #[t, u] }) {vv : Value} {w' : World}
    (h : (Builtin.copy_ #[t, u] o.type #[a.eval x, a.eval y]).run P w = .ok vv w') : (execOp a.eval o).run P w = .ok (.value vv) w' := by
  unfold execOp
  simp only [ho, resolve, invoke, builtin, Sem.run_bind, Sem.run_pure, Result.andThen_ok, List.map_toArray, List.map_cons, List.map_nil, h]

theorem makes_cp (r : Rel C.gl N w0 ω0 S E L a w ω β) {t e : TypeId} {i : TypeInfo} {x y : Operand} {x' y' : Opd} {oid : Nat} (ho : o.op = .call { callee := .builtin .copy, args := #[x, y], argTypes := #[t, t] })
    (hx : mOpd x x' = true) (hy : mOpd y y' = true) (ht : P.underlying t = some (.slice e)) (hi : P.info? e = some i) {u : Upd}
    (h : exec1 C E L oid (.cp i.size x' y') = some (v, u)) : Makes P C.gl N w0 ω0 S E L o a w v u := by
  have h1 := mOpd_ok r hx
  have h2 := mOpd_ok r hy
  simp only [exec1] at h
  unfold copy1 at h
  split at h
  grind
  · rename_i ys hys
    cases hall : ys.all (fun r => r.length == i.size && r.all notUn) with
    | false => grind
    | true =>
      rw [hall] at h
      simp only [cond_true] at h
      obtain ⟨hrows, hnu⟩ := all_notUn hall
      obtain ⟨yb, yc, hyv, hread⟩ := rowsRead r h2 hys hrows
      split at h
      · rename_i k n hv
        rw [hv] at h1
        split at h
        · rename_i s' rows p hL
          cases hb : (rows.length == n && s' == i.size && p == 0) with
          | false => grind
          | true =>
            rw [hb] at h
            simp only [cond_true, Option.some.injEq, Prod.mk.injEq] at h
            obtain ⟨rfl, rfl⟩ := h
            simp only [Bool.and_eq_true, beq_iff_eq] at hb
            obtain ⟨⟨hn, hs'⟩, hp⟩ := hb
            subst hs' hn hp
            obtain ⟨f1, f2, f3, f4⟩ := r.obj k _ hL
            have hmin : Nat.min ys.length rows.length = (ys.take rows.length).length := by grind
            have hb1 : (ys.take rows.length).length ≤ rows.length := by grind
            have hread' : ys.take rows.length = [] ∨ ∃ A news, yb = some A ∧ RWlist w ω β L (ys.take rows.length).flatten news ∧ news.length = (ys.take rows.length).length * i.size ∧ ∀ (j : Nat) (u : Value), news[j]? = some u → w.cell? (A.add j) = some u := by
              rcases hread with h0 | ⟨A, news, h1, h2, h3, h4⟩
              grind
              · refine .inr ⟨A, news.take (rows.length * i.size), h1, ?_, ?_, fun j u hj => h4 j u ?_⟩
                · have := h2.take (rows.length * i.size)
                  grind [take_flat]
                simp_all
                grind
            have hall' : (ys.take rows.length).all (fun r => r.length == i.size && r.all notUn) = true := List.all_eq_true.2 fun r hr => List.all_eq_true.1 hall r (List.mem_of_mem_take hr)
            obtain ⟨hrows', hnu'⟩ := all_notUn hall'
            clear hread hrows hnu hall hall'
            generalize hQ : ys.length = Q at hyv hmin
            generalize ys.take rows.length = ys at *
            have hread := hread'
            have hrows := hrows'
            have hnu := hnu'
            simp only [RV, RV1, RW] at h1
            obtain ⟨s1, rows1, p1, e1, e2, _, e3⟩ := h1
            rw [hL] at e1
            cases e1
            by_cases hy0 : ys = []
            · subst hy0
              have hsl : ∃ base cap, a.eval x = .slice base rows.length cap := by
                rcases e3 rfl with ⟨b, cap, cur, ty, g1, g2, g3, g4⟩ | ⟨g1, g2, base, g3⟩ <;> grind
              obtain ⟨base, cap, hxv⟩ := hsl
              have hrun := run_copy_zero (P := P) (w := w) (u := t) (ty := o.type) (yb := yb) (yc := yc) (base := base) (n := rows.length) (cap := cap) ht hi (by simpa using hmin)
              rw [← hxv, ← hyv] at hrun
              refine ⟨_, _, w, ω, β, run_call_copy ho hrun, .inl rfl, ?_, ?_⟩ <;> grind [updL, RV, RV1, RW, RD]
            · have hm : 0 < ys.length := by grind
              have hemp : ys.isEmpty = false := by grind
              rcases hread with hread | ⟨A, news, rfl, hnr, hnl, hnat⟩
              grind
              have hone := hnr.oneCells hnu
              rcases e3 rfl with ⟨b, cap, cur, ty, g1, g2, g3, g4⟩ | ⟨g1, g2, base, g3⟩
              · rcases f4 with ⟨b', cap', cur', t', k2, k3, k4, k5, k6, k7, k8⟩ | ⟨k2, _⟩
                · rw [g1] at k2; cases k2; rw [g3] at k3; cases k3
                  have hcc : cap = cap' := Nat.eq_of_mul_eq_mul_right f1 (g4.symm.trans k4)
                  subst hcc
                  have hfit : news.length ≤ cur.size := by rw [hnl, g4]; exact Nat.mul_le_mul_right _ (by omega)
                  have hrun := run_copy (P := P) (u := t) (ty := o.type) (c := yc) (dCap := cap) ht hi g3 hnl hnat hone hmin hfit
                  rw [← g2, ← hyv] at hrun
                  have hnewrows : ∀ r ∈ ys ++ rows.drop ys.length, r.length = i.size := by
                    grind
                  have hlen : (ys ++ rows.drop ys.length).length = rows.length := by grind
                  obtain ⟨r2, t2⟩ := r.write (o' := .arr i.size (ys ++ rows.drop ys.length) 0) hL g1 cur (news ++ cur.toList.drop news.length).toArray ty g3
                    (by grind) 0 (by omega) (fun q hq => by omega) ⟨rfl, by omega⟩
                    (fun tr hh => by
                      refine ⟨f1, hnewrows, Nat.zero_le _, .inl ⟨b, cap, _, ty, g1, hh, ?_, by omega, k6, ?_, by simp [setN]⟩⟩
                      grind
                      · have gr : Grows w ω (w.setRow b (news ++ cur.toList.drop news.length).toArray) (setN ω b 0) := ⟨fun b' q hq v hv => by
                          grind [at?_setRow_other, setN]⟩
                        have hflat : (ys ++ rows.drop ys.length).flatten = ys.flatten ++ (rows.flatten).drop news.length := by
                          grind [drop_flat]
                        have k7' : RWlist w ω β L (rows.flatten.drop news.length) ((cur.toList.take (rows.length * i.size)).drop news.length) := k7.drop _
                        have hst := RWlist.step gr tr _ (hnr.append k7')
                        grind [Nat.mul_le_mul_right, List.take_append, List.take_of_length_le, List.drop_take])
                  rw [hemp]
                  simp only [cond_false]
                  refine ⟨_, _, _, _, _, run_call_copy ho hrun, .inl rfl, r2, ?_⟩
                  rfl
                grind
              omega
        grind
      grind


theorem run_clear {t e ty : TypeId} {i : TypeInfo} {z : Value} (ht : P.underlying t = some (.slice e)) (hi : P.info? e = some i) (hz : i.zero = some z) (hzs : z.cells.size = i.size) (hs : 0 < i.size) {g lo n cap : Nat} {cur : Array Value} {te : TypeId} (hg : w.heap[g]? = some (.cells cur te (0, 0)))
    (hn : 0 < n) (hfit : (lo + n) * i.size ≤ cur.size) (h1 : ∀ u ∈ z.cells.toList, u.oneCell' = true) :
    (Builtin.clear_ #[t] ty #[.slice (some ⟨g, lo * i.size, none⟩) n cap]).run P w =
      .ok (.tuple #[]) (w.setRow g (cur.toList.take (lo * i.size) ++ (List.replicate n z.cells.toList).flatten ++ cur.toList.drop (lo * i.size + n * i.size)).toArray) := by
  have hzc : (Builtin.zeroCells z.cells n).toList = (List.replicate n z.cells.toList).flatten := replicate_cells z.cells (by omega) n
  have hlen : ((List.replicate n z.cells.toList).flatten).length = n * i.size := by simp_all
  have hst := run_storeCells_at P g (lo * i.size) te (List.replicate n z.cells.toList).flatten 0 cur w hg (by grind) (fun u hu => by
    grind [List.mem_flatten])
  simp only [Nat.add_zero, hlen] at hst
  obtain ⟨m, rfl⟩ : ∃ m, n = m + 1 := ⟨n - 1, by omega⟩
  simp [Builtin.clear_, run_underlying ht, zeroValue, typeInfo, hi, hz, hzc, hst]

theorem run_call_clear {t : TypeId} {x : Operand} (ho : o.op = .call { callee := .builtin .clear, args := #[x], argTypes := #[t] }) {vv : Value} {w' : World}
    (h : (Builtin.clear_ #[t] o.type #[a.eval x]).run P w = .ok vv w') : (execOp a.eval o).run P w = .ok (.value vv) w' := by
  unfold execOp
  simp only [ho, resolve, invoke, builtin, Sem.run_bind, Sem.run_pure, Result.andThen_ok, List.map_toArray, List.map_cons, List.map_nil, h]

theorem makes_clr (r : Rel C.gl N w0 ω0 S E L a w ω β) {t e : TypeId} {i : TypeInfo} {z : Value} {zero : List W} {x : Operand} {x' : Opd} {oid : Nat} (ho : o.op = .call { callee := .builtin .clear, args := #[x], argTypes := #[t] })
    (hx : mOpd x x' = true) (ht : P.underlying t = some (.slice e)) (hi : P.info? e = some i) (hz : i.zero = some z) (hc : cvList z.cells.toList zero = true) (hzs : z.cells.size = i.size) (hs : 0 < i.size) {u : Upd}
    (h : exec1 C E L oid (.clr i.size zero x') = some (v, u)) : Makes P C.gl N w0 ω0 S E L o a w v u := by
  have h1 := mOpd_ok r hx
  simp only [exec1] at h
  split at h
  · rename_i k M lo n hv
    rw [hv] at h1
    split at h
    · rename_i s' rows p hL
      cases hb : (rows.length == M && s' == i.size && zero.length == i.size && zero.all notUn && Nat.ble (lo + n) M && Nat.ble p lo && Nat.blt 0 n) with
      | false => grind
      | true =>
        rw [hb] at h
        simp only [cond_true, Option.some.injEq, Prod.mk.injEq] at h
        obtain ⟨rfl, rfl⟩ := h
        simp only [Bool.and_eq_true, beq_iff_eq] at hb
        obtain ⟨⟨⟨⟨⟨⟨hn, hs'⟩, hzl⟩, hnu⟩, hb1⟩, hb2⟩, hb3⟩ := hb
        subst hs' hn
        have hb1 := Nat.le_of_ble_eq_true hb1
        have hb2 := Nat.le_of_ble_eq_true hb2
        have hb3 : 0 < n := Nat.le_of_ble_eq_true (show Nat.ble (0 + 1) n = true from hb3)
        obtain ⟨f1, f2, f3, f4⟩ := r.obj k _ hL
        simp only [RV, RV1, RW] at h1
        obtain ⟨s1, rows1, p1, e1, e2, _, e3⟩ := h1
        rw [hL] at e1
        cases e1
        rcases e3 rfl hb1 with ⟨h0, _⟩ | ⟨b, cap, cur, ty, g1, g2, g3, g4, g5, g6⟩
        omega
        · rcases f4 with ⟨b', cap', cur', t', k2, k3, k4, k5, k6, k7, k8⟩ | ⟨k2, _⟩
          · rw [g1] at k2; cases k2; rw [g5] at k3; cases k3
            have hle : rows.length * i.size ≤ cur.size := by rw [k4]; exact Nat.mul_le_mul_right _ k5
            have hle2 : (lo + n) * i.size ≤ rows.length * i.size := Nat.mul_le_mul_right _ hb1
            have hlo : lo * i.size + n * i.size = (lo + n) * i.size := (Nat.add_mul lo n i.size).symm
            have hone := (cvList_ok (w := w) (ω := ω) (β := β) (L := L) hc).oneCells hnu
            have hrun := run_clear (P := P) (ty := o.type) (cap := cap) ht hi hz hzs hs g5 hb3 (Nat.le_trans hle2 hle) hone
            rw [← g2] at hrun
            have hflen : ((List.replicate n z.cells.toList).flatten).length = n * i.size := by simp_all
            have hnewrows : ∀ r ∈ rows.take lo ++ List.replicate n zero ++ rows.drop (lo + n), r.length = i.size := by
              grind
            have hlen : (rows.take lo ++ List.replicate n zero ++ rows.drop (lo + n)).length = rows.length := by grind
            have hsize : (cur.toList.take (lo * i.size) ++ (List.replicate n z.cells.toList).flatten ++ cur.toList.drop (lo * i.size + n * i.size)).length = cur.size := by
              grind
            obtain ⟨r2, t2⟩ := r.write (o' := .arr i.size (rows.take lo ++ List.replicate n zero ++ rows.drop (lo + n)) p) hL g1 cur (cur.toList.take (lo * i.size) ++ (List.replicate n z.cells.toList).flatten ++ cur.toList.drop (lo * i.size + n * i.size)).toArray ty g5
              (by omega) (p * i.size) (by omega) (fun q hq => by
                rw [k8] at hq
                have : p * i.size ≤ lo * i.size := Nat.mul_le_mul_right _ hb2
                grind) ⟨rfl, by omega⟩
              (fun tr hh => by
                refine ⟨f1, hnewrows, by omega, .inl ⟨b, cap', _, ty, g1, hh, ?_, by omega, k6, ?_, by simp [setN]⟩⟩
                grind
                · have gr : Grows w ω (w.setRow b (cur.toList.take (lo * i.size) ++ (List.replicate n z.cells.toList).flatten ++ cur.toList.drop (lo * i.size + n * i.size)).toArray) (setN ω b (p * i.size)) := ⟨fun b' q hq v hv => by
                    by_cases hb' : b' = b
                    · subst hb'
                      rw [k8] at hq
                      have hpl : p * i.size ≤ lo * i.size := Nat.mul_le_mul_right _ hb2
                      refine ⟨?_, by simp [setN]; omega⟩
                      rw [at?_block hh, ← Array.getElem?_toList, List.append_assoc, List.getElem?_append_left (by grind), List.getElem?_take, if_pos (by omega), Array.getElem?_toList, ← at?_block g5]
                      omega
                    grind [at?_setRow_other, setN]⟩
                  have hflat : (rows.take lo ++ List.replicate n zero ++ rows.drop (lo + n)).flatten = rows.flatten.take (lo * i.size) ++ ((List.replicate n zero).flatten ++ rows.flatten.drop ((lo + n) * i.size)) := by
                    grind [take_flat, drop_flat]
                  have kA := k7.take (lo * i.size)
                  have kB := k7.drop ((lo + n) * i.size)
                  have hst := RWlist.step gr tr _ (kA.append ((RWlist.flatReplicate (cvList_ok hc) n).append kB))
                  rw [hflat]
                  have e : (cur.toList.take (lo * i.size) ++ (List.replicate n z.cells.toList).flatten ++ cur.toList.drop (lo * i.size + n * i.size)).toArray.toList.take ((rows.take lo ++ List.replicate n zero ++ rows.drop (lo + n)).length * i.size) =
                      (cur.toList.take (rows.length * i.size)).take (lo * i.size) ++ ((List.replicate n z.cells.toList).flatten ++ (cur.toList.take (rows.length * i.size)).drop ((lo + n) * i.size)) := by
                    rw [hlen, hlo, List.toList_toArray, List.append_assoc, List.take_append, List.take_append]
                    simp only [List.length_take, Array.length_toList, hflen, List.take_take, List.drop_take]
                    grind [List.take_of_length_le]
                  grind)
            refine ⟨_, _, _, _, _, run_call_clear ho hrun, .inl rfl, r2, ?_⟩
            simp [updL, RV, RV1, RW]
          grind
    grind
  grind

theorem RDrows_bytes {b : Nat} : ∀ {l : List UInt8} {o : Nat}, (∀ j x, l[j]? = some x → at? w b (o + j) = some (.int .u8 x.toNat) ∧ o + j < ω b) → RDrows w ω b 1 o (l.map fun x => [Cell.int .u8 x.toNat])
  | [], _, _ => by simp [RDrows]
  | x :: l, o, h => by
    simp only [List.map_cons, RDrows, List.length_singleton, RDcells, and_true, true_and]
    obtain ⟨h1, h2⟩ := h 0 x rfl
    refine ⟨⟨by omega, _, by simpa using h1, by rfl⟩, RDrows_bytes fun j y hj => ?_⟩
    have := h (j + 1) y (by grind)
    grind

theorem makes_cvB (r : Rel C.gl N w0 ω0 S E L a w ω β) {src dst e : TypeId} {x : Operand} {x' : Opd} {oid : Nat} (ho : o.op = .convert src dst x) (hx : mOpd x x' = true) (hs : (P.underlying src).isSome = true) (hd : P.underlying dst = some (.slice e)) (he : P.underlying e = some (.int .u8)) {u : Upd}
    (h : exec1 C E L oid (.cvB x') = some (v, u)) : Makes P C.gl N w0 ω0 S E L o a w v u := by
  have h1 := mOpd_ok r hx
  simp only [exec1] at h
  split at h
  · rename_i s hv
    cases hb : Nat.ble s.length maxRows with
    | false => grind
    | true =>
      rw [hb] at h
      simp only [cond_true, Option.some.injEq, Prod.mk.injEq] at h
      obtain ⟨rfl, rfl⟩ := h
      have hb := Nat.le_of_ble_eq_true hb
      rw [hv] at h1
      simp only [RV, RV1, RW, RD] at h1
      obtain ⟨arr, h1, rfl⟩ := h1
      have hlen : arr.data.toList.length = arr.size := by rfl
      obtain ⟨us, hs⟩ := Option.isSome_iff_exists.1 hs
      have hrun := Lib.run_convert_string_bytes (P := P) w src dst e arr hs hd he
      rw [← h1] at hrun
      have hcm := grownCap_le_maxLen w arr.size 0 e (by rw [← hlen]; exact hb)
      have hge := grownCap_ge w arr.size 0 e
      have hfree : ∀ b, b < w.heap.size → b ≠ w.heap.size := fun b hb e => by omega
      have gg : Grows w ω (Lib.bytesWorld w e arr) (setN ω w.heap.size arr.size) := ⟨fun b i hi q hq => by
        have hblt : b < w.heap.size := block_lt_of_cell hq
        refine ⟨?_, by simp only [setN, if_neg (hfree b hblt)]; exact hi⟩
        simpa [at?, World.cell?, Lib.bytesWorld_at_old w e arr b hblt] using hq⟩
      have hr := (r.step (fun _ => False) (w' := Lib.bytesWorld w e arr) (ω' := setN ω w.heap.size arr.size) (β' := β) (L' := L) gg (by grind [Lib.bytesWorld_size])
        (by rfl) (by rfl) (by rfl)
        (fun b hb _ => ⟨Lib.bytesWorld_at_old w e arr b hb, by grind [setN]⟩) (fun k _ => ⟨rfl, fun _ => rfl⟩) (fun _ h => h.elim) (fun _ _ h => h.elim) (fun _ h => h.elim) (fun _ _ _ h => h.elim)).1
      refine ⟨_, .slice (some ⟨w.heap.size, 0, none⟩) arr.size (grownCap w arr.size 0 e), _, _, β, by simp only [execOp, ho, Sem.run_bind, hrun, Result.andThen_ok, Sem.run_pure], .inl rfl, hr, ?_⟩
      simp only [updL, RV, RV1, RW, RD]
      refine ⟨some ⟨w.heap.size, 0, none⟩, _, by simp, by grind, hcm, .inr ⟨w.heap.size, 0, 1, rfl, Nat.one_pos, RDrows_bytes fun j y hj => ?_⟩⟩
      grind [setN, Lib.bytesWorld_cell, at?]
  grind

/-- A new array variable. -/
theorem makes_newA (r : Rel C.gl N w0 ω0 S E L a w ω β) {t : TypeId} {i : TypeInfo} {z : Value} {zero : List W} {n oid : Nat} (ho : o.op = .alloc t) (hi : P.info? t = some i) (hz : i.zero = some z)
    (hc : cvList z.cells.toList (List.replicate n zero).flatten = true) (hs : 0 < zero.length) {u : Upd} (h : exec1 C E L oid (.newA n zero) = some (v, u)) : Makes P C.gl N w0 ω0 S E L o a w v u := by
  simp only [exec1] at h
  split at h
  grind
  · rename_i hk
    cases hb : Nat.ble n maxRows with
    | false => grind
    | true =>
      rw [hb] at h
      simp only [cond_true, Option.some.injEq, Prod.mk.injEq] at h
      obtain ⟨rfl, rfl⟩ := h
      have hb := Nat.le_of_ble_eq_true hb
      have hcells := cvList_ok (w := w) (ω := ω) (β := β) (L := L) hc
      have hfl : (List.replicate n zero).flatten.length = n * zero.length := by simp
      have hsz : z.cells.size = n * zero.length := by
        have := hcells.length
        grind
      obtain ⟨ω', β', r2, h2⟩ := r.newArr (cap := n) (rows := List.replicate n zero) hk hs (fun q hq => by grind) (cs := z.cells) t hsz (by simp) hb (by
        grind [List.take_of_length_le])
      refine ⟨.value (.pointer (some ⟨w.heap.size, 0, none⟩)), .pointer (some ⟨w.heap.size, 0, none⟩), w.alloc (.cells z.cells t), ω', β', ?_, .inl rfl, r2, ?_⟩
      · simp only [execOp, ho, Instr.alloc, Sem.run_bind, zeroValue, typeInfo, run_program, Result.andThen_ok, hi, Sem.run_pure, hz, newVar_run]
      · simp only [RV, RV1, RW] at h2 ⊢
        obtain ⟨s', rows', p', e1, e2, _, e3⟩ := h2
        have e4 := e1
        rw [updO_same] at e4
        cases e4
        refine ⟨_, _, _, e1, by simp, ⟨_, rfl⟩, fun _ hn => ?_⟩
        rcases e3 rfl with ⟨b, cap, cur, ty, g1, g2, _⟩ | ⟨_, g2, _⟩ <;> grind

/-- A part of an array variable. -/
theorem gives_slA (r : Rel C.gl N w0 ω0 S E L a w ω β) {x : Operand} {x' : Opd} {t e : TypeId} {i : TypeInfo} {n oid : Nat} {lo hi : Option Operand} {lo' hi' : Option Opd} (ho : o.op = .slice t x lo hi none) (hx : mOpd x x' = true)
    (hlo : mOpt lo lo' = true) (hhi : mOpt hi hi' = true) (ht : P.underlying t = some (.array n e)) (hi0 : P.info? e = some i) {u : Upd}
    (h : exec1 C E L oid (.slA i.size n x' lo' hi') = some (v, u)) : u = [] ∧ Gives P o a w ω β L v := by
  have h1 := mOpd_ok r hx
  simp only [exec1] at h
  split at h
  · rename_i k N j off hv
    rw [hv] at h1
    split at h
    · rename_i s' rows p hL
      split at h
      grind
      · rename_i hh hhh
        split at h
        grind
        · rename_i l hl
          cases hb : (N == n && j == 0 && off == 0 && rows.length == N && s' == i.size && Nat.blt 0 N) with
          | false => grind
          | true =>
            rw [hb] at h
            simp only [cond_true, Option.some.injEq, Prod.mk.injEq] at h
            obtain ⟨rfl, rfl⟩ := h
            simp only [Bool.and_eq_true, beq_iff_eq] at hb
            obtain ⟨⟨⟨⟨⟨rfl, rfl⟩, rfl⟩, hn⟩, rfl⟩, hpos⟩ := hb
            have hpos : 0 < N := Nat.le_of_ble_eq_true (show Nat.ble (0 + 1) N = true from hpos)
            obtain ⟨b3, b4⟩ := boundOr_ok r hhi hhh
            obtain ⟨b5, b6⟩ := boundOr_ok r hlo hl
            obtain ⟨f1, f2, f3, f4⟩ := r.obj k _ hL
            simp only [RV, RV1, RW] at h1
            obtain ⟨s1, rows1, p1, e1, e2, _, e3⟩ := h1
            rw [hL] at e1
            cases e1
            obtain ⟨b, g1, g2⟩ := e3 hn.symm hpos
            rcases f4 with ⟨b', cap', cur', t', k2, k3, k4, k5, k6, k7, k8⟩ | ⟨k2, _⟩
            · rw [g1] at k2
              cases k2
              have hbd := sliceBounds_run (P := P) (w := w) (isS := false) (len := N) (cap := N) (l := l) (h := hh) (m := N) (mx := none) (.inl ⟨rfl, rfl⟩) (Nat.le_refl _) b3 (Nat.le_refl _) b5 (Nat.le_refl _) (by simp)
              have hg2 : a.eval x = .pointer (some ⟨b, 0, none⟩) := by grind
              refine ⟨rfl, .slice (some (if N = l then ⟨b, 0, none⟩ else (Addr.add ⟨b, 0, none⟩ (l * i.size)))) (hh - l) (N - l), ?_, ?_⟩
              · simp only [execOp, ho, hg2, Sem.run_bind, Instr.sliceAt, run_underlying ht, Result.andThen_ok, hbd, run_sizeOf' hi0, Sem.run_pure, Instr.sureAddr, Option.map_none]
              · simp only [RV, RV1, RW]
                refine ⟨i.size, rows, p, hL, by omega, ⟨_, _, _, rfl⟩, fun _ _ => ?_⟩
                by_cases hz : hh = l ∧ l ≠ 0
                · left
                  exact ⟨by omega, fun e => absurd e hz.2, _, N - l, by rw [show hh - l = 0 from by omega], by omega⟩
                · right
                  refine ⟨b, N - l, cur', t', g1, ?_, by omega, by omega, k3, ?_, fun e => .inr (by omega)⟩
                  grind [addr_add]
                  · rw [k4, show l + (N - l) = N from by omega]
                    exact Nat.mul_le_mul_right _ (by omega)
            grind
    grind
  grind

theorem listM_each {α γ : Type} {f : α → Option γ} : ∀ {l : List α} {r : List γ}, listM f l = some r → ∀ x ∈ l, ∃ y, f x = some y
  | [], _, _, x, hx => by grind
  | a :: l, r, h, x, hx => by
    simp only [listM] at h
    split at h
    grind
    · rename_i q hq
      split at h
      grind
      · rename_i qs hqs
        rcases List.mem_cons.1 hx with rfl | hx
        grind
        · exact listM_each hqs x hx

theorem byteRows_read : ∀ {l : List UInt8} {ys : List (List W)} {news : List Value}, listM byteRow ys = some l → RWlist w ω β L ys.flatten news → ys.length = l.length ∧ news = l.map (fun x => Value.int .u8 (x.toNat : Int))
  | l, [], news, h, hr => by
    grind [listM, RWlist]
  | l, y :: ys, news, h, hr => by
    simp only [listM] at h
    split at h
    grind
    · rename_i q hq
      split at h
      grind
      · rename_i qs hqs
        cases h
        unfold byteRow at hq
        split at hq
        · rename_i m
          cases hb : (decide (0 ≤ m) && decide (m < 256)) with
          | false => grind
          | true =>
            rw [hb] at hq
            simp only [cond_true, Option.some.injEq] at hq
            subst hq
            simp only [Bool.and_eq_true, decide_eq_true_eq] at hb
            cases news with
            | nil => simp [RWlist] at hr
            | cons u us =>
              simp only [List.flatten_cons, List.cons_append, List.nil_append, RWlist, RW, RD] at hr
              obtain ⟨h1, h2⟩ := byteRows_read (ys := ys) hqs hr.2
              grind [UInt8.toNat_ofNat']
        grind

/-- Bytes as a string. -/
theorem gives_cvS (r : Rel C.gl N w0 ω0 S E L a w ω β) {src dst e : TypeId} {x : Operand} {x' : Opd} {oid : Nat} (ho : o.op = .convert src dst x) (hx : mOpd x x' = true) (hs : P.underlying src = some (.slice e)) (he : P.underlying e = some (.int .u8)) (hd : P.underlying dst = some .string) {u : Upd}
    (h : exec1 C E L oid (.cvS x') = some (v, u)) : u = [] ∧ Gives P o a w ω β L v := by
  have h1 := mOpd_ok r hx
  simp only [exec1] at h
  split at h
  grind
  · rename_i rows hrows
    cases hb : rows.isEmpty with
    | true => grind
    | false =>
      rw [hb] at h
      simp only [cond_false] at h
      cases hl : listM byteRow rows with
      | none => grind
      | some l =>
        rw [hl] at h
        simp only [Option.map_some, Option.some.injEq, Prod.mk.injEq] at h
        obtain ⟨rfl, rfl⟩ := h
        have hone : ∀ q ∈ rows, q.length = 1 := by
          intro q hq
          obtain ⟨c, hc⟩ := listM_each hl q hq
          unfold byteRow at hc
          split at hc
          · rfl
          · cases hc
        obtain ⟨base, cap, hv, hread⟩ := rowsRead r h1 hrows hone
        rcases hread with h0 | ⟨A, news, h2, h3, h4, h5⟩
        grind
        · subst h2
          obtain ⟨k1, k2⟩ := byteRows_read (ys := rows) hl h3
          have hrun := run_convert_bytes_back (P := P) w src dst e A cap l hs he hd (fun j hj => h5 j _ (by grind))
          refine ⟨rfl, .string ⟨l.toArray⟩, ?_, ?_⟩
          · simp only [execOp, ho, Sem.run_bind]
            rw [hv, k1, hrun]
            simp only [Result.andThen_ok, Sem.run_pure]
          · simp only [RV, RV1, RW, RD]
            exact ⟨_, rfl, by simp⟩

end
end Go.Vs

/- The value semantics, 43: maps whose keys are numbers or strings. -/
namespace Go.Vs
open Go

/-- The description of a key's type. -/
def keyD : Option IntKind → TypeDesc
  | some k => .int k
  | none => .string
theorem keyIs_key {kd : Option IntKind} {x : Cell} {w : World} {ω : Nat → Nat} {v : Value} (h : keyIs kd x = true) (hr : RD w ω x v) : MapKept.IsKey (keyD kd) v := by
  cases kd <;> cases x <;> simp_all [keyIs, keyD, RD]
  · obtain ⟨b, rfl, _⟩ := hr
    trivial
  · trivial
theorem sameKey_now {kd : Option IntKind} {x y : Cell} {w : World} {ω : Nat → Nat} {u v : Value} {b : Bool} (h : sameKey x y = some b) (hk : keyIs kd x = true) (hu : RD w ω x u) (hv : RD w ω y v) : Instr.sameNow (keyD kd) u v = some b ∧ (b = true → Instr.sameBits 10000 v u = true) := by
  cases kd <;> cases x <;> cases y <;> simp_all [keyIs, keyD, RD, sameKey]
  · obtain ⟨p, rfl, hp⟩ := hu
    obtain ⟨q, rfl, hq⟩ := hv
    have e : (p == q) = b := by
      rw [← h, Bool.eq_iff_iff, MapKept.bytes_beq, beq_iff_eq, ← hp, ← hq]
      constructor
      · rintro rfl; rfl
      · intro e
        cases p; cases q
        congr 1
        exact Array.toList_inj.1 e
    refine ⟨by simp [Instr.sameNow, e], fun hb => ?_⟩
    subst hb
    have := (MapKept.bytes_beq p q).1 e
    subst this
    simp only [Instr.sameBits]
    exact (MapKept.bytes_beq p p).2 rfl
  · obtain ⟨rfl, h⟩ := h
    refine ⟨by simp [Instr.sameNow, h], fun hb => ?_⟩
    subst hb
    simp only [beq_iff_eq] at h
    simp [Instr.sameBits, h]

section
variable {w : World} {ω : Nat → Nat}
theorem findE_now {kd : Option IntKind} {x : Cell} {kv : Value} (hk : keyIs kd x = true) (hx : RD w ω x kv) : ∀ {es : Ents} {l : List MapEntry} {r : Option (Bool × List Cell)} (i : Nat), EntsOk w ω es l → findE x es = some r →
    (r = none ∧ Instr.findNow (keyD kd) kv l i = some none) ∨ ∃ one row j val vs, r = some (one, row) ∧ Instr.findNow (keyD kd) kv l i = some (some (j, val)) ∧ RDlist w ω row vs ∧ packs one vs val
  | [], [], r, i, _, h => by
    simp only [findE, Option.some.injEq] at h
    subst h
    exact .inl ⟨rfl, rfl⟩
  | [], _ :: _, _, _, h, _ => h.elim
  | _ :: _, [], _, _, h, _ => h.elim
  | (y, one, row) :: es, e :: l, r, i, ho, h => by
    obtain ⟨⟨h1, vs, h2, h3⟩, h4⟩ := ho
    simp only [findE] at h
    cases hs : sameKey x y with
    | none => rw [hs] at h; cases h
    | some b =>
      rw [hs] at h
      have hn := (sameKey_now hs hk hx h1).1
      cases b with
      | true =>
        simp only [Option.some.injEq] at h
        subst h
        exact .inr ⟨one, row, i, e.val, vs, rfl, by simp [Instr.findNow, hn], h2, h3⟩
      | false =>
        have := findE_now hk hx (i + 1) h4 h
        simpa [Instr.findNow, hn] using this
theorem setE_now {kd : Option IntKind} {x : Cell} {kv val : Value} {one : Bool} {row : List Cell} {vs : List Value} (hk : keyIs kd x = true) (hx : RD w ω x kv) (h2 : RDlist w ω row vs) (h3 : packs one vs val) : ∀ {es es' : Ents} {l : List MapEntry} (i : Nat), EntsOk w ω es l → setE x (one, row) es = some es' →
    (Instr.findNow (keyD kd) kv l i = some none ∧ ∀ n, EntsOk w ω es' (l ++ [{ key := kv, val := val, born := n }])) ∨
    ∃ j old e, Instr.findNow (keyD kd) kv l i = some (some (i + j, old)) ∧ l[j]? = some e ∧ Instr.sameBits 10000 e.key kv = true ∧ EntsOk w ω es' (l.modify j fun e => { e with key := kv, val := val })
  | [], es', [], i, _, h => by
    simp only [setE, Option.some.injEq] at h
    subst h
    exact .inl ⟨rfl, fun n => ⟨⟨hx, vs, h2, h3⟩, trivial⟩⟩
  | [], _, _ :: _, _, h, _ => h.elim
  | _ :: _, _, [], _, h, _ => h.elim
  | (y, one', row') :: es, es', e :: l, i, ho, h => by
    obtain ⟨g1, g4⟩ := ho
    simp only [setE] at h
    cases hs : sameKey x y with
    | none => rw [hs] at h; cases h
    | some b =>
      rw [hs] at h
      have hn := sameKey_now hs hk hx g1.1
      cases b with
      | true =>
        simp only [Option.some.injEq] at h
        subst h
        exact .inr ⟨0, e.val, e, by simp [Instr.findNow, hn.1], rfl, hn.2 rfl, ⟨⟨hx, vs, h2, h3⟩, g4⟩⟩
      | false =>
        obtain ⟨t, ht, rfl⟩ := Option.map_eq_some_iff.1 h
        rcases setE_now hk hx h2 h3 (i + 1) g4 ht with ⟨q1, q2⟩ | ⟨j, old, e', q1, q2, q3, q4⟩
        · exact .inl ⟨by simp [Instr.findNow, hn.1, q1], fun n => ⟨g1, q2 n⟩⟩
        · refine .inr ⟨j + 1, old, e', ?_, by simpa using q2, q3, ⟨g1, q4⟩⟩
          have : i + 1 + j = i + (j + 1) := by omega
          simp [Instr.findNow, hn.1, q1, this]
end

theorem oneV_ok {w : World} {ω : Nat → Nat} {β : Nat → Option Nat} {L : Nat → Option Obj} {one : Bool} {row : List Cell} {vs : List Value} {val : Value} {v : V} (h : oneV one row = some v) (h2 : RDlist w ω row vs) (h3 : packs one vs val) : RV1 w ω β L v val := by
  cases one with
  | true =>
    cases row with
    | nil => cases h
    | cons x r => cases r with
      | cons _ _ => cases h
      | nil =>
        simp only [oneV, Option.some.injEq] at h
        subst h
        simp only [packs] at h3
        subst h3
        simp only [RDlist, and_true] at h2
        simpa only [RV1, RW] using h2
  | false =>
    simp only [oneV, Option.some.injEq] at h
    subst h
    simp only [packs] at h3
    exact ⟨vs.toArray, h3, RDlist.to (by simpa using h2)⟩
theorem dataV_ok {w : World} {ω : Nat → Nat} {β : Nat → Option Nat} {L : Nat → Option Obj} {v : V} {val : Value} {p : Bool × List Cell} (h : dataV v = some p) (hr : RV w ω β L v val) : ∃ vs, RDlist w ω p.2 vs ∧ packs p.1 vs val := by
  cases v with
  | tu l => cases h
  | sc x =>
    cases x with
    | c x =>
      simp only [dataV, Option.some.injEq] at h
      subst h
      have hr : RD w ω x val := hr
      exact ⟨[val], ⟨hr, trivial⟩, rfl⟩
    | _ => cases h
  | ag cs =>
    simp only [dataV] at h
    obtain ⟨l, hl, rfl⟩ := Option.map_eq_some_iff.1 h
    obtain ⟨a, rfl, ha⟩ := hr
    have key : ∀ {cs : List W} {l : List Cell}, listM (fun w => match w with | W.c x => some x | _ => none) cs = some l → cs = l.map W.c := by
      intro cs
      induction cs with
      | nil => intro l h; simp only [listM, Option.some.injEq] at h; subst h; rfl
      | cons x r ih =>
        intro l h
        simp only [listM] at h
        cases x with
        | c x =>
          simp only at h
          cases hr : listM (fun w => match w with | W.c x => some x | _ => none) r with
          | none => rw [hr] at h; cases h
          | some l' =>
            rw [hr] at h
            cases h
            rw [ih hr]
            rfl
        | _ => cases h
    have e := key hl
    subst e
    exact ⟨a.toList, RDlist.of ha, by simp [packs]⟩

section
variable {P : Program} {C : Ctx} {N : Nat} {w0 : World} {ω0 : Nat → Nat} {S : Fr} {E : Nat → Option V} {L : Nat → Option Obj} {a : Act} {w : World} {ω : Nat → Nat} {β : Nat → Option Nat}
variable {o : Oper} {v : V}

/-- A new map. -/
theorem Rel.allocMp {GL : Nat → List Cell} (h : Rel GL N w0 ω0 S E L a w ω β) {k : Nat} (hk : L k = none) :
    Rel GL N w0 ω0 S E (updO L k (some (.mp []))) a (w.alloc (.map #[] 0)) (setN ω w.heap.size 0) (setN β k (some w.heap.size)) := by
  refine (h.step (fun j => j = k) (Grows.alloc w ω _ 0) (by simp) rfl rfl rfl ?_ ?_ ?_ ?_ ?_ ?_).1
  · grind [heap_ne_of_lt, setN]
  · grind [updO_ne, setN]
  · grind [Tr]
  · rintro tr j rfl o' ho'
    rw [updO_same] at ho'
    cases ho'
    exact ⟨w.heap.size, #[], 0, by simp [setN], heap_alloc_new w _, trivial, by simp [setN]⟩
  · grind [setN]
  · omega
/-- A map's entries are changed. -/
theorem Rel.writeMp {GL : Nat → List Cell} (h : Rel GL N w0 ω0 S E L a w ω β) {k g : Nat} {es es' : Ents} {arr arr' : Array MapEntry} {clock clock' : Nat} (hk : L k = some (.mp es)) (hg : β k = some g)
    (hb : w.heap[g]? = some (.map arr clock)) (hw : ω g = 0) (hok : EntsOk w ω es' arr'.toList) :
    Rel GL N w0 ω0 S E (updO L k (some (.mp es'))) a { w with heap := w.heap.setIfInBounds g (.map arr' clock') } ω β := by
  obtain ⟨hs1, hs2⟩ := MapKept.heap_set (o' := .map arr' clock') hb
  have gr : Grows w ω { w with heap := w.heap.setIfInBounds g (.map arr' clock') } ω := ⟨fun b i hi u hu => by
    have hne : b ≠ g := fun e => by subst e; omega
    refine ⟨?_, hi⟩
    unfold at? World.cell? at hu ⊢
    simp only [hs2 b hne]
    exact hu⟩
  refine (h.step (fun j => j = k) gr (by simp) rfl rfl rfl ?_ ?_ ?_ ?_ ?_ ?_).1
  · intro b hb2 hn
    have hne : b ≠ g := fun e => hn k rfl (by simp [hk]) (e ▸ hg)
    exact ⟨hs2 b hne, rfl⟩
  · grind [updO_ne]
  · rintro j rfl
    unfold Tr
    rw [hk]
    exact ⟨⟨es', updO_same ..⟩, rfl⟩
  · rintro tr j rfl o' ho'
    rw [updO_same] at ho'
    cases ho'
    exact ⟨g, arr', clock', hg, hs1, hok.grow gr, hw⟩
  · grind
  · omega

theorem makes_newM (r : Rel C.gl N w0 ω0 S E L a w ω β) {t : TypeId} {oid : Nat} (ho : o.op = .makeMap t none) {u : Upd} (h : exec1 C E L oid .newM = some (v, u)) : Makes P C.gl N w0 ω0 S E L o a w v u := by
  simp only [exec1] at h
  split at h
  · cases h
  · rename_i hk
    simp only [Option.some.injEq, Prod.mk.injEq] at h
    obtain ⟨rfl, rfl⟩ := h
    have run : (execOp a.eval o).run P w = .ok (.value (.map (some w.heap.size))) (w.alloc (.map #[] 0)) := by
      have hk : (Instr.makeMap t none).run P w = .ok (.map (some w.heap.size)) (w.alloc (.map #[] 0)) := rfl
      simp only [execOp, ho, Sem.run_bind, Option.map_none, hk, Result.andThen_ok, Sem.run_pure]
    exact ⟨_, _, _, _, _, run, .inl rfl, r.allocMp hk, ⟨[], w.heap.size, updO_same .., by simp [setN], rfl⟩⟩

theorem makes_lkM (r : Rel C.gl N w0 ω0 S E L a w ω β) {t kt et : TypeId} {i : TypeInfo} {z : Value} {kd : Option IntKind} {zero : List Cell} {one ok : Bool} {m x : Operand} {m' x' : Opd} {zv : V} {oid : Nat} (ho : o.op = .lookup t m x ok) (hm : mOpd m m' = true) (hx : mOpd x x' = true)
    (ht : P.underlying t = some (.map kt et)) (hkt : P.underlying kt = some (keyD kd)) (hi : P.info? et = some i) (hz : i.zero = some z) (h1 : oneV one zero = some zv) (hc : cvV z zv = true) {u : Upd}
    (h : exec1 C E L oid (.lkM kd zero one ok m' x') = some (v, u)) : Makes P C.gl N w0 ω0 S E L o a w v u := by
  have hm1 := mOpd_ok r hm
  have hx1 := mOpd_ok r hx
  simp only [exec1] at h
  split at h
  · rename_i k c hmv hxv
    rw [hmv] at hm1
    rw [hxv] at hx1
    have hx1 : RD w ω c (a.eval x) := hx1
    obtain ⟨es0, b, hL0, hβ, hv⟩ := hm1
    split at h
    · rename_i es hL
      rw [hL] at hL0
      cases hL0
      obtain ⟨b', arr, clock, q1, q2, q3, q4⟩ := r.obj k _ hL
      rw [hβ] at q1
      cases q1
      cases hkk : keyIs kd c with
      | false => rw [hkk] at h; cases h
      | true =>
        rw [hkk] at h
        simp only [cond_true] at h
        cases hf : findE c es0 with
        | none => rw [hf] at h; cases h
        | some q =>
          rw [hf] at h
          simp only at h
          obtain ⟨y, hy, hyv⟩ := Option.map_eq_some_iff.1 h
          simp only [Prod.mk.injEq] at hyv
          obtain ⟨rfl, rfl⟩ := hyv
          have hck := fun e => MapKept.run_checkKey (P := P) (w := w) hkt (keyIs_key hkk hx1) e 9999
          have zrun : (zeroValue et).run P w = .ok z w := by
            simp only [Sem.run_bind, zeroValue, typeInfo, run_program, Result.andThen_ok, hi, Sem.run_pure, hz]
          have fin : ∀ (val : Value) (bo : Bool), RV1 w ω β L y val → (Instr.lookup t (.map (some b)) (a.eval x) ok).run P w = .ok (if ok then .tuple #[val, .bool bo] else val) w → bo = q.isSome →
              Makes P C.gl N w0 ω0 S E L o a w (bif ok then .tu [y, .sc (.c (.bool q.isSome))] else y) [] := by
            intro val bo hy hrun hb
            subst hb
            refine Gives.makes r ⟨if ok then .tuple #[val, .bool q.isSome] else val, ?_, ?_⟩
            · simp only [execOp, ho, hv, Sem.run_bind, hrun, Result.andThen_ok, Sem.run_pure]
            · cases ok with
              | true => exact ⟨_, rfl, ⟨hy, ⟨by simp [RV1, RW, RD], trivial⟩⟩⟩
              | false =>
                cases y with
                | tu l => exact hy.elim
                | sc y => exact hy
                | ag y => exact hy
          rcases findE_now hkk hx1 0 q3 hf with ⟨rfl, hn⟩ | ⟨one', row, j, val, vs, rfl, hn, h2, h3⟩
          · have hfk := MapKept.run_findKey (P := P) (w := w) hkt hn
            have hy' : oneV one zero = some y := hy
            rw [h1] at hy'
            cases hy'
            refine fin z false ?_ ?_ rfl
            · have := cvV_ok (w := w) (ω := ω) (β := β) (L := L) hc
              cases zv with
              | tu l => cases z <;> cases hc
              | sc y => exact this
              | ag y => exact this
            · simp only [Instr.lookup, run_underlying ht, Sem.run_bind, Result.andThen_ok, MapKept.run_getObj_map q2, hck, hfk, zrun, Sem.run_pure]
          · have hfk := MapKept.run_findKey (P := P) (w := w) hkt hn
            refine fin val true (oneV_ok hy h2 h3) ?_ rfl
            simp only [Instr.lookup, run_underlying ht, Sem.run_bind, Result.andThen_ok, MapKept.run_getObj_map q2, hck, hfk, Sem.run_pure]
    · cases h
  · cases h

theorem makes_upM (r : Rel C.gl N w0 ω0 S E L a w ω β) {t kt et : TypeId} {kd : Option IntKind} {m x y : Operand} {m' x' y' : Opd} {oid : Nat} (ho : o.op = .mapUpdate t m x y ∨ o.op = .insert t m x y) (hm : mOpd m m' = true) (hx : mOpd x x' = true) (hy : mOpd y y' = true)
    (ht : P.underlying t = some (.map kt et)) (hkt : P.underlying kt = some (keyD kd)) {u : Upd}
    (h : exec1 C E L oid (.upM kd m' x' y') = some (v, u)) : Makes P C.gl N w0 ω0 S E L o a w v u := by
  have hm1 := mOpd_ok r hm
  have hx1 := mOpd_ok r hx
  have hy1 := mOpd_ok r hy
  simp only [exec1] at h
  split at h
  · rename_i k c p hmv hxv hyv
    rw [hmv] at hm1
    rw [hxv] at hx1
    have hx1 : RD w ω c (a.eval x) := hx1
    obtain ⟨es0, b, hL0, hβ, hv⟩ := hm1
    obtain ⟨vs, g2, g3⟩ := dataV_ok hyv hy1
    split at h
    · rename_i es hL
      rw [hL] at hL0
      cases hL0
      obtain ⟨b', arr, clock, q1, q2, q3, q4⟩ := r.obj k _ hL
      rw [hβ] at q1
      cases q1
      cases hkk : keyIs kd c with
      | false => rw [hkk] at h; cases h
      | true =>
        rw [hkk] at h
        simp only [cond_true] at h
        obtain ⟨es', hs, hvv⟩ := Option.map_eq_some_iff.1 h
        simp only [Prod.mk.injEq] at hvv
        obtain ⟨rfl, rfl⟩ := hvv
        have hck := MapKept.run_checkKey (P := P) (w := w) hkt (keyIs_key hkk hx1) false 9999
        have fin : ∀ (arr' : Array MapEntry) (clock' : Nat), EntsOk w ω es' arr'.toList → (Instr.mapUpdate t (.map (some b)) (a.eval x) (a.eval y)).run P w = .ok () { w with heap := w.heap.setIfInBounds b (.map arr' clock') } →
            Makes P C.gl N w0 ω0 S E L o a w (.sc .un) [(k, some (.mp es'))] := by
          intro arr' clock' hok hrun
          refine ⟨.skip, undef, { w with heap := w.heap.setIfInBounds b (.map arr' clock') }, ω, β, ?_, .inr ⟨rfl, rfl⟩, r.writeMp hL hβ q2 q4 hok, by simp [RV, RV1, RW]⟩
          rcases ho with ho | ho <;> simp only [execOp, ho, hv, Sem.run_bind, hrun, Result.andThen_ok, Sem.run_pure]
        rcases setE_now hkk hx1 g2 g3 0 q3 hs with ⟨hn, hok⟩ | ⟨j, old, e, hn, hj, hbits, hok⟩
        · refine fin (arr.push { key := a.eval x, val := a.eval y, born := clock }) (clock + 1) (by simpa using hok clock) ?_
          have hfk := MapKept.run_findKey (P := P) (w := w) hkt hn
          simp only [Instr.mapUpdate, run_underlying ht, Sem.run_bind, Result.andThen_ok, MapKept.run_getObj_map q2, hck, hfk, MapKept.run_setObj_map _ q2]
        · have hj2 : arr[j]? = some e := by simpa using hj
          refine fin (arr.modify j fun e => { e with key := a.eval x, val := a.eval y }) clock (by simpa using hok) ?_
          have hfk := MapKept.run_findKey (P := P) (w := w) hkt hn
          simp only [Nat.zero_add] at hfk
          simp only [Instr.mapUpdate, run_underlying ht, Sem.run_bind, Result.andThen_ok, MapKept.run_getObj_map q2, hck, hfk, hj2, Option.map_some, Option.getD_some, Instr.keyThatStays, hbits, if_true, Sem.run_pure, MapKept.run_setObj_map _ q2]
    · cases h
  · cases h
/- ## A box that is never written -/
theorem RDlist_of : ∀ {cs : List Cell} {vs : List Value}, RWlist w ω β L (cs.map W.c) vs → RDlist w ω cs vs
  | [], [], _ => trivial
  | [], _ :: _, h => h.elim
  | _ :: _, [], h => h.elim
  | _ :: _, _ :: _, h => ⟨by simpa only [RW] using h.1, RDlist_of h.2⟩
theorem RDcells_of {w' : World} {ω' : Nat → Nat} {b : Nat} (g : Grows w ω w' ω') : ∀ {cs : List Cell} {vs : List Value} {i : Nat}, RDlist w ω cs vs → (∀ (j : Nat) (v : Value), vs[j]? = some v → at? w' b (i + j) = some v ∧ i + j < ω' b) → RDcells w' ω' b i cs
  | [], _, _, _, _ => by simp [RDcells]
  | _ :: _, [], _, h, _ => h.elim
  | c :: cs, v :: vs, i, h, hv => by
    simp only [RDcells]
    obtain ⟨h1, h2⟩ := hv 0 v rfl
    refine ⟨⟨h2, v, h1, h.1.grow g⟩, RDcells_of g h.2 fun j x hj => ?_⟩
    have := hv (j + 1) x (by simpa using hj)
    grind
theorem dataV_cells {v : V} {p : Bool × List Cell} (h : dataV v = some p) : v.cells = p.2.map W.c ∧ ∀ l, v ≠ .tu l := by
  cases v with
  | tu l => cases h
  | sc x =>
    cases x with
    | c x =>
      simp only [dataV, Option.some.injEq] at h
      subst h
      exact ⟨rfl, by simp⟩
    | _ => cases h
  | ag cs =>
    simp only [dataV] at h
    obtain ⟨l, hl, rfl⟩ := Option.map_eq_some_iff.1 h
    refine ⟨?_, by simp⟩
    show cs = l.map W.c
    clear h
    induction cs generalizing l with
    | nil => simp only [listM, Option.some.injEq] at hl; subst hl; rfl
    | cons x r ih =>
      cases x with
      | c y =>
        simp only [listM] at hl
        split at hl
        · cases hl
        · rename_i l' hr
          simp only [Option.some.injEq] at hl
          subst hl
          rw [ih l' hr]; rfl
      | _ => cases hl
theorem makes_boxD (r : Rel C.gl N w0 ω0 S E L a w ω β) {t : TypeId} {x : Operand} {x' : Opd} {oid : Nat} (ho : o.op = .box t x) (hx : mOpd x x' = true) {u : Upd} (h : exec1 C E L oid (.boxD x') = some (v, u)) : Makes P C.gl N w0 ω0 S E L o a w v u := by
  have h1 := mOpd_ok r hx
  have run : (execOp a.eval o).run P w = .ok (.value (.pointer (some ⟨w.heap.size, 0, none⟩))) (w.alloc (.cells (a.eval x).cells t)) := by
    simp only [execOp, ho, Instr.box, Sem.run_bind, newVar_run, Result.andThen_ok, Sem.run_pure]
  simp only [exec1] at h
  obtain ⟨p, hp, hq⟩ := Option.map_eq_some_iff.1 h
  simp only [Prod.mk.injEq] at hq
  obtain ⟨rfl, rfl⟩ := hq
  obtain ⟨hc, hnt⟩ := dataV_cells hp
  have hcells := RV.cells h1 hnt (by rw [hc]; simp [notUn])
  rw [hc] at hcells
  have hd := RDlist_of hcells
  have g := Grows.alloc w ω (.cells (a.eval x).cells t) (a.eval x).cells.size
  refine ⟨_, _, _, _, β, run, .inl rfl, r.allocPub (a.eval x).cells t (a.eval x).cells.size, ?_⟩
  simp only [updL, RV, RV1, RW, RD]
  refine ⟨w.heap.size, 0, rfl, RDcells_of g hd fun j y hj => ?_⟩
  rw [at?_block (heap_alloc_new w _)]
  have hj' : (a.eval x).cells[j]? = some y := by simpa using hj
  refine ⟨by simpa using hj', ?_⟩
  simp only [setN, if_true]
  have := (Array.getElem?_eq_some_iff.1 hj').1
  omega
end
end Go.Vs

/- The value semantics, 15: when an operation stands for one of the model's, and that it then does what the model does. -/
namespace Go.Vs
open Go

def tyOk (P : Program) (t : TypeId) (n : Nat) : Bool := (P.underlying t).isSome && (match P.info? t with | some i => i.size == n | none => false)

def mPlace (P : Program) (t : TypeId) (parts : List (Nat × Operand)) (ps : List (Nat × Nat × Opd)) : Bool :=
  match P.underlying t with
  | some (.struct fs) => (match placesOf P fs with | some l => mParts (fun j => l[j]?) parts ps | none => false)
  | some (.array _ e) => (match P.info? e with | some ie => mParts (fun j => some (j * ie.size, ie.size)) parts ps | none => false)
  | _ => false

def sliceElem (P : Program) (t : TypeId) : Option TypeId := match P.underlying t with
  | some (.slice e) => some e
  | _ => none

/-- The element's type of a map whose keys are of that kind. -/
def mapElem (P : Program) (kd : Option IntKind) (t : TypeId) : Option TypeId := match P.underlying t with
  | some (.map kt et) => (match P.underlying kt, kd with
    | some (.int k), some k' => bif decide (k = k') then some et else none
    | some .string, none => some et
    | _, _ => none)
  | _ => none
theorem mapElem_ok {P : Program} {kd : Option IntKind} {t et : TypeId} (h : mapElem P kd t = some et) : ∃ kt, P.underlying t = some (.map kt et) ∧ P.underlying kt = some (keyD kd) := by
  unfold mapElem at h
  split at h
  · rename_i kt e ht
    split at h
    · rename_i k k' hk
      cases hd : decide (k = k') with
      | false => rw [hd] at h; cases h
      | true =>
        rw [hd] at h
        cases h
        have := of_decide_eq_true hd
        subst this
        exact ⟨kt, ht, hk⟩
    · rename_i hk
      cases h
      exact ⟨kt, ht, hk⟩
    · cases h
  · cases h
/-- Everything but calls of functions. -/
def mOp (P : Program) (op : Op) : VOp → Bool
  | .mv x => match op with | .move y => mOpd y x | .assign y => mOpd y x | _ => false
  | .pick c x y => match op with | .pick c' x' y' => mOpd c' c && mOpd x' x && mOpd y' y | _ => false
  | .bin b tag x y => match op with | .binOp b' t x' y' _ => b == b' && mOpd x' x && mOpd y' y && mTag P t y' tag | _ => false
  | .un b x => match op with | .unOp b' _ x' => b == b' && mOpd x' x | _ => false
  | .new cells own => match op with
    | .alloc t => (match P.info? t with | some i => (match i.zero with | some z => cvList z.cells.toList cells | none => false) | none => false) && own.all (fun p => Nat.blt 0 p.2)
    | _ => false
  | .box x => match op with | .box _ x' => mOpd x' x | _ => false
  | .boxD x => match op with | .box _ x' => mOpd x' x | _ => false
  | .build zero ps => match op with
    | .build t parts => (match P.info? t with | some i => (match i.zero with | some z => cvList z.cells.toList zero | none => false) | none => false) && mPlace P t parts.toList ps
    | _ => false
  | .mkSl s xs => match op with
    | .buildSlice t len parts => (match sliceElem P t with
      | some e => (match P.info? e with | some i => i.size == s && i.zero.isSome | none => false)
      | none => false) && Nat.blt 0 s && Nat.ble (len * s) (2 ^ 24) && mRow 0 parts.toList xs && xs.length == len
    | _ => false
  | .load ag n x => match op with | .load t x' => mOpd x' x && tyOk P t n && isAggB P t == ag | _ => false
  | .store n x y own => match op with | .store t x' y' => mOpd x' x && mOpd y' y && tyOk P t n && own.all (fun p => Nat.blt 0 p.2) | _ => false
  | .fld off x => match op with
    | .fieldAddr t x' f => mOpd x' x && (match P.underlying t with
      | some (.struct fs) => (match fs[f]? with | some fd => fd.offset == off && (match P.info? fd.type with | some i => i.size != 0 | none => false) | none => false)
      | _ => false)
    | _ => false
  | .part ag off n x => match op with
    | .field t x' f => mOpd x' x && (match P.underlying t with
      | some (.struct fs) => (match fs[f]? with | some fd => fd.offset == off && tyOk P fd.type n && isAggB P fd.type == ag | none => false)
      | _ => false)
    | _ => false
  | .idxA s x i => match op with
    | .indexAddr t x' i' => mOpd x' x && mOpd i' i && (match sliceElem P t with | some e => (match P.info? e with | some q => q.size == s | none => false) | none => false)
    | _ => false
  | .idxAA s len x i => match op with
    | .indexAddr t x' i' => mOpd x' x && mOpd i' i && (match P.underlying t with | some (.array len' e) => len' == len && (match P.info? e with | some q => q.size == s | none => false) | _ => false)
    | _ => false
  | .idxS x i => match op with
    | .index t x' i' => mOpd x' x && mOpd i' i && (match P.underlying t with | some .string => true | _ => false)
    | _ => false
  | .slS x lo hi => match op with
    | .slice t x' lo' hi' none => mOpd x' x && mOpt lo' lo && mOpt hi' hi && (match P.underlying t with | some .string => true | _ => false)
    | _ => false
  | .sl s x lo hi mx => match op with
    | .slice t x' lo' hi' mx' => mOpd x' x && mOpt lo' lo && mOpt hi' hi && mOpt mx' mx && (!mx'.isSome || hi'.isSome) && (match sliceElem P t with | some e => (match P.info? e with | some q => q.size == s | none => false) | none => false)
    | _ => false
  | .len str x => match op with
    | .call { callee := .builtin .len, args := ⟨[x']⟩, argTypes := ⟨[t]⟩ } => mOpd x' x && (match P.underlying t, str with | some .string, true => true | some (.slice _), false => true | _, _ => false)
    | _ => false
  | .mx x y => match op with
    | .call { callee := .builtin .max, args := ⟨[x', y']⟩, argTypes := _ } => mOpd x' x && mOpd y' y
    | _ => false
  | .mn x y => match op with
    | .call { callee := .builtin .min, args := ⟨[x', y']⟩, argTypes := _ } => mOpd x' x && mOpd y' y
    | _ => false
  | .app s bytes _ x y => match op with
    | .call { callee := .builtin .append, args := ⟨[x', y']⟩, argTypes := ⟨[t, u]⟩ } => mOpd x' x && mOpd y' y && t == u && Nat.blt 0 s && (match sliceElem P t with
      | some e => (match P.info? e with | some q => q.size == s && q.bytes == bytes && (match q.zero with | some z => z.cells.size == s | none => false) | none => false)
      | none => false)
    | _ => false
  | .mkS s bytes zero x => match op with
    | .makeSlice t x' y' => mOpd x' x && mOpd y' x && (match sliceElem P t with
      | some e => (match P.info? e with | some q => q.size == s && q.bytes == bytes && (match q.zero with | some z => z.cells.size == s && cvList z.cells.toList zero | none => false) | none => false)
      | none => false)
    | _ => false
  | .fn f xs => match op with
    | .makeFunc (.func g) ⟨[]⟩ ys => f == g && mAll ys.toList xs
    | _ => false
  | .call _ _ _ => false
  | .ext i x => match op with | .extract x' j => mOpd x' x && i == j | _ => false
  | .cvI k x => match op with
    | .convert src dst x' => mOpd x' x && (match P.underlying src with | some (.int _) => true | _ => false) && (match P.underlying dst with | some (.int k') => k == k' | _ => false)
    | _ => false
  | .ifc t x => match op with
    | .makeInterface t' x' => t == t' && mOpd x' x && (match P.underlying t with | some (.interface _) => false | some _ => true | none => false)
    | _ => false
  | .cp s x y => match op with
    | .call { callee := .builtin .copy, args := ⟨[x', y']⟩, argTypes := ⟨[t, u]⟩ } => mOpd x' x && mOpd y' y && t == u && (match sliceElem P t with | some e => (match P.info? e with | some i => i.size == s | none => false) | none => false)
    | _ => false
  | .appN s bytes y => match op with
    | .call { callee := .builtin .append, args := ⟨[x', y']⟩, argTypes := ⟨[t, u]⟩ } => mOpd x' (.k (.sc .nil)) && mOpd y' y && t == u && Nat.blt 0 s && (match sliceElem P t with
      | some e => (match P.info? e with | some q => q.size == s && q.bytes == bytes && (match q.zero with | some z => z.cells.size == s | none => false) | none => false)
      | none => false)
    | _ => false
  | .mkE => match op with
    | .buildSlice t 0 ⟨[]⟩ => (match sliceElem P t with | some e => (match P.info? e with | some _ => true | none => false) | none => false)
    | _ => false
  | .mkM => match op with | .makeMap _ none => true | _ => false
  | .appF s bytes x y => match op with
    | .call { callee := .builtin .append, args := ⟨[x', y']⟩, argTypes := ⟨[t, u]⟩ } => mOpd x' x && mOpd y' y && t == u && Nat.blt 0 s && (match sliceElem P t with
      | some e => (match P.info? e with | some q => q.size == s && q.bytes == bytes && (match q.zero with | some z => z.cells.size == s | none => false) | none => false)
      | none => false)
    | _ => false
  | .cvB x => match op with
    | .convert src dst x' => mOpd x' x && (P.underlying src).isSome && (match P.underlying dst with | some (.slice e) => (match P.underlying e with | some (.int .u8) => true | _ => false) | _ => false)
    | _ => false
  | .clr s zero x => match op with
    | .call { callee := .builtin .clear, args := ⟨[x']⟩, argTypes := ⟨[t]⟩ } => mOpd x' x && Nat.blt 0 s && (match sliceElem P t with
      | some e => (match P.info? e with | some q => q.size == s && (match q.zero with | some z => z.cells.size == s && cvList z.cells.toList zero | none => false) | none => false)
      | none => false)
    | _ => false
  | .newA n zero => match op with
    | .alloc t => (match P.info? t with | some i => (match i.zero with | some z => cvList z.cells.toList (List.replicate n zero).flatten | none => false) | none => false) && Nat.blt 0 zero.length
    | _ => false
  | .slA s n x lo hi => match op with
    | .slice t x' lo' hi' none => mOpd x' x && mOpt lo' lo && mOpt hi' hi && (match P.underlying t with
      | some (.array m e) => m == n && (match P.info? e with | some q => q.size == s | none => false)
      | _ => false)
    | _ => false
  | .cvS x => match op with
    | .convert src dst x' => mOpd x' x && (match P.underlying dst with | some .string => true | _ => false) && (match P.underlying src with | some (.slice e) => (match P.underlying e with | some (.int .u8) => true | _ => false) | _ => false)
    | _ => false
  | .newM => match op with | .makeMap _ none => true | _ => false
  | .lkM kd zero one ok m x => match op with
    | .lookup t m' x' ok' => ok' == ok && mOpd m' m && mOpd x' x && (match mapElem P kd t with
      | some et => (match P.info? et with | some i => (match i.zero, oneV one zero with | some z, some zv => cvV z zv | _, _ => false) | none => false)
      | none => false)
    | _ => false
  | .upM kd m x y => match op with
    | .mapUpdate t m' x' y' => mOpd m' m && mOpd x' x && mOpd y' y && (mapElem P kd t).isSome
    | .insert t m' x' y' => mOpd m' m && mOpd x' x && mOpd y' y && (mapElem P kd t).isSome
    | _ => false
  | .ldD .. => false
  | .mvD .. => false
  | .bldD .. => false
  | .bad => match op with | .defer _ => false | _ => true
  | .nn x => match op with | .nilCheck x' => mOpd x' x | _ => false

section
variable {P : Program} {C : Ctx} {N : Nat} {w0 : World} {ω0 : Nat → Nat} {S : Fr} {E : Nat → Option V} {L : Nat → Option Obj} {a : Act} {w : World} {ω : Nat → Nat} {β : Nat → Option Nat}
variable {o : Oper} {v : V}

theorem tyOk_ok {t : TypeId} {n : Nat} (h : tyOk P t n = true) : (P.underlying t).isSome = true ∧ ∃ i, P.info? t = some i ∧ i.size = n := by
  grind [tyOk]

theorem sliceElem_ok {t e : TypeId} (h : sliceElem P t = some e) : P.underlying t = some (.slice e) := by
  grind [sliceElem]

theorem pos_of {own : List (Nat × Nat)} (h : own.all (fun p => Nat.blt 0 p.2) = true) : ∀ p ∈ own, 0 < p.2 := by
  intro p hp
  have := List.all_eq_true.1 h p hp
  simp_all

theorem op_ok (r : Rel C.gl N w0 ω0 S E L a w ω β) {vop : VOp} {oid : Nat} (hm : mOp P o.op vop = true) {u : Upd} (h : exec1 C E L oid vop = some (v, u)) : Makes P C.gl N w0 ω0 S E L o a w v u := by
  cases vop with
  | mv x =>
    simp only [mOp] at hm
    simp only [exec1, Option.some.injEq, Prod.mk.injEq] at h
    obtain ⟨rfl, rfl⟩ := h
    split at hm
    · rename_i y ho; exact (gives_mv r (.inl ho) hm rfl).makes r
    · rename_i y ho; exact (gives_mv r (.inr ho) hm rfl).makes r
    grind
  | pick c x y =>
    simp only [mOp] at hm
    split at hm
    · rename_i c' x' y' ho
      simp only [Bool.and_eq_true] at hm
      simp only [exec1] at h
      split at h
      · rename_i t ht
        simp only [Option.some.injEq, Prod.mk.injEq] at h
        obtain ⟨rfl, rfl⟩ := h
        exact (gives_pick r ho hm.1.1 hm.1.2 hm.2 ht rfl).makes r
      grind
    grind
  | bin b tag x y =>
    simp only [mOp] at hm
    split at hm
    · rename_i b' t x' y' t' ho
      simp only [Bool.and_eq_true, beq_iff_eq] at hm
      obtain ⟨⟨⟨rfl, hx⟩, hy⟩, ht⟩ := hm
      simp only [exec1] at h
      split at h
      · rename_i p q hp hq
        cases hb : binW b tag p q with
        | none => grind
        | some c =>
          simp only [hb, Option.map_some, Option.some.injEq, Prod.mk.injEq] at h
          obtain ⟨rfl, rfl⟩ := h
          exact (gives_bin r ho hx hy ht hp hq hb rfl).makes r
      grind
    grind
  | un b x =>
    simp only [mOp] at hm
    split at hm
    · rename_i b' t x' ho
      simp only [Bool.and_eq_true, beq_iff_eq] at hm
      obtain ⟨rfl, hx⟩ := hm
      simp only [exec1] at h
      split at h
      · rename_i p hp
        cases hb : unW b p with
        | none => grind
        | some c =>
          simp only [hb, Option.map_some, Option.some.injEq, Prod.mk.injEq] at h
          obtain ⟨rfl, rfl⟩ := h
          exact (gives_un r ho hx hp hb rfl).makes r
      grind
    grind
  | new cells own =>
    simp only [mOp] at hm
    split at hm
    · rename_i t ho
      simp only [Bool.and_eq_true] at hm
      obtain ⟨h1, h2⟩ := hm
      split at h1
      · rename_i i hi
        split at h1
        · rename_i z hz
          exact makes_new r ho hi hz h1 (pos_of h2) h
        grind
      grind
    grind
  | box x =>
    simp only [mOp] at hm
    grind [makes_box]
  | boxD x =>
    simp only [mOp] at hm
    grind [makes_boxD]
  | build zero ps =>
    simp only [mOp] at hm
    split at hm
    · rename_i t parts ho
      simp only [Bool.and_eq_true] at hm
      obtain ⟨h1, h2⟩ := hm
      split at h1
      · rename_i i hi
        split at h1
        · rename_i z hz
          simp only [exec1] at h
          split at h
          grind
          · rename_i qs hqs
            cases hf : fillW zero qs with
            | none => grind
            | some cs =>
              simp only [hf, Option.map_some, Option.some.injEq, Prod.mk.injEq] at h
              obtain ⟨rfl, rfl⟩ := h
              unfold mPlace at h2
              split at h2
              · rename_i fs hu
                split at h2
                · rename_i l hl
                  exact (gives_build r ho hi hz h1 (.inl ⟨fs, l, hu, hl, rfl⟩) h2 hqs hf rfl).makes r
                grind
              · rename_i n e hu
                split at h2
                · rename_i ie hie
                  exact (gives_build r ho hi hz h1 (.inr ⟨n, e, ie, hu, hie, rfl⟩) h2 hqs hf rfl).makes r
                grind
              grind
        grind
      grind
    grind
  | mkSl s xs =>
    simp only [mOp] at hm
    split at hm
    · rename_i t len parts ho
      simp only [Bool.and_eq_true, beq_iff_eq] at hm
      obtain ⟨⟨⟨⟨h1, h2⟩, h3⟩, h4⟩, h5⟩ := hm
      split at h1
      · rename_i e he
        split at h1
        · rename_i i hi
          simp only [Bool.and_eq_true, beq_iff_eq] at h1
          obtain ⟨rfl, hz⟩ := h1
          obtain ⟨z, hz⟩ := Option.isSome_iff_exists.1 hz
          exact makes_mkSl r ho (sliceElem_ok he) hi hz (Nat.le_of_ble_eq_true (show Nat.ble (0 + 1) i.size = true from h2)) (Nat.le_of_ble_eq_true h3) h4 h5 h
        grind
      grind
    grind
  | load ag n x =>
    simp only [mOp] at hm
    split at hm
    · rename_i t x' ho
      simp only [Bool.and_eq_true, beq_iff_eq] at hm
      obtain ⟨⟨h1, h2⟩, rfl⟩ := hm
      obtain ⟨hu, i, hi, rfl⟩ := tyOk_ok h2
      obtain ⟨rfl, hg⟩ := gives_load r ho h1 hu hi (u := u) h
      exact hg.makes r
    grind
  | store n x y own =>
    simp only [mOp] at hm
    split at hm
    · rename_i t x' y' ho
      simp only [Bool.and_eq_true] at hm
      obtain ⟨⟨⟨h1, h2⟩, h3⟩, h4⟩ := hm
      obtain ⟨hu, i, hi, rfl⟩ := tyOk_ok h3
      exact makes_store r ho h1 h2 hi (pos_of h4) h
    grind
  | fld off x =>
    simp only [mOp] at hm
    split at hm
    · rename_i t x' f ho
      simp only [Bool.and_eq_true] at hm
      obtain ⟨h1, h2⟩ := hm
      split at h2
      · rename_i fs hu
        split at h2
        · rename_i fd hf
          simp only [Bool.and_eq_true, beq_iff_eq] at h2
          obtain ⟨rfl, h3⟩ := h2
          split at h3
          · rename_i i hi
            have hu0 : u = [] := by
              simp only [exec1] at h
              unfold onBy at h
              grind
            subst hu0
            exact (gives_fld r ho h1 hu hf hi (by grind) h).makes r
          grind
        grind
      grind
    grind
  | part ag off n x =>
    simp only [mOp] at hm
    split at hm
    · rename_i t x' f ho
      simp only [Bool.and_eq_true] at hm
      obtain ⟨h1, h2⟩ := hm
      split at h2
      · rename_i fs hu
        split at h2
        · rename_i fd hf
          simp only [Bool.and_eq_true, beq_iff_eq] at h2
          obtain ⟨⟨rfl, h3⟩, rfl⟩ := h2
          obtain ⟨hu2, i, hi, rfl⟩ := tyOk_ok h3
          simp only [exec1] at h
          split at h
          · rename_i cs hcs
            split at h
            · rename_i ds hds
              cases hav : asV (isAggB P fd.type) ds with
              | none => grind
              | some v' =>
                simp only [hav, Option.map_some, Option.some.injEq, Prod.mk.injEq] at h
                obtain ⟨rfl, rfl⟩ := h
                exact (gives_part r ho h1 hu hf hu2 hi hcs hds hav).makes r
            grind
          grind
        grind
      grind
    grind
  | idxA s x i =>
    simp only [mOp] at hm
    split at hm
    · rename_i t x' i' ho
      simp only [Bool.and_eq_true] at hm
      obtain ⟨⟨h1, h2⟩, h3⟩ := hm
      split at h3
      · rename_i e he
        split at h3
        · rename_i q hq
          have : q.size = s := by grind
          subst this
          obtain ⟨rfl, hg⟩ := gives_idxA r ho h1 h2 (sliceElem_ok he) hq (u := u) h
          exact hg.makes r
        grind
      grind
    grind
  | idxAA s len x i =>
    simp only [mOp] at hm
    split at hm
    · rename_i t x' i' ho
      simp only [Bool.and_eq_true] at hm
      obtain ⟨⟨h1, h2⟩, h3⟩ := hm
      split at h3
      · rename_i len' e hu
        simp only [Bool.and_eq_true, beq_iff_eq] at h3
        obtain ⟨rfl, h3⟩ := h3
        split at h3
        · rename_i q hq
          have : q.size = s := by grind
          subst this
          simp only [exec1] at h
          split at h
          grind
          · rename_i j hj
            have hu0 : u = [] := by
              unfold onBy at h
              grind
            subst hu0
            exact (gives_idxAA r ho h1 h2 hu hq hj h).makes r
        grind
      grind
    grind
  | idxS x i =>
    simp only [mOp] at hm
    split at hm
    · rename_i t x' i' ho
      simp only [Bool.and_eq_true] at hm
      obtain ⟨⟨h1, h2⟩, h3⟩ := hm
      split at h3
      · rename_i hu
        simp only [exec1] at h
        split at h
        · rename_i s hs
          split at h
          · rename_i j hj
            cases hb : s[j]? with
            | none => grind
            | some b =>
              simp only [hb, Option.map_some, Option.some.injEq, Prod.mk.injEq] at h
              obtain ⟨rfl, rfl⟩ := h
              exact (gives_idxS r ho h1 h2 hu hs hj hb rfl).makes r
          grind
        grind
      grind
    grind
  | slS x lo hi =>
    simp only [mOp] at hm
    split at hm
    · rename_i t x' lo' hi' ho
      simp only [Bool.and_eq_true] at hm
      obtain ⟨⟨⟨h1, h2⟩, h3⟩, h4⟩ := hm
      split at h4
      · rename_i hu
        simp only [exec1] at h
        split at h
        · rename_i s hs
          split at h
          grind
          · rename_i hh hhh
            cases hl : boundOr (lo.map (·.val C E)) 0 hh with
            | none => grind
            | some l =>
              simp only [hl, Option.map_some, Option.some.injEq, Prod.mk.injEq] at h
              obtain ⟨rfl, rfl⟩ := h
              exact (gives_slS r ho h1 h2 h3 hu hs hhh hl rfl).makes r
        grind
      grind
    grind
  | sl s x lo hi mx =>
    simp only [mOp] at hm
    split at hm
    · rename_i t x' lo' hi' mx' ho
      simp only [Bool.and_eq_true] at hm
      obtain ⟨⟨⟨⟨⟨h1, h2⟩, h3⟩, h4⟩, h5⟩, h6⟩ := hm
      split at h6
      · rename_i e he
        split at h6
        · rename_i q hq
          have : q.size = s := by grind
          subst this
          obtain ⟨rfl, hg⟩ := gives_sl r ho h1 h2 h3 h4 (by grind) (sliceElem_ok he) hq (u := u) h
          exact hg.makes r
        grind
      grind
    grind
  | len str x =>
    simp only [mOp] at hm
    split at hm
    · rename_i x' t ho
      simp only [Bool.and_eq_true] at hm
      obtain ⟨h1, h2⟩ := hm
      simp only [exec1] at h
      cases hb : (isStr (x.val C E) == str) with
      | false => grind
      | true =>
        simp only [hb, cond_true] at h
        cases hn : lenV L (x.val C E) with
        | none => grind
        | some n =>
          rw [hn] at h
          cases h
          exact (gives_len r ho h1 h2 (by grind) hn rfl).makes r
    grind
  | mx x y =>
    simp only [mOp] at hm
    split at hm
    · rename_i x' y' ts ho
      simp only [Bool.and_eq_true] at hm
      simp only [exec1] at h
      split at h
      · rename_i k p j q hp hq
        simp only [Option.some.injEq, Prod.mk.injEq] at h
        obtain ⟨rfl, rfl⟩ := h
        exact (gives_mx r (.inl rfl) ho hm.1 hm.2 hp hq (by simp)).makes r
      grind
    grind
  | mn x y =>
    simp only [mOp] at hm
    split at hm
    · rename_i x' y' ts ho
      simp only [Bool.and_eq_true] at hm
      simp only [exec1] at h
      split at h
      · rename_i k p j q hp hq
        simp only [Option.some.injEq, Prod.mk.injEq] at h
        obtain ⟨rfl, rfl⟩ := h
        exact (gives_mx r (.inr rfl) ho hm.1 hm.2 hp hq (by simp)).makes r
      grind
    grind
  | app s bytes mk x y =>
    simp only [mOp] at hm
    split at hm
    · rename_i x' y' t u' ho
      simp only [Bool.and_eq_true, beq_iff_eq] at hm
      obtain ⟨⟨⟨⟨h1, h2⟩, rfl⟩, h3⟩, h4⟩ := hm
      split at h4
      · rename_i e he
        split at h4
        · rename_i q hq
          simp only [Bool.and_eq_true, beq_iff_eq] at h4
          obtain ⟨⟨rfl, rfl⟩, h5⟩ := h4
          split at h5
          · rename_i z hz
            exact makes_app r ho h1 h2 (sliceElem_ok he) hq hz (by grind) (Nat.le_of_ble_eq_true (show Nat.ble (0 + 1) q.size = true from h3)) h
          grind
        grind
      grind
    grind
  | mkS s bytes zero x =>
    simp only [mOp] at hm
    split at hm
    · rename_i t x' y' ho
      simp only [Bool.and_eq_true] at hm
      obtain ⟨⟨h1, h2⟩, h4⟩ := hm
      split at h4
      · rename_i e he
        split at h4
        · rename_i q hq
          simp only [Bool.and_eq_true, beq_iff_eq] at h4
          obtain ⟨⟨rfl, rfl⟩, h5⟩ := h4
          split at h5
          · rename_i z hz
            simp only [Bool.and_eq_true, beq_iff_eq] at h5
            exact makes_mkS r ho h1 h2 (sliceElem_ok he) hq hz h5.2 h5.1 h
          grind
        grind
      grind
    grind
  | fn f xs =>
    simp only [mOp] at hm
    split at hm
    · rename_i g ys ho
      simp only [Bool.and_eq_true, beq_iff_eq] at hm
      obtain ⟨rfl, h1⟩ := hm
      obtain ⟨rfl, hg⟩ := gives_fn r ho h1 (u := u) h
      exact hg.makes r
    grind
  | call f args own => simp [mOp] at hm
  | ext i x =>
    simp only [mOp] at hm
    split at hm
    · rename_i x' j ho
      simp only [Bool.and_eq_true, beq_iff_eq] at hm
      obtain ⟨h1, rfl⟩ := hm
      simp only [exec1] at h
      split at h
      · rename_i l hl
        cases hi : l[i]? with
        | none => grind
        | some v' =>
          simp only [hi, Option.map_some, Option.some.injEq, Prod.mk.injEq] at h
          obtain ⟨rfl, rfl⟩ := h
          exact (gives_ext r ho h1 hl hi).makes r
      grind
    grind
  | cvI k x =>
    simp only [mOp] at hm
    split at hm
    · rename_i src dst x' ho
      simp only [Bool.and_eq_true] at hm
      obtain ⟨⟨h1, h2⟩, h3⟩ := hm
      split at h2
      · rename_i k0 hs
        split at h3
        · rename_i k' hd
          have : k = k' := by grind
          subst this
          simp only [exec1] at h
          split at h
          · rename_i j n hn
            simp only [Option.some.injEq, Prod.mk.injEq] at h
            obtain ⟨rfl, rfl⟩ := h
            exact (gives_cvI r ho h1 hs hd hn rfl).makes r
          grind
        grind
      grind
    grind
  | ifc t x =>
    simp only [mOp] at hm
    split at hm
    · rename_i t' x' ho
      simp only [Bool.and_eq_true, beq_iff_eq] at hm
      obtain ⟨⟨rfl, h1⟩, h2⟩ := hm
      simp only [exec1] at h
      have hu0 : u = [] := by
        grind
      subst hu0
      exact (gives_ifc r ho h1 h2 h).makes r
    grind
  | cp s x y =>
    simp only [mOp] at hm
    split at hm
    · rename_i x' y' t u' ho
      simp only [Bool.and_eq_true, beq_iff_eq] at hm
      obtain ⟨⟨⟨h1, h2⟩, rfl⟩, h4⟩ := hm
      split at h4
      · rename_i e he
        split at h4
        · rename_i q hq
          simp only [beq_iff_eq] at h4
          subst h4
          exact makes_cp r ho h1 h2 (sliceElem_ok he) hq h
        grind
      grind
    grind
  | appN s bytes y =>
    simp only [mOp] at hm
    split at hm
    · rename_i x' y' t u' ho
      simp only [Bool.and_eq_true, beq_iff_eq] at hm
      obtain ⟨⟨⟨⟨h1, h2⟩, rfl⟩, h3⟩, h4⟩ := hm
      split at h4
      · rename_i e he
        split at h4
        · rename_i q hq
          simp only [Bool.and_eq_true, beq_iff_eq] at h4
          obtain ⟨⟨rfl, rfl⟩, h5⟩ := h4
          split at h5
          · rename_i z hz
            simp only [exec1] at h
            split at h
            · rename_i hrows
              simp only [Option.some.injEq, Prod.mk.injEq] at h
              obtain ⟨rfl, rfl⟩ := h
              have hx := mOpd_ok r h1
              have hy := mOpd_ok r h2
              simp only [Opd.val, RV, RV1, RW] at hx
              obtain ⟨yb, yc, hyv, _⟩ := rowsRead r hy hrows (s := q.size) (by simp)
              have hrun := run_append_zero (P := P) (w := w) (ty := o.type) (yb := yb) (yc := yc) (base := none) (n := 0) (cap := 0) (sliceElem_ok he) hq (Nat.le_refl _)
              simp only [List.length_nil] at hyv
              rw [← hx, ← hyv] at hrun
              exact ⟨_, _, w, ω, β, run_call_append ho hrun, .inl rfl, r, by grind [RV, RV1, RW]⟩
            · exact makes_app (mk := true) (x' := .k (.sc .nil)) (y' := y) r ho h1 h2 (sliceElem_ok he) hq hz (by grind) (Nat.le_of_ble_eq_true (show Nat.ble (0 + 1) q.size = true from h3)) (by simp only [exec1, Opd.val]; exact h)
          grind
        grind
      grind
    grind
  | mkE =>
    simp only [mOp] at hm
    split at hm
    · rename_i t ho
      split at hm
      · rename_i e he
        split at hm
        · rename_i q hq
          simp only [exec1, Option.some.injEq, Prod.mk.injEq] at h
          obtain ⟨rfl, rfl⟩ := h
          have run : (execOp a.eval o).run P w = .ok (.value (.slice (some ⟨w.heap.size, 0, none⟩) 0 0)) (w.alloc (.cells #[] e)) := by
            simp only [execOp, ho, Instr.buildSlice, Sem.run_bind, run_underlying (sliceElem_ok he), Result.andThen_ok, run_sizeOf' hq, Nat.zero_mul]
            simp [Instr.fill, Sem.run_bind, newRow, run_newObj, Result.andThen, show Array.range 0 = (#[] : Array Nat) by rfl]
          exact ⟨_, _, _, _, β, run, .inl rfl, r.allocFree #[] e, ⟨⟨_, 0, rfl, by simp, by simp, .inl rfl⟩, _, 0, rfl⟩⟩
        grind
      grind
    grind
  | mkM =>
    simp only [mOp] at hm
    split at hm
    · rename_i t ho
      simp only [exec1, Option.some.injEq, Prod.mk.injEq] at h
      obtain ⟨rfl, rfl⟩ := h
      have run : (execOp a.eval o).run P w = .ok (.value (.map (some w.heap.size))) (w.alloc (.map #[] 0)) := by
        have hk : (Instr.makeMap t none).run P w = .ok (.map (some w.heap.size)) (w.alloc (.map #[] 0)) := rfl
        simp only [execOp, ho, Sem.run_bind, Option.map_none, hk, Result.andThen_ok, Sem.run_pure]
      exact ⟨_, _, _, _, β, run, .inl rfl, r.allocMap, ⟨_, rfl⟩⟩
    grind
  | newM =>
    simp only [mOp] at hm
    split at hm
    · rename_i t ho
      exact makes_newM r ho h
    · cases hm
  | lkM kd zero one ok m x =>
    simp only [mOp] at hm
    split at hm
    · rename_i t m' x' ok' ho
      simp only [Bool.and_eq_true, beq_iff_eq] at hm
      obtain ⟨⟨⟨rfl, h1⟩, h2⟩, h3⟩ := hm
      split at h3
      · rename_i et he
        obtain ⟨kt, e1, e2⟩ := mapElem_ok he
        split at h3
        · rename_i i hi
          split at h3
          · rename_i z zv hz hv
            exact makes_lkM r ho h1 h2 e1 e2 hi hz hv h3 h
          · cases h3
        · cases h3
      · cases h3
    · cases hm
  | upM kd m x y =>
    simp only [mOp] at hm
    split at hm
    · rename_i t m' x' y' ho
      simp only [Bool.and_eq_true] at hm
      obtain ⟨⟨⟨h1, h2⟩, h3⟩, h4⟩ := hm
      obtain ⟨et, he⟩ := Option.isSome_iff_exists.1 h4
      obtain ⟨kt, e1, e2⟩ := mapElem_ok he
      exact makes_upM r (.inl ho) h1 h2 h3 e1 e2 h
    · rename_i t m' x' y' ho
      simp only [Bool.and_eq_true] at hm
      obtain ⟨⟨⟨h1, h2⟩, h3⟩, h4⟩ := hm
      obtain ⟨et, he⟩ := Option.isSome_iff_exists.1 h4
      obtain ⟨kt, e1, e2⟩ := mapElem_ok he
      exact makes_upM r (.inr ho) h1 h2 h3 e1 e2 h
    · cases hm
  | appF s bytes x y =>
    simp only [mOp] at hm
    split at hm
    · rename_i x' y' t u' ho
      simp only [Bool.and_eq_true, beq_iff_eq] at hm
      obtain ⟨⟨⟨⟨h1, h2⟩, rfl⟩, h3⟩, h4⟩ := hm
      split at h4
      · rename_i e he
        split at h4
        · rename_i q hq
          simp only [Bool.and_eq_true, beq_iff_eq] at h4
          obtain ⟨⟨rfl, rfl⟩, h5⟩ := h4
          split at h5
          · rename_i z hz
            simp only [exec1] at h
            split at h
            · rename_i rows0 hxf
              have hx := mOpd_ok r h1
              rw [hxf] at hx
              simp only [RV, RV1, RW] at hx
              split at h
              · rename_i hrows
                simp only [Option.some.injEq, Prod.mk.injEq] at h
                obtain ⟨rfl, rfl⟩ := h
                have hy := mOpd_ok r h2
                obtain ⟨yb, yc, hyv, _⟩ := rowsRead r hy hrows (s := q.size) (by simp)
                have hx' := hx
                simp only [RD] at hx'
                obtain ⟨⟨base, cap, hxv, _⟩, base', n, hxn⟩ := hx'
                have hcap : rows0.length ≤ cap := by
                  omega
                have hrun := run_append_zero (P := P) (w := w) (ty := o.type) (yb := yb) (yc := yc) (base := base) (n := rows0.length) (cap := cap) (sliceElem_ok he) hq hcap
                simp only [List.length_nil] at hyv
                rw [← hxv, ← hyv] at hrun
                exact ⟨_, _, w, ω, β, run_call_append ho hrun, .inl rfl, r, by grind [RV, RV1, RW]⟩
              · exact makes_app (mk := true) (x' := x) (y' := y) r ho h1 h2 (sliceElem_ok he) hq hz (by grind) (Nat.le_of_ble_eq_true (show Nat.ble (0 + 1) q.size = true from h3)) (by simp only [exec1, hxf]; exact h)
            grind
          grind
        grind
      grind
    grind
  | cvB x =>
    simp only [mOp] at hm
    grind [makes_cvB]
  | newA n zero =>
    simp only [mOp] at hm
    split at hm
    · rename_i t ho
      simp only [Bool.and_eq_true] at hm
      obtain ⟨h1, h2⟩ := hm
      split at h1
      · rename_i i hi
        split at h1
        · rename_i z hz
          exact makes_newA r ho hi hz h1 (Nat.le_of_ble_eq_true (show Nat.ble (0 + 1) zero.length = true from h2)) h
        grind
      grind
    grind
  | slA s n x lo hi =>
    simp only [mOp] at hm
    split at hm
    · rename_i t x' lo' hi' ho
      simp only [Bool.and_eq_true] at hm
      obtain ⟨⟨⟨h1, h2⟩, h3⟩, h4⟩ := hm
      split at h4
      · rename_i m e hu
        simp only [Bool.and_eq_true, beq_iff_eq] at h4
        obtain ⟨rfl, h5⟩ := h4
        split at h5
        · rename_i q hq
          simp only [beq_iff_eq] at h5
          subst h5
          obtain ⟨rfl, hg⟩ := gives_slA r ho h1 h2 h3 hu hq h
          exact hg.makes r
        grind
      grind
    grind
  | cvS x =>
    simp only [mOp] at hm
    split at hm
    · rename_i src dst x' ho
      simp only [Bool.and_eq_true] at hm
      obtain ⟨⟨h1, h2⟩, h3⟩ := hm
      split at h2
      · rename_i hd
        split at h3
        · rename_i e hs
          split at h3
          · rename_i he
            obtain ⟨rfl, hg⟩ := gives_cvS r ho h1 hs he hd h
            exact hg.makes r
          grind
        grind
      grind
    grind
  | clr s zero x =>
    simp only [mOp] at hm
    split at hm
    · rename_i x' t ho
      simp only [Bool.and_eq_true] at hm
      obtain ⟨⟨h1, h3⟩, h4⟩ := hm
      split at h4
      · rename_i e he
        split at h4
        · rename_i q hq
          simp only [Bool.and_eq_true, beq_iff_eq] at h4
          obtain ⟨rfl, h5⟩ := h4
          split at h5
          · rename_i z hz
            simp only [Bool.and_eq_true, beq_iff_eq] at h5
            exact makes_clr r ho h1 (sliceElem_ok he) hq hz h5.2 h5.1 (Nat.le_of_ble_eq_true (show Nat.ble (0 + 1) q.size = true from h3)) h
          grind
        grind
      grind
    grind
  | ldD ag n x => simp [mOp] at hm
  | mvD x => simp [mOp] at hm
  | bldD z ps => simp [mOp] at hm
  | bad => simp [exec1] at h
  | nn x =>
    simp only [mOp] at hm
    split at hm
    · rename_i x' ho
      simp only [exec1] at h
      have hu0 : u = [] := by
        grind
      subst hu0
      exact (gives_nn r ho hm h).makes r
    grind

end
end Go.Vs

/- The value semantics, 16: renaming of objects; what a frame hands over as data. -/
namespace Go.Vs
open Go

section
variable {w w' : World} {ω ω' : Nat → Nat} {β β' : Nat → Option Nat} {L L' : Nat → Option Obj}

/-- The new names of objects stand for the same objects. -/
def Ren (ρ : Nat → Option Nat) (β : Nat → Option Nat) (L : Nat → Option Obj) (β' : Nat → Option Nat) (L' : Nat → Option Obj) : Prop :=
  ∀ k j o, ρ k = some j → L k = some o → L' j = some (o.ren ρ) ∧ β' j = β k

theorem RWlist.rens {ρ : Nat → Option Nat} {d : Nat} (h : ∀ (x : W) (v : Value), RW w ω β L x v → RW w ω β' L' (x.ren ρ d) v) : ∀ (xs : List W) (vs : List Value), RWlist w ω β L xs vs → RWlist w ω β' L' (xs.map (W.ren ρ d)) vs
  | [], [], _ => by simp [RWlist]
  | [], _ :: _, h => by simp [RWlist] at h
  | _ :: _, [], h => by simp [RWlist] at h
  | x :: xs, v :: vs, hr => by
    simp only [RWlist] at hr
    simp only [List.map_cons, RWlist]
    exact ⟨h x v hr.1, RWlist.rens h xs vs hr.2⟩

theorem RWcaps.rens {ρ : Nat → Option Nat} {d : Nat} (h : ∀ (x : W) (v : Value), RW w ω β L x v → RW w ω β' L' (x.ren ρ d) v) : ∀ (ones : List Bool) (caps : List (List W)) (vs : List Value), RWcaps w ω β L ones caps vs → RWcaps w ω β' L' ones (caps.map (·.map (W.ren ρ d))) vs
  | [], [], [], _ => by simp [RWcaps]
  | [], [], _ :: _, h => by simp [RWcaps] at h
  | [], _ :: _, _, h => by simp [RWcaps] at h
  | _ :: _, [], _, h => by simp [RWcaps] at h
  | _ :: _, _ :: _, [], h => by simp [RWcaps] at h
  | o :: os, r :: rs, v :: vs, hr => by
    simp only [RWcaps] at hr
    simp only [List.map_cons, RWcaps]
    obtain ⟨⟨xs, h1, h2⟩, h3⟩ := hr
    exact ⟨⟨xs, RWlist.rens h r xs h1, h2⟩, RWcaps.rens h os rs vs h3⟩

theorem RW.rename {ρ : Nat → Option Nat} (hρ : Ren ρ β L β' L') : ∀ (d : Nat) (x : W) (v : Value), RW w ω β L x v → RW w ω β' L' (x.ren ρ d) v := by
  intro d
  induction d with
  | zero =>
    intro x v h
    cases x <;> simp only [W.ren]
    case c => exact h
    case nil => exact h
    case full => exact h
    case e0 => exact h
    case sk => exact h
    case un => simp [RW]
    case clo => simp [RW]
    case ifw => simp [RW]
    case arr k n =>
      cases hk : ρ k with
      | none => simp [RW]
      | some j =>
        simp only [RW] at h ⊢
        obtain ⟨s, rows, p, h1, h2, h3, h4⟩ := h
        obtain ⟨h5, h6⟩ := hρ k j _ hk h1
        refine ⟨s, _, p, h5, by grind, h3, fun hn => ?_⟩
        rcases h4 (by grind) with ⟨b, cap, cur, t, g1, g2, g3, g4⟩ | ⟨g1, g2, g3⟩
        · exact .inl ⟨b, cap, cur, t, h6.trans g1, g2, g3, g4⟩
        · exact .inr ⟨h6.trans g1, g2, g3⟩
    case vw k M lo n =>
      cases hk : ρ k with
      | none => simp [RW]
      | some j =>
        simp only [RW] at h ⊢
        obtain ⟨s, rows, p, h1, h2, h3, h4⟩ := h
        obtain ⟨h5, h6⟩ := hρ k j _ hk h1
        refine ⟨s, _, p, h5, by grind, h3, fun hn hl => ?_⟩
        rcases h4 (by grind) hl with ⟨g, g', g''⟩ | ⟨b, cap, cur, t, g1, g2⟩
        · exact .inl ⟨g, fun e => ⟨h6.trans (g' e).1, (g' e).2⟩, g''⟩
        · exact .inr ⟨b, cap, cur, t, h6.trans g1, g2⟩
    case ptr k off =>
      cases hk : ρ k with
      | none => simp [RW]
      | some j =>
        simp only [RW] at h ⊢
        obtain ⟨cells, b, h1, h2, h3⟩ := h
        obtain ⟨h5, h6⟩ := hρ k j _ hk h1
        exact ⟨_, b, h5, h6.trans h2, h3⟩
    case mr k =>
      cases hk : ρ k with
      | none => simp [RW]
      | some j =>
        simp only [RW] at h ⊢
        obtain ⟨es, b, h1, h2, h3⟩ := h
        obtain ⟨h5, h6⟩ := hρ k j _ hk h1
        exact ⟨_, b, h5, h6.trans h2, h3⟩
    case el k M i off =>
      cases hk : ρ k with
      | none => simp [RW]
      | some j =>
        simp only [RW] at h ⊢
        obtain ⟨s, rows, p, h1, h2, h3, h4⟩ := h
        obtain ⟨h5, h6⟩ := hρ k j _ hk h1
        refine ⟨s, _, p, h5, by grind, h3, fun hn hl => ?_⟩
        grind
  | succ d ih =>
    intro x v h
    cases x with
    | e0 b => grind [W.ren]
    | clo f ones caps =>
      grind [W.ren, RW, RWcaps.rens]
    | ifw t one row =>
      grind [W.ren, RW, RWlist.rens]
    | c y => exact h
    | nil => exact h
    | full r => exact h
    | sk => exact h
    | un => simp [W.ren, RW]
    | mr k =>
      grind [W.ren]
    | arr k n =>
      grind [W.ren]
    | vw k M lo n =>
      grind [W.ren]
    | ptr k off =>
      grind [W.ren]
    | el k M i off =>
      grind [W.ren]

theorem RV1.rename {ρ : Nat → Option Nat} (hρ : Ren ρ β L β' L') {x : V} {v : Value} (h : RV1 w ω β L x v) : RV1 w ω β' L' (x.ren ρ) v := by
  cases x with
  | sc x => exact RW.rename hρ deep x v h
  | ag cs => obtain ⟨a, h1, h2⟩ := h; exact ⟨a, h1, RWlist.rens (fun x v => RW.rename hρ deep x v) cs _ h2⟩
  | tu l => exact h.elim

theorem RVs.rename {ρ : Nat → Option Nat} (hρ : Ren ρ β L β' L') : ∀ {l : List V} {vs : List Value}, RVs w ω β L l vs → RVs w ω β' L' (l.map (V.ren ρ)) vs
  | [], [], _ => trivial
  | [], _ :: _, h => h.elim
  | _ :: _, [], h => h.elim
  | _ :: _, _ :: _, h => ⟨h.1.rename hρ, RVs.rename hρ h.2⟩

theorem RV.rename {ρ : Nat → Option Nat} (hρ : Ren ρ β L β' L') {x : V} {v : Value} (h : RV w ω β L x v) : RV w ω β' L' (x.ren ρ) v := by
  cases x with
  | sc x => exact RV1.rename (x := .sc x) hρ h
  | ag x => exact RV1.rename (x := .ag x) hρ h
  | tu l =>
    obtain ⟨a, h1, h2⟩ := h
    have e : V.ren ρ (.tu l) = .tu (l.map fun | .sc w => .sc (w.ren ρ deep) | .ag cs => .ag (cs.map (W.ren ρ deep)) | .tu _ => .sc .un) := rfl
    rw [e]
    refine ⟨a, h1, ?_⟩
    have : ∀ {l : List V} {vs : List Value}, RVs w ω β L l vs → RVs w ω β' L' (l.map fun | .sc w => .sc (w.ren ρ deep) | .ag cs => .ag (cs.map (W.ren ρ deep)) | .tu _ => .sc .un) vs := by
      intro l
      induction l with
      | nil => intro vs h; cases vs with
        | nil => trivial
        | cons _ _ => exact h.elim
      | cons x l ih => intro vs h; cases vs with
        | nil => exact h.elim
        | cons v vs =>
          refine ⟨?_, ih h.2⟩
          have h3 := h.1
          cases x with
          | sc x => exact RW.rename hρ deep x v h3
          | ag cs => obtain ⟨a, h1, h2⟩ := h3; exact ⟨a, h1, RWlist.rens (fun x v => RW.rename hρ deep x v) cs _ h2⟩
          | tu l => exact h3.elim
    grind

theorem flatten_ren {ρ : Nat → Option Nat} {d : Nat} : ∀ rows : List (List W), (rows.map (·.map (W.ren ρ d))).flatten = rows.flatten.map (W.ren ρ d)
  | [] => rfl
  | r :: rs => by simp

theorem ObjOk.rename {ρ : Nat → Option Nat} (hρ : Ren ρ β L β' L') {k j : Nat} {o : Obj} (hk : β' j = β k) (h : ObjOk w ω β L k o) : ObjOk w ω β' L' j (o.ren ρ) := by
  cases o with
  | box cells =>
    obtain ⟨b, cs, t, h1, h2, h3, h4⟩ := h
    exact ⟨b, cs, t, hk.trans h1, h2, RWlist.rens (fun x v => RW.rename hρ deep x v) cells _ h3, h4⟩
  | arr s rows p =>
    obtain ⟨h1, h2, h3, h4⟩ := h
    refine ⟨h1, ?_, by grind, ?_⟩
    grind
    · rcases h4 with ⟨b, cap, cur, t, g1, g2, g3, g4, g5, g6, g7⟩ | ⟨g1, g2⟩
      · refine .inl ⟨b, cap, cur, t, hk.trans g1, g2, g3, by grind, g5, ?_, g7⟩
        rw [flatten_ren, List.length_map]
        exact RWlist.rens (fun x v => RW.rename hρ deep x v) _ _ g6
      grind
  | mp es =>
    obtain ⟨b, arr, clock, h1, h2, h3, h4⟩ := h
    exact ⟨b, arr, clock, hk.trans h1, h2, h3, h4⟩

/- ## Data -/

/-- In ω' the rows of these arrays are published. -/
def Shows (β : Nat → Option Nat) (L : Nat → Option Obj) (ω' : Nat → Nat) (ids : List Nat) : Prop :=
  ∀ k ∈ ids, ∀ s rows p b, L k = some (.arr s rows p) → β k = some b → rows.length * s ≤ ω' b

theorem listM_rd {f : W → Option Cell} (h : ∀ (x : W) (v : Value) (c : Cell), RW w ω β L x v → f x = some c → RD w ω' c v) : ∀ {xs : List W} {vs : List Value} {cs : List Cell}, RWlist w ω β L xs vs → listM f xs = some cs → RDlist w ω' cs vs
  | [], [], cs, _, hf => by grind [listM, RDlist]
  | [], _ :: _, _, hr, _ => by simp [RWlist] at hr
  | _ :: _, [], _, hr, _ => by simp [RWlist] at hr
  | x :: xs, v :: vs, cs, hr, hf => by
    simp only [RWlist] at hr
    simp only [listM] at hf
    cases hx : f x with
    | none => grind
    | some c =>
      simp only [hx] at hf
      cases hl : listM f xs with
      | none => simp [hl] at hf
      | some cs' =>
        simp only [hl, Option.some.injEq] at hf
        subst hf
        simp only [RDlist]
        exact ⟨h x v c hr.1 hx, listM_rd h hr.2 hl⟩

theorem listM_len {α γ : Type} {f : α → Option γ} {l : List α} {r : List γ} (h : listM f l = some r) : r.length = l.length := (listM_some h).1

/-- Rows that lie one behind the other, published. -/
theorem rows_rd {b s : Nat} {f : List W → Option (List Cell)} : ∀ {rows : List (List W)} {css : List (List Cell)} {o : Nat} {vs : List Value}, (∀ r ∈ rows, r.length = s) → listM f rows = some css →
    (∀ r ∈ rows, ∀ (us : List Value) (cs : List Cell), RWlist w ω β L r us → f r = some cs → RDlist w ω' cs us ∧ cs.length = r.length) →
    RWlist w ω β L rows.flatten vs → (∀ (j : Nat) (u : Value), vs[j]? = some u → at? w b (o + j) = some u ∧ o + j < ω' b) → RDrows w ω' b s o css
  | [], css, o, vs, _, hf, _, _, _ => by grind [listM, RDrows]
  | r :: rs, css, o, vs, hs, hf, hg, hr, hat => by
    simp only [listM] at hf
    cases hx : f r with
    | none => grind
    | some c =>
      simp only [hx] at hf
      cases hl : listM f rs with
      | none => grind
      | some cs' =>
        simp only [hl, Option.some.injEq] at hf
        subst hf
        have hrs : r.length = s := hs r (by simp)
        have h1 := hr.take s
        have h2 := hr.drop s
        simp only [List.flatten_cons, ← hrs, List.take_left'] at h1
        simp only [List.flatten_cons, ← hrs, List.drop_left'] at h2
        rw [hrs] at h1 h2
        obtain ⟨h3, h4⟩ := hg r (by simp) _ c h1 hx
        simp only [RDrows]
        refine ⟨h4.trans hrs, RDcells.mk h3 ?_, rows_rd (fun q hq => hs q (by simp [hq])) hl (fun q hq => hg q (by simp [hq])) h2 ?_⟩ <;> grind

theorem caps_rd {f : List W → Option (List Cell)} : ∀ {ones : List Bool} {caps : List (List W)} {css : List (List Cell)} {vs : List Value}, listM f caps = some css →
    (∀ r ∈ caps, ∀ (us : List Value) (cs : List Cell), RWlist w ω β L r us → f r = some cs → RDlist w ω' cs us) → RWcaps w ω β L ones caps vs → RDcaps w ω' ones css vs
  | [], [], css, [], hf, _, _ => by grind [listM, RDcaps]
  | [], [], _, _ :: _, _, _, h => by simp [RWcaps] at h
  | [], _ :: _, _, _, _, _, h => by simp [RWcaps] at h
  | _ :: _, [], _, _, _, _, h => by simp [RWcaps] at h
  | _ :: _, _ :: _, _, [], _, _, h => by simp [RWcaps] at h
  | o :: os, r :: rs, css, v :: vs, hf, hg, h => by
    simp only [listM] at hf
    cases hx : f r with
    | none => grind
    | some c =>
      simp only [hx] at hf
      cases hl : listM f rs with
      | none => grind
      | some cs' =>
        simp only [hl, Option.some.injEq] at hf
        subst hf
        simp only [RWcaps] at h
        obtain ⟨⟨xs, h1, h2⟩, h3⟩ := h
        simp only [RDcaps]
        exact ⟨⟨xs, hg r (by simp) xs c h1 hx, h2⟩, caps_rd hl (fun q hq => hg q (by grind)) h3⟩

theorem toC_ok (hobj : ∀ k o, L k = some o → ObjOk w ω β L k o) (g : Grows w ω w ω') : ∀ (d : Nat) (x : W) (v : Value) (c : Cell), RW w ω β L x v → W.toC L d x = some c → Shows β L ω' (W.ids L d x) → RD w ω' c v := by
  intro d
  induction d with
  | zero =>
    intro x v c h hc _
    cases x <;> simp only [W.toC, reduceCtorEq, Option.some.injEq] at hc
    case c => subst hc; simp only [RW] at h; exact h.grow g
    grind [RW, RD]
    case full => subst hc; simp only [RW] at h; exact h.1.grow g
    grind [RW, RD]
  | succ d ih =>
    intro x v c h hc hsh
    have rowf : ∀ (r : List W), (∀ x ∈ r, Shows β L ω' (W.ids L d x)) → ∀ (us : List Value) (cs : List Cell), RWlist w ω β L r us → listM (W.toC L d) r = some cs → RDlist w ω' cs us := by
      intro r
      induction r with
      | nil => grind [listM, RDlist, RWlist]
      | cons y ys ihr =>
        intro hs us cs hr hl
        cases us <;> grind [RWlist, listM, RDlist]
    cases x <;> simp only [W.toC, reduceCtorEq, Option.some.injEq] at hc
    case c => subst hc; simp only [RW] at h; exact h.grow g
    grind [RW, RD]
    case full => subst hc; simp only [RW] at h; exact h.1.grow g
    case e0 => grind [RW, RD]
    case arr k n =>
      simp only [RW] at h
      obtain ⟨s, rows, p, h1, h2, h3, h4⟩ := h
      simp only [h1] at hc
      cases hb : (rows.length == n) with
      | false => grind
      | true =>
        simp only [hb, cond_true] at hc
        have hn : n = rows.length := (by grind : rows.length = n).symm
        subst hn
        cases hl : listM (listM (W.toC L d)) rows with
        | none => grind
        | some css =>
          simp only [hl, Option.map_some, Option.some.injEq] at hc
          subst hc
          have hlen := listM_len hl
          obtain ⟨f1, f2, f3, f4⟩ := hobj k _ h1
          simp only [RD]
          rcases h4 rfl with ⟨b, cap, cur, t, g1, g2, g3, g4⟩ | ⟨g1, g2, base, g3⟩
          · rcases f4 with ⟨b', cap', cur', t', k2, k3, k4, k5, k6, k7, k8⟩ | ⟨k2, _⟩
            · rw [g1] at k2; cases k2; rw [g3] at k3; cases k3
              have hcc : cap = cap' := Nat.eq_of_mul_eq_mul_right f1 (g4.symm.trans k4)
              subst hcc
              refine ⟨_, cap, by rw [hlen]; exact g2, by omega, k6, ?_⟩
              by_cases hne : css = []
              grind
              right
              have hsub : ∀ r ∈ rows, ∀ x ∈ r, Shows β L ω' (W.ids L d x) := by
                intro r hr x hx q hq
                refine hsh q ?_
                simp only [W.ids, h1, List.mem_cons, List.mem_flatMap]
                exact .inr ⟨r, hr, x, hx, hq⟩
              refine ⟨b, 0, s, rfl, f1, rows_rd f2 hl (fun r hr us cs hru hrc => ⟨rowf r (hsub r hr) us cs hru hrc, listM_len hrc⟩) k7 ?_⟩
              intro j u hu
              rw [List.getElem?_take] at hu
              split at hu
              · rename_i hj
                rw [Nat.zero_add, at?_block g3, ← Array.getElem?_toList]
                refine ⟨hu, Nat.lt_of_lt_of_le hj ?_⟩
                exact hsh k (by simp [W.ids]) s rows p b h1 g1
              grind
            grind
          grind
    case vw k M lo n =>
      simp only [RW] at h
      obtain ⟨s, rows, p, h1, h2, h3, h4⟩ := h
      simp only [h1] at hc
      cases hb : (rows.length == M && Nat.ble (lo + n) M) with
      | false => grind
      | true =>
        simp only [hb, cond_true] at hc
        simp only [Bool.and_eq_true, beq_iff_eq] at hb
        obtain ⟨hn, hle⟩ := hb
        subst hn
        have hle := Nat.le_of_ble_eq_true hle
        cases hl : listM (listM (W.toC L d)) ((rows.drop lo).take n) with
        | none => grind
        | some css =>
          simp only [hl, Option.map_some, Option.some.injEq] at hc
          subst hc
          have hlen := listM_len hl
          have hlen' : css.length = n := by grind
          obtain ⟨f1, f2, f3, f4⟩ := hobj k _ h1
          simp only [RD]
          rcases h4 rfl hle with ⟨g1, base, cap, g2, g3⟩ | ⟨b, cap, cur, t, g1, g2, g3, g4, g5, g6⟩
          grind
          · rcases f4 with ⟨b', cap', cur', t', k2, k3, k4, k5, k6, k7, k8⟩ | ⟨k2, _⟩
            · rw [g1] at k2; cases k2; rw [g5] at k3; cases k3
              refine ⟨_, cap, by rw [hlen']; exact g2, by omega, g4, ?_⟩
              by_cases hne : css = []
              grind
              right
              have hsub : ∀ r ∈ (rows.drop lo).take n, ∀ x ∈ r, Shows β L ω' (W.ids L d x) := by
                intro r hr x hx q hq
                refine hsh q ?_
                grind [W.ids]
              have hd : ∀ (m : Nat) (rows : List (List W)), (∀ r ∈ rows, r.length = s) → (rows.drop m).flatten = rows.flatten.drop (m * s) := by
                intro m
                induction m with
                | zero => simp
                | succ m ihm =>
                  intro rows hrs
                  cases rows with
                  | nil => simp
                  | cons x xs =>
                    rw [List.drop_succ_cons, ihm xs (fun r hr => hrs r (by grind)), List.flatten_cons]
                    have hx := hrs x (by simp)
                    rw [show (m + 1) * s = x.length + m * s from by grind, ← List.drop_drop]
                    simp
              have ht : ∀ (m : Nat) (rows : List (List W)), (∀ r ∈ rows, r.length = s) → (rows.take m).flatten = rows.flatten.take (m * s) := by
                intro m
                induction m with
                | zero => simp
                | succ m ihm =>
                  intro rows hrs
                  cases rows with
                  | nil => simp
                  | cons x xs =>
                    rw [List.take_succ_cons, List.flatten_cons, ihm xs (fun r hr => hrs r (by grind)), List.flatten_cons]
                    grind [Nat.add_mul]
              have hyf : RWlist w ω β L ((rows.drop lo).take n).flatten (((cur.toList.take (rows.length * s)).drop (lo * s)).take (n * s)) := by
                rw [ht _ _ (fun r hr => f2 r (List.mem_of_mem_drop hr)), hd _ _ f2]
                exact (k7.drop _).take _
              refine ⟨b, lo * s, s, rfl, f1, rows_rd (fun r hr => f2 r (List.mem_of_mem_drop (List.mem_of_mem_take hr))) hl (fun r hr us cs hru hrc => ⟨rowf r (hsub r hr) us cs hru hrc, listM_len hrc⟩) hyf ?_⟩
              intro j u hu
              rw [List.getElem?_take] at hu
              split at hu
              · rw [List.getElem?_drop, List.getElem?_take] at hu
                split at hu
                · rename_i hj
                  rw [at?_block g5, ← Array.getElem?_toList]
                  refine ⟨hu, Nat.lt_of_lt_of_le hj ?_⟩
                  exact hsh k (by simp [W.ids]) s rows p b h1 g1
                grind
              grind
            grind
    case clo f ones caps =>
      simp only [RW] at h
      obtain ⟨cs, h1, h2⟩ := h
      cases hl : listM (listM (W.toC L d)) caps with
      | none => grind
      | some css =>
        simp only [hl, Option.map_some, Option.some.injEq] at hc
        subst hc
        simp only [RD]
        refine ⟨cs, h1, caps_rd hl (fun r hr us cs hru hrc => rowf r (fun x hx q hq => hsh q ?_) us cs hru hrc) h2⟩
        grind [W.ids]
    case ifw t one row =>
      simp only [RW] at h
      obtain ⟨x, vs, h1, h2, h3⟩ := h
      cases hl : listM (W.toC L d) row with
      | none => grind
      | some cs =>
        simp only [hl, Option.map_some, Option.some.injEq] at hc
        subst hc
        simp only [RD]
        refine ⟨x, vs, h1, rowf row (fun x hx q hq => hsh q ?_) vs cs h2 hl, h3⟩
        grind [W.ids]
end
end Go.Vs

/- The value semantics, 17: calls. -/
namespace Go.Vs
open Go

def Lof (objs : List Obj) : Nat → Option Obj := fun k => objs[k]?

/-- What a function owes: handed these values and objects, wherever they lie, it returns those, and leaves all else. -/
def Callable (P : Program) (f : FuncId) : Prop := ∃ fn, P.funcs[f]? = some fn ∧ fn.body.isSome = true ∧ (fn.name == "runtime.NumGoroutine") = false

def FnOk (P : Program) (GL : Nat → List Cell) (f : FuncId) (args : List V) (objs : List Obj) (rv : V) (objs' : List Obj) : Prop :=
  Callable P f ∧ ∀ (w : World) (ω : Nat → Nat) (β : Nat → Option Nat) (cargs : Array Value), (∀ g, RDcells w ω g 0 (GL g)) → RVs w ω β (Lof objs) args cargs.toList →
    (∀ k o, Lof objs k = some o → ObjOk w ω β (Lof objs) k o) →
    (∀ j k b, Lof objs j ≠ none → Lof objs k ≠ none → β j = some b → β k = some b → j = k) →
    Calls P f cargs w fun e w' => ∃ vv ω' β', e = .returned vv ∧ RV w' ω' β' (Lof objs') rv vv ∧
      (∀ k o, Lof objs' k = some o → ObjOk w' ω' β' (Lof objs') k o) ∧
      (∀ j k b, Lof objs' j ≠ none → Lof objs' k ≠ none → β' j = some b → β' k = some b → j = k) ∧
      Keeps w ω (fun b => ∃ k, Lof objs k ≠ none ∧ β k = some b) w' ω' ∧
      (∀ k b, Lof objs' k ≠ none → β' k = some b → (∃ j, Lof objs j ≠ none ∧ β j = some b) ∨ w.heap.size ≤ b) ∧
      (∀ k, Tr w β w' β' (Lof objs) (Lof objs') k)

/-- The same of another way of calling. -/
def FnOkK (P : Program) (K : FuncId → Array Value → World → (Ending → World → Prop) → Prop) (GL : Nat → List Cell) (f : FuncId) (args : List V) (objs : List Obj) (rv : V) (objs' : List Obj) : Prop :=
  Callable P f ∧ ∀ (w : World) (ω : Nat → Nat) (β : Nat → Option Nat) (cargs : Array Value), (∀ g, RDcells w ω g 0 (GL g)) → RVs w ω β (Lof objs) args cargs.toList →
    (∀ k o, Lof objs k = some o → ObjOk w ω β (Lof objs) k o) →
    (∀ j k b, Lof objs j ≠ none → Lof objs k ≠ none → β j = some b → β k = some b → j = k) →
    K f cargs w fun e w' => ∃ vv ω' β', e = .returned vv ∧ RV w' ω' β' (Lof objs') rv vv ∧
      (∀ k o, Lof objs' k = some o → ObjOk w' ω' β' (Lof objs') k o) ∧
      (∀ j k b, Lof objs' j ≠ none → Lof objs' k ≠ none → β' j = some b → β' k = some b → j = k) ∧
      Keeps w ω (fun b => ∃ k, Lof objs k ≠ none ∧ β k = some b) w' ω' ∧
      (∀ k b, Lof objs' k ≠ none → β' k = some b → (∃ j, Lof objs j ≠ none ∧ β j = some b) ∨ w.heap.size ≤ b) ∧
      (∀ k, Tr w β w' β' (Lof objs) (Lof objs') k)

def OracleOk (P : Program) (C : Ctx) : Prop := ∀ f args objs rv objs', C.call f args objs = some (rv, objs') → FnOk P C.gl f args objs rv objs'

section
variable {P : Program} {C : Ctx} {N : Nat} {w0 : World} {ω0 : Nat → Nat} {S : Fr} {E : Nat → Option V} {L : Nat → Option Obj} {a : Act} {w : World} {ω : Nat → Nat} {β : Nat → Option Nat}
variable {o : Oper} {v : V}

/- lists without repetition -/

theorem nubs_mem (l : List Nat) : ∀ k, k ∈ nubs l ↔ k ∈ l := by
  induction l <;> grind [nubs]

theorem nubs_nodup (l : List Nat) : (nubs l).Nodup := by
  induction l <;> grind [nubs]

theorem reachN_nodup (L : Nat → Option Obj) : ∀ (n : Nat) (ks : List Nat), ks.Nodup → (reachN L n ks).Nodup
  | 0, _, h => h
  | n + 1, ks, h => by
    simp only [reachN]
    cases (growRefs L ks).length == ks.length with
    | true => exact h
    | false => exact reachN_nodup L n _ (nubs_nodup _)

theorem reach_nodup (L : Nat → Option Obj) (ks : List Nat) : (reach L ks).Nodup := by
  unfold reach
  split
  simp
  · exact reachN_nodup L _ _ (nubs_nodup _)

theorem indexIn_get : ∀ {l : List Nat} {k i : Nat}, indexIn l k = some i → l[i]? = some k
  | [], _, _, h => by simp [indexIn] at h
  | j :: r, k, i, h => by
    simp only [indexIn] at h
    cases hb : (j == k) with
    | true =>
      grind
    | false =>
      simp only [hb, cond_false] at h
      cases hr : indexIn r k with
      | none => grind
      | some q =>
        simp only [hr, Option.map_some, Option.some.injEq] at h
        subst h
        simpa using indexIn_get hr

theorem nodup_inj : ∀ {l : List Nat}, l.Nodup → ∀ {i j k : Nat}, l[i]? = some k → l[j]? = some k → i = j
  | [], _, i, j, k, h, _ => by grind
  | x :: l, hn, i, j, k, hi, hj => by
    obtain ⟨hx, hn⟩ := List.nodup_cons.1 hn
    cases i with
    | zero => grind
    | succ i => cases j with
      | zero =>
        grind
      | succ j => exact congrArg (· + 1) (nodup_inj hn (by simpa using hi) (by grind))

/- ## Publishing -/

theorem publish_ex (r : Rel C.gl N w0 ω0 S E L a w ω β) : ∀ ds : List Nat, ∃ ω', Grows w ω w ω' ∧ (∀ k ∈ ds, ∀ s rows p b, L k = some (.arr s rows p) → β k = some b → ω' b = rows.length * s) ∧
    (∀ b, (∀ k ∈ ds, ∀ s rows p, L k = some (.arr s rows p) → β k ≠ some b) → ω' b = ω b)
  | [] => ⟨ω, Grows.refl w ω, by simp, fun _ _ => rfl⟩
  | k :: ds => by
    obtain ⟨ω', g, h1, h2⟩ := publish_ex r ds
    cases hL : L k with
    | none =>
      grind
    | some ob => cases ob with
      | box cells =>
        grind
      | mp es =>
        grind
      | arr s rows p =>
        cases hβ : β k with
        | none =>
          grind
        | some b0 =>
          refine ⟨setN ω' b0 (rows.length * s), ⟨fun b i hi v hv => ⟨hv, ?_⟩⟩, fun j hj s' rows' p' b hLj hb => ?_, fun b hb => ?_⟩
          · by_cases hbb : b = b0
            · subst hbb
              simp only [setN, if_true]
              obtain ⟨f1, f2, f3, f4⟩ := r.obj k _ hL
              rcases f4 with ⟨b', cap, cur, t, k2, k3, k4, k5, k6, k7, k8⟩ | ⟨k2, _⟩
              · rw [hβ] at k2; cases k2
                have : p * s ≤ rows.length * s := Nat.mul_le_mul_right _ f3
                omega
              grind
            · simp only [setN, hbb, if_false]
              exact (g.pub b i hi v hv).2
          · by_cases hbb : b = b0
            · subst hbb
              have := r.inj j k b (by grind) (by grind) hb hβ
              grind [setN]
            grind [setN]
          grind [setN]

theorem pubUpd_ok {all : List Nat} : ∀ {ds : List Nat} {p : Upd} {M : Nat → Option Obj}, pubUpd L all ds = some p →
    (∀ k, k ∉ ds → updL M p k = M k) ∧ (∀ k ∈ ds, ∃ s rows q cs, L k = some (.arr s rows q) ∧ listM (listM (W.toC L deep)) rows = some cs ∧ updL M p k = some (.arr s (cs.map (·.map W.c)) rows.length) ∧
      ∀ r ∈ rows, ∀ x ∈ r, ∀ j ∈ W.ids L deep x, j ∈ all)
  | [], p, M, h => by simp [pubUpd] at h; subst h; exact ⟨fun _ _ => rfl, by simp⟩
  | k :: ds, p, M, h => by
    simp only [pubUpd] at h
    cases hL : L k with
    | none => grind
    | some ob => cases ob with
      | box _ => grind
      | mp _ => grind
      | arr s rows q =>
        simp only [hL] at h
        cases hc : listM (listM (W.toC L deep)) rows with
        | none => grind
        | some cs =>
          simp only [hc] at h
          cases hb : rows.all (fun q => q.all fun x => (W.ids L deep x).all fun j => all.contains j) with
          | false => grind
          | true =>
            rw [hb] at h
            simp only [cond_true] at h
            cases hp : pubUpd L all ds with
            | none => grind
            | some p' =>
              simp only [hp, Option.map_some, Option.some.injEq] at h
              subst h
              obtain ⟨h1, h2⟩ := pubUpd_ok (M := updO M k (some (.arr s (cs.map (·.map W.c)) rows.length))) hp
              have hin : ∀ r ∈ rows, ∀ x ∈ r, ∀ j ∈ W.ids L deep x, j ∈ all := by
                intro r hr x hx j hj
                have h3 := List.all_eq_true.1 hb r hr
                grind
              simp only [updL]
              grind [updO_ne, updO_same]

theorem updOf_ok : ∀ {ids : List Nat} {os : List Obj} {M : Nat → Option Obj}, ids.Nodup → ids.length ≤ os.length → (∀ k, k ∉ ids → updL M (updOf ids os) k = M k) ∧ (∀ (i : Nat) (k : Nat) (o : Obj), ids[i]? = some k → os[i]? = some o → updL M (updOf ids os) k = some o)
  | [], os, M, _, _ => by simp [updOf, updL]
  | k :: ids, [], M, _, h => by grind
  | k :: ids, o :: os, M, hn, hl => by
    obtain ⟨hk, hn⟩ := List.nodup_cons.1 hn
    obtain ⟨h1, h2⟩ := updOf_ok (M := updO M k (some o)) hn (by simpa using hl)
    simp only [updOf, updL]
    grind [updO_ne, updO_same]

/- ## Arguments -/

/-- Values with their meanings. -/
def ArgsOk (w : World) (ω : Nat → Nat) (β : Nat → Option Nat) (L : Nat → Option Obj) : List (Bool × V) → List Value → Prop
  | [], [] => True
  | x :: xs, v :: vs => RV w ω β L x.2 v ∧ ArgsOk w ω β L xs vs
  | _, _ => False

theorem ArgsOk.append : ∀ {xs ys : List (Bool × V)} {vs us : List Value}, ArgsOk w ω β L xs vs → ArgsOk w ω β L ys us → ArgsOk w ω β L (xs ++ ys) (vs ++ us)
  | [], _, [], _, _, h => h
  | [], _, _ :: _, _, h, _ => h.elim
  | _ :: _, _, [], _, h, _ => h.elim
  | _ :: _, _, _ :: _, _, h, h' => ⟨h.1, ArgsOk.append h.2 h'⟩

theorem listM_toC_rd {ω' : Nat → Nat} (hobj : ∀ k o, L k = some o → ObjOk w ω β L k o) (g : Grows w ω w ω') {d : Nat} : ∀ {cs : List W} {vs : List Value} {l : List Cell}, RWlist w ω β L cs vs → listM (W.toC L d) cs = some l → Shows β L ω' (cs.flatMap (W.ids L d)) → RDlist w ω' l vs
  | [], [], l, _, h, _ => by grind [listM, RDlist]
  | [], _ :: _, _, h, _, _ => by simp [RWlist] at h
  | _ :: _, [], _, h, _, _ => by simp [RWlist] at h
  | x :: xs, v :: vs, l, hr, h, hs => by
    simp only [RWlist] at hr
    simp only [listM] at h
    cases hx : W.toC L d x with
    | none => grind
    | some c =>
      simp only [hx] at h
      cases hl : listM (W.toC L d) xs with
      | none => grind
      | some l' =>
        simp only [hl, Option.some.injEq] at h
        subst h
        simp only [RDlist]
        exact ⟨toC_ok hobj g d x v c hr.1 hx fun k hk => hs k (by grind),
          listM_toC_rd hobj g hr.2 hl fun k hk => hs k (by grind)⟩

theorem toD_ok {ω' : Nat → Nat} (hobj : ∀ k o, L k = some o → ObjOk w ω β L k o) (g : Grows w ω w ω') {x d : V} {v : Value} (h : RV w ω β L x v) (hd : x.toD L = some d) (hs : Shows β L ω' (x.cells.flatMap (W.ids L deep))) :
    ∀ (β' : Nat → Option Nat) (L' : Nat → Option Obj), RV1 w ω' β' L' d v := by
  intro β' L'
  cases x with
  | sc x =>
    simp only [V.toD] at hd
    cases hc : W.toC L deep x with
    | none => grind
    | some c =>
      simp only [hc, Option.map_some, Option.some.injEq] at hd
      subst hd
      simp only [RV1, RW]
      exact toC_ok hobj g deep x v c h hc (by simpa [V.cells] using hs)
  | ag cs =>
    simp only [V.toD] at hd
    cases hc : listM (W.toC L deep) cs with
    | none => grind
    | some l =>
      simp only [hc, Option.map_some, Option.some.injEq] at hd
      subst hd
      obtain ⟨arr, h1, h2⟩ := h
      exact ⟨arr, h1, RDlist.to (listM_toC_rd hobj g h2 hc hs)⟩
  | tu l => simp [V.toD] at hd

theorem toR_list {ω' : Nat → Nat} (hobj : ∀ k o, L k = some o → ObjOk w ω β L k o) (g : Grows w ω w ω') (β' : Nat → Option Nat) (L' : Nat → Option Obj) : ∀ {cs l : List W} {us : List Value}, RWlist w ω β L cs us → listM (W.toR L) cs = some l →
    Shows β L ω' (cs.flatMap (W.ids L deep)) → RWlist w ω' β' L' l us
  | [], l, [], _, h, _ => by simp only [listM, Option.some.injEq] at h; subst h; trivial
  | [], _, _ :: _, hr, _, _ => by simp [RWlist] at hr
  | _ :: _, _, [], hr, _, _ => by simp [RWlist] at hr
  | x :: cs, l, u :: us, hr, h, hs => by
    simp only [listM] at h
    simp only [RWlist] at hr
    cases hx : W.toR L x with
    | none => grind
    | some y =>
      simp only [hx] at h
      cases hl : listM (W.toR L) cs with
      | none => grind
      | some l' =>
        simp only [hl, Option.some.injEq] at h
        subst h
        simp only [RWlist]
        refine ⟨?_, toR_list hobj g β' L' hr.2 hl fun k hk => hs k (by grind)⟩
        have fin : ∀ c, W.toC L deep x = some c → y = .c c → RW w ω' β' L' y u := by
          intro c hc hy
          subst hy
          simp only [RW]
          exact toC_ok hobj g deep x u c hr.1 hc fun k hk => hs k (by grind)
        grind [W.toR, RW, Option.map_eq_some_iff]

theorem toR_ok {ω' : Nat → Nat} (hobj : ∀ k o, L k = some o → ObjOk w ω β L k o) (g : Grows w ω w ω') {x d : V} {v : Value} (h : RV w ω β L x v) (hd : x.toR L = some d) (hs : Shows β L ω' (x.cells.flatMap (W.ids L deep))) :
    ∀ (β' : Nat → Option Nat) (L' : Nat → Option Obj), RV1 w ω' β' L' d v := by
  intro β' L'
  cases x with
  | sc x =>
    cases x with
    | full rows =>
      simp only [V.toR, Option.some.injEq] at hd
      subst hd
      have h' : RW w ω β L (.full rows) v := h
      simp only [RW] at h'
      simp only [RV1, RW]
      exact ⟨h'.1.grow g, h'.2⟩
    | _ => exact toD_ok hobj g (x := .sc _) h hd hs β' L'
  | ag cs =>
    simp only [V.toR] at hd
    obtain ⟨l, hl, rfl⟩ := Option.map_eq_some_iff.1 hd
    obtain ⟨arr, h1, h2⟩ := h
    exact ⟨arr, h1, toR_list hobj g β' L' h2 hl hs⟩
  | tu l => simp [V.toR] at hd

theorem argsOf_ok {ω' : Nat → Nat} (hobj : ∀ k o, L k = some o → ObjOk w ω β L k o) (g : Grows w ω w ω') : ∀ {xs : List (Bool × V)} {cvs : List Value} {vs : List V} {ds rs : List Nat}, ArgsOk w ω β L xs cvs → argsOf L xs = some (vs, ds, rs) →
    Shows β L ω' ds → RVs w ω' β L vs cvs
  | [], [], vs, ds, rs, _, h, _ => by simp [argsOf] at h; obtain ⟨rfl, _, _⟩ := h; trivial
  | [], _ :: _, _, _, _, h, _, _ => h.elim
  | _ :: _, [], _, _, _, h, _, _ => h.elim
  | (true, x) :: xs, cv :: cvs, vs, ds, rs, hr, h, hs => by
    have h1 : RV w ω' β L x cv := RV.step g (fun k => Tr.refl k) hr.1
    cases hq : argsOf L xs with
    | none => cases x <;> simp [argsOf, hq] at h
    | some q =>
      obtain ⟨vs', ds', rs'⟩ := q
      cases x with
      | tu l => simp [argsOf] at h
      | sc x =>
        simp only [argsOf, hq, Option.some.injEq, Prod.mk.injEq] at h
        obtain ⟨rfl, rfl, rfl⟩ := h
        exact ⟨h1, argsOf_ok hobj g hr.2 hq hs⟩
      | ag x =>
        simp only [argsOf, hq, Option.some.injEq, Prod.mk.injEq] at h
        obtain ⟨rfl, rfl, rfl⟩ := h
        exact ⟨h1, argsOf_ok hobj g hr.2 hq hs⟩
  | (false, x) :: xs, cv :: cvs, vs, ds, rs, hr, h, hs => by
    simp only [argsOf] at h
    split at h
    · rename_i d vs' ds' rs' hd hq
      simp only [Option.some.injEq, Prod.mk.injEq] at h
      obtain ⟨rfl, rfl, rfl⟩ := h
      exact ⟨toD_ok hobj g hr.1 hd (fun k hk => hs k (by grind)) β L, argsOf_ok hobj g hr.2 hq fun k hk => hs k (by grind)⟩
    grind

end
end Go.Vs

/- The value semantics, 18: a call does what the function owes. -/
namespace Go.Vs
open Go

section
variable {P : Program} {C : Ctx} {N : Nat} {w0 : World} {ω0 : Nat → Nat} {S : Fr} {E : Nat → Option V} {L : Nat → Option Obj} {a : Act} {w : World} {ω : Nat → Nat} {β : Nat → Option Nat}
variable {o : Oper} {v : V}

theorem indexIn_none : ∀ {l : List Nat} {k : Nat}, k ∉ l → indexIn l k = none
  | [], _, _ => rfl
  | j :: r, k, h => by
    simp only [List.mem_cons, not_or] at h
    have hb : (j == k) = false := by grind
    simp [indexIn, hb, indexIn_none h.2]

theorem indexIn_some : ∀ {l : List Nat} {k : Nat}, k ∈ l → ∃ i, indexIn l k = some i
  | [], _, h => by grind
  | j :: r, k, h => by
    simp only [indexIn]
    cases hb : (j == k) with
    | true => simp
    | false =>
      simp only [List.mem_cons] at h
      have hne : j ≠ k := by grind
      obtain ⟨i, hi⟩ := indexIn_some (h.resolve_left (fun e => hne e.symm))
      grind

theorem indexIn_at {l : List Nat} (hn : l.Nodup) {i k : Nat} (h : l[i]? = some k) : indexIn l k = some i := by
  obtain ⟨j, hj⟩ := indexIn_some (List.mem_of_getElem? h)
  have := nodup_inj hn (indexIn_get hj) h
  grind

theorem newIds_spec (oid : Nat) : ∀ (n i : Nat), (newIds oid i n).length = n ∧ (∀ k ∈ newIds oid i n, oid + i ≤ k) ∧ (newIds oid i n).Nodup
  | 0, i => by simp [newIds]
  | n + 1, i => by
    obtain ⟨h1, h2, h3⟩ := newIds_spec oid n (i + 1)
    grind [newIds]

theorem flat_rd {ω' : Nat → Nat} {f : List W → Option (List Cell)} : ∀ {rows : List (List W)} {css : List (List Cell)} {vs : List Value}, listM f rows = some css → (∀ r ∈ rows, ∀ (us : List Value) (cs : List Cell), RWlist w ω β L r us → f r = some cs → RDlist w ω' cs us) →
    RWlist w ω β L rows.flatten vs → RDlist w ω' css.flatten vs
  | [], css, vs, h, _, hr => by
    grind [listM, RDlist, RWlist]
  | r :: rs, css, vs, h, hg, hr => by
    simp only [listM] at h
    cases hx : f r with
    | none => grind
    | some c =>
      simp only [hx] at h
      cases hl : listM f rs with
      | none => grind
      | some cs' =>
        simp only [hl, Option.some.injEq] at h
        subst h
        have h1 := hr.take r.length
        have h2 := hr.drop r.length
        simp only [List.flatten_cons, List.take_left'] at h1
        simp only [List.flatten_cons, List.drop_left'] at h2
        have h3 := hg r (by simp) _ c h1 hx
        have h4 := flat_rd hl (fun q hq => hg q (by grind)) h2
        have h5 := RWlist.append (RDlist.to (β := β) (L := L) h3) (RDlist.to h4)
        rw [← List.map_append, List.take_append_drop] at h5
        exact RDlist.of h5

theorem flatW_ok {x : W} {vv : Value} (hf : flatW x = true) (h : RW w ω β L x vv) (w' : World) (ω' : Nat → Nat) (β' : Nat → Option Nat) (L' : Nat → Option Obj) : RW w' ω' β' L' x vv := by
  unfold flatW at hf
  grind [RW, RD]

theorem flatWs_ok {w' : World} {ω' : Nat → Nat} {β' : Nat → Option Nat} {L' : Nat → Option Obj} : ∀ {xs : List W} {vs : List Value}, xs.all flatW = true → RWlist w ω β L xs vs → RWlist w' ω' β' L' xs vs
  | [], [], _, _ => by simp [RWlist]
  | [], _ :: _, _, h => by simp [RWlist] at h
  | _ :: _, [], _, h => by simp [RWlist] at h
  | x :: xs, v :: vs, hf, h => by
    simp only [List.all_cons, Bool.and_eq_true] at hf
    simp only [RWlist] at h ⊢
    exact ⟨flatW_ok hf.1 h.1 _ _ _ _, flatWs_ok hf.2 h.2⟩

theorem flatV_ok {x : V} {vv : Value} (hf : flatV x = true) (h : RV w ω β L x vv) (w' : World) (ω' : Nat → Nat) (β' : Nat → Option Nat) (L' : Nat → Option Obj) : RV w' ω' β' L' x vv := by
  cases x with
  | sc x => exact flatW_ok hf h _ _ _ _
  | ag cs => obtain ⟨a, h1, h2⟩ := h; exact ⟨a, h1, flatWs_ok hf h2⟩
  | tu l =>
    obtain ⟨a, h1, h2⟩ := h
    refine ⟨a, h1, ?_⟩
    simp only [flatV] at hf
    generalize a.toList = vs at h2
    clear h1
    induction l generalizing vs with
    | nil => cases vs with
      | nil => trivial
      | cons _ _ => exact h2.elim
    | cons x l ih => cases vs with
      | nil => exact h2.elim
      | cons v vs =>
        simp only [List.all_cons, Bool.and_eq_true] at hf
        refine ⟨?_, ih hf.2 vs h2.2⟩
        have h3 := h2.1
        have h4 := hf.1
        cases x with
        | sc x => exact flatW_ok h4 h3 _ _ _ _
        | ag cs => obtain ⟨a, h1, h2⟩ := h3; exact ⟨a, h1, flatWs_ok h4 h2⟩
        | tu l => grind

theorem caps_c_ok : ∀ {ones : List Bool} {caps : List (List Cell)} {cs : List Value}, RDcaps w ω ones caps cs →
    ArgsOk w ω β L ((ones.zip caps).map fun (o, cs) => (false, match o, cs with | true, [x] => V.sc (.c x) | _, cs => V.ag (cs.map W.c))) cs
  | [], [], [], _ => trivial
  | [], [], _ :: _, h => by simp [RDcaps] at h
  | [], _ :: _, _, h => by simp [RDcaps] at h
  | _ :: _, [], _, h => by simp [RDcaps] at h
  | _ :: _, _ :: _, [], h => by simp [RDcaps] at h
  | o :: os, r :: rs, v :: vs, h => by
    simp only [RDcaps] at h
    obtain ⟨⟨xs, h1, h2⟩, h3⟩ := h
    simp only [List.zip_cons_cons, List.map_cons]
    refine ⟨?_, caps_c_ok h3⟩
    cases o with
    | true =>
      simp only [packs] at h2
      subst h2
      have hl := h1.length
      match r, h1, hl with
      | [c], h1, _ =>
        grind [RDlist, RV, RV1, RW]
    | false =>
      simp only [packs] at h2
      subst h2
      cases r with
      | nil => exact ⟨_, rfl, RDlist.to h1⟩
      | cons c r => exact ⟨_, rfl, RDlist.to h1⟩

theorem caps_w_ok : ∀ {ones : List Bool} {caps : List (List W)} {cs : List Value}, RWcaps w ω β L ones caps cs →
    ArgsOk w ω β L ((ones.zip caps).map fun (o, cs) => (true, match o, cs with | true, [w] => V.sc w | _, cs => V.ag cs)) cs
  | [], [], [], _ => trivial
  | [], [], _ :: _, h => by simp [RWcaps] at h
  | [], _ :: _, _, h => by simp [RWcaps] at h
  | _ :: _, [], _, h => by simp [RWcaps] at h
  | _ :: _, _ :: _, [], h => by simp [RWcaps] at h
  | o :: os, r :: rs, v :: vs, h => by
    simp only [RWcaps] at h
    obtain ⟨⟨xs, h1, h2⟩, h3⟩ := h
    simp only [List.zip_cons_cons, List.map_cons]
    refine ⟨?_, caps_w_ok h3⟩
    cases o with
    | true =>
      simp only [packs] at h2
      subst h2
      have hl := h1.length
      match r, h1, hl with
      | [c], h1, _ =>
        grind [RWlist, RV, RV1]
    | false =>
      simp only [packs] at h2
      subst h2
      cases r with
      | nil => exact ⟨_, rfl, h1⟩
      | cons c r => exact ⟨_, rfl, h1⟩

theorem calleeOf_ok {f : V} {fv : Value} {g : FuncId} {caps : List (Bool × V)} (hf : RV w ω β L f fv) (h : calleeOf f = some (g, caps)) : ∃ cs : Array Value, fv = .func (.func g) #[] cs ∧ ArgsOk w ω β L caps cs.toList := by
  unfold calleeOf at h
  split at h
  · simp only [Option.some.injEq, Prod.mk.injEq] at h
    obtain ⟨rfl, rfl⟩ := h
    simp only [RV, RV1, RW, RD] at hf
    obtain ⟨cs, h1, h2⟩ := hf
    exact ⟨cs, h1, caps_c_ok h2⟩
  grind [RV, RV1, RW, caps_w_ok]
  grind

/-- Behind a call: what was handed over by reference, what is new, what is published. -/
theorem after_call (r : Rel C.gl N w0 ω0 S E L a w ω β) {ids fresh ds : List Nat} {os os' : List Obj} {ρ : Nat → Option Nat} (hρ : ρ = indexIn ids) (hnd : ids.Nodup) (hos : listM L ids = some os)
    {ω1 : Nat → Nat} (g1 : Grows w ω w ω1) (p1 : ∀ k ∈ ds, ∀ s rows p b, L k = some (.arr s rows p) → β k = some b → ω1 b = rows.length * s) (p2 : ∀ b, (∀ k ∈ ds, ∀ s rows p, L k = some (.arr s rows p) → β k ≠ some b) → ω1 b = ω b)
    (hfr : fresh.Nodup) (hfl : ids.length + fresh.length = os'.length) (hfn : ∀ k ∈ fresh, L k = none)
    {w' : World} {ω' : Nat → Nat} {β' : Nat → Option Nat}
    (hobj : ∀ k o, Lof os' k = some o → ObjOk w' ω' β' (Lof os') k o)
    (hinj : ∀ j k b, Lof os' j ≠ none → Lof os' k ≠ none → β' j = some b → β' k = some b → j = k)
    (keeps : Keeps w ω1 (fun b => ∃ k, Lof (os.map (Obj.ren ρ)) k ≠ none ∧ (ids[k]?).bind β = some b) w' ω')
    (mine : ∀ k b, Lof os' k ≠ none → β' k = some b → (∃ j, Lof (os.map (Obj.ren ρ)) j ≠ none ∧ (ids[j]?).bind β = some b) ∨ w.heap.size ≤ b)
    (tr : ∀ k, Tr w (fun i => (ids[i]?).bind β) w' β' (Lof (os.map (Obj.ren ρ))) (Lof os') k)
    {p : Upd} (hp : pubUpd L ds ds = some p) :
    ∃ β2, Rel C.gl N w0 ω0 S E (updL L (p ++ updOf (ids ++ fresh) (os'.map (Obj.ren fun i => (ids ++ fresh)[i]?)))) a w' ω' β2 ∧
      Ren (fun i => (ids ++ fresh)[i]?) β' (Lof os') β2 (updL L (p ++ updOf (ids ++ fresh) (os'.map (Obj.ren fun i => (ids ++ fresh)[i]?)))) := by
  subst hρ
  obtain ⟨hol, hog⟩ := listM_some hos
  have hidL : ∀ k ∈ ids, ∃ (i : Nat) (o : Obj), ids[i]? = some k ∧ os[i]? = some o ∧ L k = some o := by
    grind [List.getElem?_of_mem]
  have hall : (ids ++ fresh).Nodup := by
    grind
  have hlen : (ids ++ fresh).length = os'.length := by grind
  generalize hσ : (fun (i : Nat) => (ids ++ fresh)[i]?) = σ
  have hσi : ∀ (i : Nat), σ i = (ids ++ fresh)[i]? := fun i => by grind
  obtain ⟨q1, q2⟩ := pubUpd_ok (M := L) hp
  obtain ⟨u1, u2⟩ := updOf_ok (ids := ids ++ fresh) (os := os'.map (Obj.ren σ)) (M := updL L p) hall (by grind)
  generalize hL2 : updL L (p ++ updOf (ids ++ fresh) (os'.map (Obj.ren σ))) = L2
  have hL2' : L2 = updL (updL L p) (updOf (ids ++ fresh) (os'.map (Obj.ren σ))) := by grind [updL_append]
  have f1 : ∀ (i k : Nat), (ids ++ fresh)[i]? = some k → ∃ o', os'[i]? = some o' ∧ L2 k = some (o'.ren σ) := by
    intro i k hi
    have hlt : i < os'.length := by grind
    refine ⟨os'[i], by simp, ?_⟩
    rw [hL2']
    grind
  have f2 : ∀ k, k ∉ ids ++ fresh → k ∈ ds → ∃ s rows q cs, L k = some (.arr s rows q) ∧ listM (listM (W.toC L deep)) rows = some cs ∧ L2 k = some (.arr s (cs.map (·.map W.c)) rows.length) ∧ ∀ r ∈ rows, ∀ x ∈ r, ∀ j ∈ W.ids L deep x, j ∈ ds := by
    simp_all
  have f3 : ∀ k, k ∉ ids ++ fresh → k ∉ ds → L2 k = L k := by
    simp_all
  let β2 : Nat → Option Nat := fun k => match indexIn (ids ++ fresh) k with | some i => β' i | none => β k
  have b1 : ∀ (i k : Nat), (ids ++ fresh)[i]? = some k → β2 k = β' i := by
    intro i k hi
    simp only [β2, indexIn_at hall hi]
  have b2 : ∀ k, k ∉ ids ++ fresh → β2 k = β k := by
    grind [indexIn_none]
  have hren : Ren σ β' (Lof os') β2 L2 := by
    intro i k o' hi ho
    grind [Lof]
  have hlo : ∀ (i k : Nat) (o : Obj), ids[i]? = some k → os[i]? = some o → Lof (os.map (Obj.ren (indexIn ids))) i = some (o.ren (indexIn ids)) := by
    grind [Lof]
  have hSc : ∀ b, (∃ k, Lof (os.map (Obj.ren (indexIn ids))) k ≠ none ∧ (ids[k]?).bind β = some b) → ∃ k, k ∈ ids ∧ L k ≠ none ∧ β k = some b := by
    grind
  have idx : ∀ k, k ∈ ids → ∃ (i : Nat), (ids ++ fresh)[i]? = some k ∧ ids[i]? = some k := by
    grind
  -- blocks of what is published alone stay
  have dsblk : ∀ k b, k ∉ ids ++ fresh → k ∈ ds → L k ≠ none → β k = some b → w'.heap[b]? = w.heap[b]? ∧ ω' b = ω1 b := by
    intro k b hk hd hLk hb
    refine keeps.same b (r.blt hLk hb) fun hc => ?_
    obtain ⟨j, hj, hLj, hbj⟩ := hSc b hc
    have := r.inj j k b hLj hLk hbj hb
    grind
  refine ⟨β2, (r.step (fun k => k ∈ ids ++ fresh ∨ k ∈ ds) (g1.trans keeps.grows) keeps.size keeps.os keeps.tape keeps.output ?_ ?_ ?_ ?_ ?_ ?_).1, hren⟩
  · intro b hb hC
    have h1 := keeps.same b hb fun hc => by
      grind
    grind
  grind
  · intro k hk
    by_cases hka : k ∈ ids ++ fresh
    · by_cases hki : k ∈ ids
      · obtain ⟨i, hi1, hi2⟩ := idx k hki
        obtain ⟨o, h1, h2⟩ := hog i k hi2
        have ht := tr i
        unfold Tr at ht ⊢
        rw [hlo i k o hi2 h1] at ht
        rw [h2]
        have hbi : (ids[i]?).bind β = β k := by grind
        cases o with
        | box cs =>
          obtain ⟨⟨cs', h3, h4⟩, h5⟩ := ht
          obtain ⟨o', h6, h7⟩ := f1 i k hi1
          simp only [Lof] at h3
          rw [h6] at h3
          cases h3
          exact ⟨⟨_, h7, by grind⟩, (b1 i k hi1).trans (h5.trans hbi)⟩
        | mp es =>
          obtain ⟨⟨es', h3⟩, h5⟩ := ht
          obtain ⟨o', h6, h7⟩ := f1 i k hi1
          simp only [Lof] at h3
          rw [h6] at h3
          cases h3
          exact ⟨⟨_, h7⟩, (b1 i k hi1).trans (h5.trans hbi)⟩
        | arr s rows q =>
          obtain ⟨rows', q', h3, h4, h5⟩ := ht
          obtain ⟨o', h6, h7⟩ := f1 i k hi1
          simp only [Lof] at h3
          rw [h6] at h3
          cases h3
          refine ⟨_, q', h7, by grind, fun e => ?_⟩
          grind
      grind [Tr]
    grind [Tr, listM_len]
  · intro trall k hk o2 ho2
    by_cases hka : k ∈ ids ++ fresh
    · obtain ⟨i, hi⟩ := List.getElem?_of_mem hka
      obtain ⟨o', h6, h7⟩ := f1 i k hi
      rw [h7] at ho2
      cases ho2
      exact (hobj i o' h6).rename hren (b1 i k hi)
    · have hkd := hk.resolve_left hka
      obtain ⟨s, rows, q, cs, h1, h2, h3, h4⟩ := f2 k hka hkd
      rw [h3] at ho2
      cases ho2
      have hl := listM_len h2
      have hrow : ∀ r ∈ cs, r.length = s := by
        intro x hx
        obtain ⟨i, hi⟩ := List.getElem?_of_mem hx
        have hlt : i < rows.length := by grind
        obtain ⟨y, h5, h6⟩ := (listM_some h2).2 i rows[i] (by simp)
        rw [hi] at h5
        cases h5
        rw [listM_len h6]
        exact (r.obj k _ h1).2.1 _ (List.getElem_mem hlt)
      obtain ⟨e1, e2, e3, e4⟩ := r.obj k _ h1
      refine ⟨e1, ?_, by grind, ?_⟩
      grind
      · rcases e4 with ⟨b, cap, cur, t, k2, k3, k4, k5, k6, k7, k8⟩ | ⟨k2, k3⟩
        · obtain ⟨d1, d2⟩ := dsblk k b hka hkd (by grind) k2
          refine .inl ⟨b, cap, cur, t, (b2 k hka).trans k2, d1.trans k3, k4, by grind, k6, ?_, ?_⟩
          · have hrd : RDlist w ω1 cs.flatten (cur.toList.take (rows.length * s)) := by
              refine flat_rd (w := w) (ω := ω) (β := β) (L := L) h2 (fun x hx us ys hru hry => ?_) k7
              refine listM_toC_rd r.obj g1 hru hry ?_
              intro j hj
              grind
            have h5 := RDlist.to (β := β2) (L := L2) (RDlist.grow keeps.grows cs.flatten hrd)
            grind
          grind
        grind
  · intro k hk b hLk hb
    by_cases hka : k ∈ ids ++ fresh
    · obtain ⟨i, hi⟩ := List.getElem?_of_mem hka
      obtain ⟨o', h6, h7⟩ := f1 i k hi
      rw [b1 i k hi] at hb
      rcases mine i b (by simp [Lof, h6]) hb with hc | hc
      · obtain ⟨j, hj, hLj, hbj⟩ := hSc b hc
        exact .inl ⟨j, .inl (by simp [hj]), hLj, hbj⟩
      · exact .inr hc
    grind
  · intro j k b hj hk hLj hLk hbj hbk
    by_cases hja : j ∈ ids ++ fresh <;> by_cases hka : k ∈ ids ++ fresh
    grind [List.getElem?_of_mem, Lof]
    · have hkd := hk.resolve_left hka
      obtain ⟨s, rows, q, cs, hL1, _⟩ := f2 k hka hkd
      have hLk' : L k ≠ none := by grind
      obtain ⟨i1, hi1⟩ := List.getElem?_of_mem hja
      obtain ⟨o1, h1, _⟩ := f1 i1 j hi1
      rw [b1 i1 j hi1] at hbj
      rw [b2 k hka] at hbk
      rcases mine i1 b (by simp [Lof, h1]) hbj with hc | hc
      · obtain ⟨j', hj', hLj', hbj'⟩ := hSc b hc
        have := r.inj j' k b hLj' hLk' hbj' hbk
        grind
      · exact absurd (r.blt hLk' hbk) (by omega)
    · have hjd := hj.resolve_left hja
      obtain ⟨s, rows, q, cs, hL1, _⟩ := f2 j hja hjd
      have hLj' : L j ≠ none := by grind
      obtain ⟨i1, hi1⟩ := List.getElem?_of_mem hka
      obtain ⟨o1, h1, _⟩ := f1 i1 k hi1
      rw [b1 i1 k hi1] at hbk
      rw [b2 j hja] at hbj
      rcases mine i1 b (by simp [Lof, h1]) hbk with hc | hc
      · obtain ⟨j', hj', hLj'', hbj'⟩ := hSc b hc
        have := r.inj j' j b hLj'' hLj' hbj' hbj
        grind
      · exact absurd (r.blt hLj' hbj) (by omega)
    · have hjd := hj.resolve_left hja
      have hkd := hk.resolve_left hka
      obtain ⟨s, rows, q, cs, hL1, _⟩ := f2 j hja hjd
      obtain ⟨s', rows', q', cs', hL1', _⟩ := f2 k hka hkd
      rw [b2 j hja] at hbj
      rw [b2 k hka] at hbk
      exact r.inj j k b (by grind) (by grind) hbj hbk

end
end Go.Vs

/- The value semantics, 19: calls, as operations. -/
namespace Go.Vs
open Go

section
variable {P : Program} {C : Ctx} {N : Nat} {w0 : World} {ω0 : Nat → Nat} {S : Fr} {E : Nat → Option V} {L : Nat → Option Obj} {a : Act} {w : World} {ω : Nat → Nat} {β : Nat → Option Nat}
variable {o : Oper} {v : V}

/-- What stands behind a call. -/
def Back (GL : Nat → List Cell) (N : Nat) (w0 : World) (ω0 : Nat → Nat) (S : Fr) (E : Nat → Option V) (L' : Nat → Option Obj) (a : Act) (v : V) (e : Ending) (w' : World) : Prop :=
  ∃ vv ω' β', e = .returned vv ∧ Rel GL N w0 ω0 S E L' a w' ω' β' ∧ RV w' ω' β' L' v vv

theorem call1_okK {K : FuncId → Array Value → World → (Ending → World → Prop) → Prop} (hK : ∀ {g : FuncId} {args : Array Value} {w : World} {R R' : Ending → World → Prop}, K g args w R → (∀ e w', R e w' → R' e w') → K g args w R')
    (hC : ∀ f args objs rv objs', C.call f args objs = some (rv, objs') → FnOkK P K C.gl f args objs rv objs') (r : Rel C.gl N w0 ω0 S E L a w ω β) {oid : Nat} {f : V} {fv : Value} {args : List (Bool × V)} {cvs : List Value} (hf : RV w ω β L f fv) (hargs : ArgsOk w ω β L args cvs) {u : Upd}
    (h : call1 C.call L oid f args = some (v, u)) : ∃ (g : FuncId) (caps : Array Value), fv = .func (.func g) #[] caps ∧ Callable P g ∧
      K g (cvs.toArray ++ caps) w (Back C.gl N w0 ω0 S E (updL L u) a v) := by
  unfold call1 at h
  split at h
  grind
  · rename_i g caps hg
    obtain ⟨cs, hfv, hcaps⟩ := calleeOf_ok hf hg
    refine ⟨g, cs, hfv, ?_⟩
    split at h
    grind
    · rename_i vs ds rs hargsOf
      simp only at h
      split at h
      grind
      · rename_i os hos
        cases hc1 : ((reach L rs).all (fun k => !ds.contains k) && (reach L (reach L rs)).length == (reach L rs).length) with
        | false => grind
        | true =>
          rw [hc1] at h
          simp only [cond_true] at h
          simp only [Bool.and_eq_true] at hc1
          have hnd := reach_nodup L rs
          generalize hids : reach L rs = ids at h hos hc1 hnd
          have hds : ∀ k ∈ ids, k ∉ ds := by
            grind
          split at h
          grind
          · rename_i rv os' hcall
            cases hc2 : (Nat.ble ids.length os'.length && (os.zip os').all (fun x => sameKind x.1 x.2) && (newIds oid 0 (os'.length - ids.length)).all (fun k => (L k).isNone)) with
            | false => grind
            | true =>
              rw [hc2] at h
              simp only [cond_true] at h
              simp only [Bool.and_eq_true] at hc2
              obtain ⟨⟨hm, _⟩, hfn⟩ := hc2
              have hm := Nat.le_of_ble_eq_true hm
              obtain ⟨n1, _, n3⟩ := newIds_spec oid (os'.length - ids.length) 0
              have hfn' : ∀ k ∈ newIds oid 0 (os'.length - ids.length), L k = none := by
                simp_all
              generalize newIds oid 0 (os'.length - ids.length) = fresh at h n1 n3 hfn'
              obtain ⟨hcallable, hfn⟩ := hC g _ _ rv os' hcall
              refine ⟨hcallable, ?_⟩
              obtain ⟨ω1, g1, p1, p2⟩ := publish_ex r ds
              have hsh : Shows β L ω1 ds := fun k hk s rows p b hL hb => Nat.le_of_eq (p1 k hk s rows p b hL hb).symm
              have hall := hargs.append hcaps
              have hrv := argsOf_ok r.obj g1 hall hargsOf hsh
              obtain ⟨hol, hog⟩ := listM_some hos
              have hρ : Ren (indexIn ids) β L (fun i => (ids[i]?).bind β) (Lof (os.map (Obj.ren (indexIn ids)))) := by
                intro k i ob hi hk
                have hi' := indexIn_get hi
                grind [Lof]
              have hcv : (cvs.toArray ++ cs).toList = cvs ++ cs.toList := by simp
              have hcalls := hfn w ω1 (fun i => (ids[i]?).bind β) (cvs.toArray ++ cs) (fun b => (r.gl b).grow g1) (by rw [hcv]; exact hrv.rename hρ) ?_ ?_
              · refine hK hcalls ?_
                rintro e w' ⟨vv, ω', β', rfl, c1, c2, c3, c4, c5, c6⟩
                have pub : ∀ p, pubUpd L ds ds = some p → v = rv.ren (fun i => (ids ++ fresh)[i]?) → u = p ++ updOf (ids ++ fresh) (os'.map (Obj.ren fun i => (ids ++ fresh)[i]?)) → Back C.gl N w0 ω0 S E (updL L u) a v (.returned vv) w' := by
                  intro p hp hv hu
                  obtain ⟨β2, h1, h2⟩ := after_call r rfl hnd hos g1 p1 p2 n3 (by omega) hfn' c2 c3 c4 c5 c6 hp
                  subst hu hv
                  exact ⟨vv, ω', β2, rfl, h1, c1.rename h2⟩
                split at h
                · simp only [Option.some.injEq, Prod.mk.injEq] at h
                  obtain ⟨rfl, rfl⟩ := h
                  exact pub [] rfl rfl (by simp)
                · rename_i hne
                  cases hfl : (flatV rv && ids.isEmpty && fresh.isEmpty) with
                  | true =>
                    rw [hfl] at h
                    simp only [cond_true, Option.some.injEq, Prod.mk.injEq] at h
                    obtain ⟨rfl, rfl⟩ := h
                    simp only [Bool.and_eq_true, List.isEmpty_iff] at hfl
                    obtain ⟨⟨hflat, rfl⟩, _⟩ := hfl
                    -- a flat result: nothing is published
                    have hold : ∀ b, b < w.heap.size → w'.heap[b]? = w.heap[b]? := fun b hb => (c4.same b hb (by simp)).1
                    have gg : Grows w ω w' (fun b => if b < w.heap.size then ω b else ω' b) := ⟨fun b i hi q hq => by
                      grind [at?, World.cell?]⟩
                    have hr := (r.step (fun _ => False) (w' := w') (ω' := fun b => if b < w.heap.size then ω b else ω' b) (β' := β) (L' := L) gg c4.size c4.os c4.tape c4.output
                      (fun b hb _ => ⟨hold b hb, by grind⟩) (fun k _ => ⟨rfl, fun _ => rfl⟩) (fun _ h => h.elim) (fun _ _ h => h.elim) (fun _ h => h.elim) (fun _ _ _ h => h.elim)).1
                    exact ⟨vv, _, β, rfl, hr, flatV_ok hflat c1 _ _ _ _⟩
                  | false =>
                    grind
              · intro i o1 ho1
                simp only [Lof, List.getElem?_map] at ho1
                cases hoi : os[i]? with
                | none => grind
                | some ob =>
                  simp only [hoi, Option.map_some, Option.some.injEq] at ho1
                  subst ho1
                  have hlt : i < ids.length := by grind
                  obtain ⟨o', h1, h2⟩ := hog i ids[i] (by simp)
                  rw [hoi] at h1
                  cases h1
                  have hst : ObjOk w ω1 β L ids[i] ob := (r.obj _ _ h2).step g1 (fun k => Tr.refl k) rfl fun b hb => ⟨rfl, p2 b fun k hk s rows q hL hbk => by
                    have := r.inj k ids[i] b (by grind) (by grind) hbk hb
                    grind⟩
                  exact hst.rename hρ (by grind)
              · intro j k b hj hk hbj hbk
                simp only [Lof, List.getElem?_map] at hj hk
                have hj' : j < os.length := by
                  grind
                have hk' : k < os.length := by
                  grind
                rw [hol] at hj' hk'
                simp only [List.getElem?_eq_getElem hj', Option.bind_some] at hbj
                simp only [List.getElem?_eq_getElem hk', Option.bind_some] at hbk
                obtain ⟨o1, _, h1⟩ := hog j ids[j] (by simp)
                obtain ⟨o2, _, h2⟩ := hog k ids[k] (by simp)
                have := r.inj ids[j] ids[k] b (by grind) (by grind) hbj hbk
                exact nodup_inj hnd (i := j) (j := k) (k := ids[j]) (by simp) (by grind)

theorem call1_ok (hC : OracleOk P C) (r : Rel C.gl N w0 ω0 S E L a w ω β) {oid : Nat} {f : V} {fv : Value} {args : List (Bool × V)} {cvs : List Value} (hf : RV w ω β L f fv) (hargs : ArgsOk w ω β L args cvs) {u : Upd}
    (h : call1 C.call L oid f args = some (v, u)) : ∃ (g : FuncId) (caps : Array Value), fv = .func (.func g) #[] caps ∧ Callable P g ∧
      Calls P g (cvs.toArray ++ caps) w (Back C.gl N w0 ω0 S E (updL L u) a v) :=
  call1_okK (K := Calls P) (fun h hr => h.mono hr) hC r hf hargs h

theorem ArgsOk.step {w' : World} {ω' : Nat → Nat} {β' : Nat → Option Nat} {L' : Nat → Option Obj} (g : Grows w ω w' ω') (tr : ∀ k, Tr w β w' β' L L' k) : ∀ {xs : List (Bool × V)} {vs : List Value}, ArgsOk w ω β L xs vs → ArgsOk w' ω' β' L' xs vs
  | [], [], _ => trivial
  | [], _ :: _, h => h.elim
  | _ :: _, [], h => h.elim
  | _ :: _, _ :: _, h => ⟨h.1.step g tr, ArgsOk.step g tr h.2⟩

theorem ownArgs_gt {oid : Nat} {own : List (Nat × Nat)} : ∀ (args : List (Bool × V)) (j : Nat), ∀ x ∈ (ownArgs oid own j args).2, oid + j < x.1
  | [], _, x, hx => by simp [ownArgs] at hx
  | (b, c) :: cs, j, x, hx => by
    simp only [ownArgs] at hx
    split at hx
    · simp only [List.mem_cons] at hx
      rcases hx with rfl | hx
      simp
      · have := ownArgs_gt cs (j + 1) x hx; omega
    · have := ownArgs_gt cs (j + 1) x hx; omega

theorem ownArgs_ok {GL : Nat → List Cell} {oid : Nat} {own : List (Nat × Nat)} (hpos : ∀ p ∈ own, 0 < p.2) : ∀ (args : List (Bool × V)) (j : Nat) (L : Nat → Option Obj) (β : Nat → Option Nat) (vs : List Value), Rel GL N w0 ω0 S E L a w ω β → ArgsOk w ω β L args vs →
    (∀ x ∈ (ownArgs oid own j args).2, L x.1 = none) → ∃ β', Rel GL N w0 ω0 S E (updL L (ownArgs oid own j args).2) a w ω β' ∧ ArgsOk w ω β' (updL L (ownArgs oid own j args).2) (ownArgs oid own j args).1 vs ∧
      (∀ k, Tr w β w β' L (updL L (ownArgs oid own j args).2) k)
  | [], j, L, β, vs, r, hr, _ => by
    simp only [ownArgs, updL]
    grind [Tr.refl]
  | x :: xs, j, L, β, [], _, hr, _ => hr.elim
  | (b, x) :: xs, j, L, β, v :: vs, r, hr, hfree => by
    by_cases hcase : x = .sc .nil ∧ ∃ s, get? own j = some s
    · obtain ⟨rfl, s, hs⟩ := hcase
      have e : ownArgs oid own j ((b, .sc .nil) :: xs) = ((true, .sc (.arr (oid + 1 + j) 0)) :: (ownArgs oid own (j + 1) xs).1, (oid + 1 + j, some (.arr s [] 0)) :: (ownArgs oid own (j + 1) xs).2) := by
        simp only [ownArgs, hs]
      rw [e] at hfree ⊢
      have hk : L (oid + 1 + j) = none := hfree (oid + 1 + j, some (.arr s [] 0)) (by simp)
      have hs0 : 0 < s := hpos _ (get?_mem hs)
      obtain ⟨r1, t1⟩ := r.newNil hk hs0
      have hr1 := hr.2.step (Grows.refl w ω) t1
      obtain ⟨β', r2, hr2, t2⟩ := ownArgs_ok hpos xs (j + 1) _ _ vs r1 hr1 (fun y hy => by
        rw [updO_ne]
        · exact hfree y (List.mem_cons_of_mem _ hy)
        · have := ownArgs_gt xs (j + 1) y hy; omega)
      refine ⟨β', r2, ⟨?_, hr2⟩, fun k => (t1 k).trans (t2 k)⟩
      have hv : v = .slice none 0 0 := by simpa only [RV, RV1, RW] using hr.1
      have h0 : RW w ω (setN β (oid + 1 + j) none) (updO L (oid + 1 + j) (some (.arr s [] 0))) (.arr (oid + 1 + j) 0) v := by
        simp only [RW]
        exact ⟨s, [], 0, updO_same _ _ _, by simp, ⟨_, _, _, hv⟩, fun _ => .inr ⟨by simp [setN], rfl, none, hv⟩⟩
      exact RW.step (Grows.refl w ω) t2 _ h0
    · have e : ownArgs oid own j ((b, x) :: xs) = ((b, x) :: (ownArgs oid own (j + 1) xs).1, (ownArgs oid own (j + 1) xs).2) := by
        simp only [ownArgs]
        grind
      rw [e] at hfree ⊢
      obtain ⟨β', r2, hr2, t2⟩ := ownArgs_ok hpos xs (j + 1) L β vs r hr.2 hfree
      exact ⟨β', r2, ⟨hr.1.step (Grows.refl w ω) t2, hr2⟩, t2⟩

def mArgs : List Operand → List (Bool × Opd) → Bool
  | [], [] => true
  | y :: ys, x :: xs => mOpd y x.2 && mArgs ys xs
  | _, _ => false

theorem mArgs_ok (r : Rel C.gl N w0 ω0 S E L a w ω β) : ∀ {ys : List Operand} {xs : List (Bool × Opd)}, mArgs ys xs = true → ArgsOk w ω β L (vals C E xs) (ys.map a.eval)
  | [], [], _ => trivial
  | [], _ :: _, h => by simp [mArgs] at h
  | _ :: _, [], h => by simp [mArgs] at h
  | y :: ys, x :: xs, h => by
    simp only [mArgs, Bool.and_eq_true] at h
    exact ⟨mOpd_ok r h.1, mArgs_ok r h.2⟩

def mCall (op : Op) (f : Opd) (args : List (Bool × Opd)) (own : List (Nat × Nat)) : Bool :=
  match op with
  | .call { callee := .value f', args := args', argTypes := _ } => mOpd f' f && mArgs args'.toList args && own.all (fun p => Nat.blt 0 p.2)
  | _ => false

theorem call_ok (hC : OracleOk P C) (r : Rel C.gl N w0 ω0 S E L a w ω β) {f : Opd} {args : List (Bool × Opd)} {own : List (Nat × Nat)} {oid : Nat} (hm : mCall o.op f args own = true) {u : Upd} (h : exec1 C E L oid (.call f args own) = some (v, u))
    {K : Act → World → Prop} {Q : Exit → Act → World → Prop} (hK : ∀ vv w' ω' β', Rel C.gl N w0 ω0 S E (updL L u) a w' ω' β' → RV w' ω' β' (updL L u) v vv → K (a.put o.dst vv) w') : o.wp P a w K Q := by
  unfold mCall at hm
  split at hm
  · rename_i f' args' ts ho
    simp only [Bool.and_eq_true] at hm
    obtain ⟨⟨h1, h2⟩, h3⟩ := hm
    simp only [exec1] at h
    cases hb : (ownArgs oid own 0 (vals C E args)).2.all (fun u => (L u.1).isNone) with
    | false => grind
    | true =>
      rw [hb] at h
      simp only [cond_true] at h
      split at h
      grind
      · rename_i v' u' hcall
        simp only [Option.some.injEq, Prod.mk.injEq] at h
        obtain ⟨rfl, rfl⟩ := h
        have hfree : ∀ x ∈ (ownArgs oid own 0 (vals C E args)).2, L x.1 = none := by
          intro x hx
          simpa using List.all_eq_true.1 hb x hx
        obtain ⟨β1, r1, ha1, t1⟩ := ownArgs_ok (pos_of h3) _ 0 L β _ r (mArgs_ok r h2) hfree
        have hf1 := (mOpd_ok r h1).step (Grows.refl w ω) t1
        obtain ⟨g, caps, hfv, ⟨fn, c1, c2, c3⟩, hcalls⟩ := call1_ok hC r1 hf1 ha1 hcall
        have run : (execOp a.eval o).run P w = .ok (.enter g (args'.map a.eval ++ caps)) w := by
          have c3' : fn.name ≠ "runtime.NumGoroutine" := by grind
          obtain ⟨bd, hbd⟩ := Option.isSome_iff_exists.1 c2
          simp [execOp, ho, resolve, hfv, Deferred.ofValue, invoke, callFunc, c1, c3', hbd]
        unfold Oper.wp
        rw [run, Oper.upon_enter]
        have hmap : (args'.toList.map a.eval).toArray = args'.map a.eval := by grind
        rw [hmap] at hcalls
        refine hcalls.mono ?_
        rintro e w' ⟨vv, ω', β', rfl, h4, h5⟩
        grind [updL_append]
  grind

end
end Go.Vs

/- The value semantics, 20: an operation with its guard does what the model's does. -/
namespace Go.Vs
open Go

def ownFits : VOp → Bool
  | .mv _ | .build _ _ => true
  | _ => false

def mGuard (ops : Array Oper) : Option (Nat × Bool) → Option (Nat × Bool) → Bool
  | none, none => true
  | some (j, w), some (t, w') => w == w' && (match (ops[j]?).bind (·.dst) with | some t' => t' == t | none => false)
  | _, _ => false

def mOper (P : Program) (N : Nat) (ops : Array Oper) (o : Oper) (vo : VOper) : Bool :=
  vo.dst == o.dst && (match vo.dst with | some d => Nat.blt d N | none => true) && mGuard ops o.guard vo.guard &&
  (vo.own.isEmpty || (ownFits vo.op && vo.own.all (fun p => Nat.blt 0 p.2))) &&
  (match vo.op with
    | .call f args own => mCall o.op f args own
    | .ldD ag n x => mOp P o.op (.load ag n x)
    | .mvD x => mOp P o.op (.mv x)
    | .bldD zero ps => mOp P o.op (.build zero ps)
    | op => mOp P o.op op)

def updD (E : Nat → Option V) (d : Option Nat) (v : V) : Nat → Option V := match d with
  | some d => updE E d v
  | none => E

section
variable {P : Program} {C : Ctx} {N : Nat} {w0 : World} {ω0 : Nat → Nat} {S : Fr} {E : Nat → Option V} {L : Nat → Option Obj} {a : Act} {w : World} {ω : Nat → Nat} {β : Nat → Option Nat}
variable {o : Oper} {v : V}

theorem Rel.putD {GL : Nat → List Cell} (r : Rel GL N w0 ω0 S E L a w ω β) {d : Option Nat} (hd : (match d with | some d => Nat.blt d N | none => true) = true) {vv : Value} (hv : RV w ω β L v vv) :
    Rel GL N w0 ω0 S (updD E d v) L (a.put d vv) w ω β := by
  cases d with
  | none => exact r
  | some d => exact r.put (Nat.le_of_ble_eq_true (show Nat.ble (d + 1) N = true from hd)) hv

theorem Makes.wp {u : Upd} (h : Makes P C.gl N w0 ω0 S E L o a w v u) {K : Act → World → Prop} {Q : Exit → Act → World → Prop}
    (hK : ∀ vv w' ω' β', Rel C.gl N w0 ω0 S E (updL L u) a w' ω' β' → RV w' ω' β' (updL L u) v vv → K (a.put o.dst vv) w') : o.wp P a w K Q := by
  obtain ⟨nx, vv, w', ω', β', h1, h2, h3, h4⟩ := h
  grind [Oper.wp, Oper.upon_value, Oper.upon_skip]

/-- Own arrays for nil cells of a result. -/
theorem Makes.own {oid : Nat} {own : List (Nat × Nat)} (hpos : ∀ p ∈ own, 0 < p.2) (h : Makes P C.gl N w0 ω0 S E L o a w v []) {v' : V} {u' : Upd} (ho : ownV oid own L (v, []) = some (v', u')) : Makes P C.gl N w0 ω0 S E L o a w v' u' := by
  unfold ownV at ho
  split at ho
  grind
  · obtain ⟨nx, vv, w', ω', β', h1, h2, h3, h4⟩ := h
    simp only [updL] at h3 h4
    split at ho
    · rename_i x hx
      simp only at hx
      subst hx
      dsimp only at ho
      cases hb : (ownW oid own 0 [x]).2.all (fun u => (L u.1).isNone) with
      | false => grind
      | true =>
        rw [hb] at ho
        simp only [cond_true, List.nil_append] at ho
        have hfree : ∀ y ∈ (ownW oid own 0 [x]).2, L y.1 = none := by
          intro y hy
          simpa using List.all_eq_true.1 hb y hy
        have hr : RWlist w' ω' β' L [x] [vv] := by simp only [RWlist]; exact ⟨h4, trivial⟩
        obtain ⟨β2, r2, hr2, _, _⟩ := own_ok hpos [x] 0 L β' [vv] h3 hr hfree
        generalize ownW oid own 0 [x] = Y at ho r2 hr2
        cases hY : Y.1 with
        | nil => grind
        | cons y ys =>
          simp only [hY, List.head?_cons, Option.map_some, Option.some.injEq, Prod.mk.injEq] at ho
          obtain ⟨rfl, rfl⟩ := ho
          rw [hY] at hr2
          simp only [RWlist] at hr2
          exact ⟨nx, vv, w', ω', β2, h1, h2, r2, hr2.1⟩
    · rename_i cs hx
      simp only at hx
      subst hx
      dsimp only at ho
      cases hb : (ownW oid own 0 cs).2.all (fun u => (L u.1).isNone) with
      | false => grind
      | true =>
        rw [hb] at ho
        simp only [cond_true, List.nil_append, Option.some.injEq, Prod.mk.injEq] at ho
        obtain ⟨rfl, rfl⟩ := ho
        have hfree : ∀ y ∈ (ownW oid own 0 cs).2, L y.1 = none := by
          intro y hy
          simpa using List.all_eq_true.1 hb y hy
        obtain ⟨arr, g1, g2⟩ := h4
        obtain ⟨β2, r2, hr2, _, _⟩ := own_ok hpos cs 0 L β' arr.toList h3 g2 hfree
        exact ⟨nx, vv, w', ω', β2, h1, h2, r2, ⟨arr, g1, hr2⟩⟩
    grind

theorem exec_mv_build {vop : VOp} (hf : ownFits vop = true) {oid : Nat} {q : V × Upd} (h : exec1 C E L oid vop = some q) : q.2 = [] := by
  cases vop <;> simp only [ownFits, Bool.false_eq_true] at hf
  grind [exec1]
  · simp only [exec1] at h
    split at h
    grind
    · rename_i ps hps
      cases hfill : fillW _ ps with
      | none => rw [hfill] at h; grind
      | some cs => grind

theorem seal_ok (r : Rel C.gl N w0 ω0 S E L a w ω β) {v d : V} {vv : Value} (hv : RV w ω β L v vv) {p : Upd} (h : sealV L v = some (d, p)) : ∃ ω' β', Rel C.gl N w0 ω0 S E (updL L p) a w ω' β' ∧ RV w ω' β' (updL L p) d vv := by
  unfold sealV at h
  cases hd : v.toD L with
  | none => grind
  | some d' =>
    rw [hd] at h
    simp only at h
    obtain ⟨p', hp, h⟩ := Option.map_eq_some_iff.1 h
    simp only [Prod.mk.injEq] at h
    obtain ⟨rfl, rfl⟩ := h
    obtain ⟨ω1, g1, p1, p2⟩ := publish_ex r (nubs (v.cells.flatMap (W.ids L deep)))
    have hsh : Shows β L ω1 (v.cells.flatMap (W.ids L deep)) := fun k hk s rows q b hL hb => Nat.le_of_eq (p1 k ((nubs_mem _ k).2 hk) s rows q b hL hb).symm
    obtain ⟨β2, h1, _⟩ := after_call r (ids := []) (fresh := []) (os := []) (os' := []) rfl List.nodup_nil rfl g1 p1 p2 List.nodup_nil rfl (fun _ h => nomatch h) (w' := w) (ω' := ω1) (β' := fun _ => none)
      (fun k o h => by simp [Lof] at h) (fun j k b h => by simp) (Keeps.refl _ _ _) (fun k b h => by simp) (fun k => by simp [Tr, Lof]) hp
    refine ⟨ω1, β2, by simpa [updOf] using h1, ?_⟩
    have := toD_ok r.obj g1 hv hd hsh β2 (updL L p')
    cases d' with
    | tu l => simp [RV1] at this
    | sc x => exact this
    | ag cs => exact this

theorem load1_exec {oid n : Nat} {ag : Bool} {x : Opd} : exec1 C E L oid (.load ag n x) = (load1 L ag n (x.val C E)).map fun v => (v, []) := by
  simp only [exec1]
  generalize x.val C E = y
  cases y with
  | sc y => grind [load1]
  | _ => rfl

/-- The operation that is to be carried out. -/
theorem body_ok (hC : OracleOk P C) (r : Rel C.gl N w0 ω0 S E L a w ω β) {ops : Array Oper} {vo : VOper} (hm : mOper P N ops o vo = true) {q : V × Upd} (h : exec1 C E L vo.oid vo.op = some q) {v : V} {u : Upd} (ho : ownV vo.oid vo.own L q = some (v, u))
    {K : Act → World → Prop} {Q : Exit → Act → World → Prop} (hK : ∀ a' w' ω' β', Rel C.gl N w0 ω0 S (updD E vo.dst v) (updL L u) a' w' ω' β' → K a' w') : o.wp P a w K Q := by
  unfold mOper at hm
  simp only [Bool.and_eq_true, beq_iff_eq] at hm
  obtain ⟨⟨⟨⟨h1, h2⟩, _⟩, h4⟩, h5⟩ := hm
  have fin : ∀ vv w' ω' β', Rel C.gl N w0 ω0 S E (updL L u) a w' ω' β' → RV w' ω' β' (updL L u) v vv → K (a.put o.dst vv) w' := by
    intro vv w' ω' β' hr hv
    rw [← h1]
    exact hK _ w' ω' β' (hr.putD h2 hv)
  have fin0 : ∀ vv w' ω' β', Rel C.gl N w0 ω0 S E (updL L q.2) a w' ω' β' → RV w' ω' β' (updL L q.2) q.1 vv → vo.own = [] → K (a.put o.dst vv) w' := by
    grind [ownV]
  obtain ⟨q1, q2⟩ := q
  simp only [Bool.or_eq_true, List.isEmpty_iff] at h4
  cases hop : vo.op with
  | call f args own =>
    grind [ownFits, call_ok]
  | ldD ag n x =>
    rw [hop] at h5 h h4
    have hown : vo.own = [] := by simpa [ownFits] using h4
    simp only [exec1] at h
    obtain ⟨v1, hv1, hs⟩ := Option.bind_eq_some_iff.1 h
    have hl : exec1 C E L vo.oid (.load ag n x) = some (v1, []) := by grind [load1_exec]
    obtain ⟨nx, vv, w', ω', β', e1, e2, e3, e4⟩ := op_ok r h5 hl
    simp only [updL] at e3 e4
    obtain ⟨ω2, β2, e5, e6⟩ := seal_ok e3 e4 hs
    exact Makes.wp (v := q1) (u := q2) ⟨nx, vv, w', ω2, β2, e1, e2, e5, e6⟩ fun vv w' ω' β' hr hv => fin0 vv w' ω' β' hr hv hown
  | bldD zero ps =>
    rw [hop] at h5 h h4
    have hown : vo.own = [] := by simpa [ownFits] using h4
    simp only [exec1] at h
    split at h
    grind
    · rename_i qs hqs
      obtain ⟨cs, hcs, hs⟩ := Option.bind_eq_some_iff.1 h
      have hl : exec1 C E L vo.oid (.build zero ps) = some (.ag cs, []) := by
        grind [exec1]
      obtain ⟨nx, vv, w', ω', β', e1, e2, e3, e4⟩ := op_ok r h5 hl
      simp only [updL] at e3 e4
      obtain ⟨ω2, β2, e5, e6⟩ := seal_ok e3 e4 hs
      exact Makes.wp (v := q1) (u := q2) ⟨nx, vv, w', ω2, β2, e1, e2, e5, e6⟩ fun vv w' ω' β' hr hv => fin0 vv w' ω' β' hr hv hown
  | mvD x =>
    rw [hop] at h5 h h4
    have hown : vo.own = [] := by simpa [ownFits] using h4
    simp only [exec1] at h
    have hl : exec1 C E L vo.oid (.mv x) = some (x.val C E, []) := rfl
    obtain ⟨nx, vv, w', ω', β', e1, e2, e3, e4⟩ := op_ok r h5 hl
    simp only [updL] at e3 e4
    obtain ⟨ω2, β2, e5, e6⟩ := seal_ok e3 e4 h
    exact Makes.wp (v := q1) (u := q2) ⟨nx, vv, w', ω2, β2, e1, e2, e5, e6⟩ fun vv w' ω' β' hr hv => fin0 vv w' ω' β' hr hv hown
  | _ =>
    rw [hop] at h5 h h4
    rcases h4 with hown | hown
    · exact (op_ok r h5 h).wp fun vv w' ω' β' hr hv => fin0 vv w' ω' β' hr hv hown
    · simp only [Bool.and_eq_true] at hown
      have hq := exec_mv_build hown.1 h
      simp only at hq
      subst hq
      exact ((op_ok r h5 h).own (pos_of hown.2) ho).wp fin

/-- One operation of a region, in whatever order it comes. -/
theorem oper_ok (hC : OracleOk P C) (r : Rel C.gl N w0 ω0 S E L a w ω β) {ops : Array Oper} {vo : VOper} (hm : mOper P N ops o vo = true) {v : V} {u : Upd} (h : runO C vo E L = some (v, u))
    {K : Act → World → Prop} {Q : Exit → Act → World → Prop} (hK : ∀ a' w' ω' β', Rel C.gl N w0 ω0 S (updD E vo.dst v) (updL L u) a' w' ω' β' → K a' w') :
    if Region.wanted o (yielded ops a.tmps) then o.wp P a w K Q ∨ (o.asks P a w ∧ LetsOut Q) else K (a.put o.dst undef) w := by
  have hm0 := hm
  unfold mOper at hm
  simp only [Bool.and_eq_true, beq_iff_eq] at hm
  obtain ⟨⟨⟨⟨h1, h2⟩, h3⟩, _⟩, _⟩ := hm
  unfold runO at h
  cases hg : vo.guard with
  | none =>
    grind [mGuard, Region.wanted, body_ok]
  | some g =>
    obtain ⟨t, want⟩ := g
    obtain ⟨j, hog, hj⟩ : ∃ j, o.guard = some (j, want) ∧ (ops[j]?).bind (·.dst) = some t := by
      cases ho : o.guard <;> grind [mGuard]
    rw [hg] at h
    simp only at h
    have hy : ∀ x, E t = some x → ∃ y, a.tmps[t]? = some y ∧ RV w ω β L x y := by
      intro x hx
      obtain ⟨e1, e2⟩ := r.env t x hx
      have hlt : t < a.tmps.size := by rw [r.size]; omega
      simp_all
    have skip : yielded ops a.tmps j ≠ some want → v = .sc .sk ∧ u = [] → if Region.wanted o (yielded ops a.tmps) then o.wp P a w K Q ∨ (o.asks P a w ∧ LetsOut Q) else K (a.put o.dst undef) w := by
      intro hne hv
      obtain ⟨rfl, rfl⟩ := hv
      rw [if_neg (by grind [Region.wanted])]
      rw [← h1]
      exact hK _ w ω β (r.putD h2 (by rfl))
    split at h
    grind [RV, RV1, RW, RD, yielded, Region.wanted, body_ok]
    grind [RV, RV1, RW, yielded, undef]
    grind

end
end Go.Vs
