/- The value semantics, 11: operations that make or write memory. -/
import Derived.Test.YtogldkeabdgjgaaVs10
namespace Go.Vs
open Go

section
variable {P : Program} {C : Ctx} {N : Nat} {w0 : World} {ω0 : Nat → Nat} {S : Fr} {E : Nat → Option V} {L : Nat → Option Obj} {a : Act} {w : World} {ω : Nat → Nat} {β : Nat → Option Nat}
variable {o : Oper} {v : V}

theorem updL_free {u : Upd} {k : Nat} (h : ∀ x ∈ u, x.1 ≠ k) : updL L u k = L k := by
  induction u generalizing L with
  | nil => rfl
  | cons x r ih =>
    obtain ⟨j, y⟩ := x
    simp only [updL]
    rw [ih (fun z hz => h z (by simp [hz])), updO_ne]
    exact fun e => h (j, y) (by simp) e.symm

theorem newVar_run (t : TypeId) (z : Value) : (newVar t z).run P w = .ok ⟨w.heap.size, 0, none⟩ (w.alloc (.cells z.cells t)) := by
  simp [newVar, newRow]

/-- A new box. -/
theorem Rel.newBox {GL : Nat → List Cell} (r : Rel GL N w0 ω0 S E L a w ω β) {k : Nat} (hk : L k = none) {cells : List W} {cs : Array Value} (t : TypeId) (hr : RWlist w ω β L cells cs.toList) :
    ∃ ω' β', Rel GL N w0 ω0 S E (updO L k (some (.box cells))) a (w.alloc (.cells cs t)) ω' β' ∧ RW (w.alloc (.cells cs t)) ω' β' (updO L k (some (.box cells))) (.ptr k 0) (.pointer (some ⟨w.heap.size, 0, none⟩)) := by
  obtain ⟨r', tr⟩ := r.alloc (o := .box cells) hk cs t 0 (fun tr => ⟨w.heap.size, cs, t, by simp [setN], heap_alloc_new w _, RWlist.step (Grows.alloc w ω _ 0) tr cells hr, by simp [setN]⟩)
  refine ⟨_, _, r', ?_⟩
  simp only [RW]
  exact ⟨cells, w.heap.size, updO_same _ _ _, by simp [setN], rfl⟩

theorem makes_new (r : Rel C.gl N w0 ω0 S E L a w ω β) {t : TypeId} {i : TypeInfo} {z : Value} {cells : List W} {own : List (Nat × Nat)} {oid : Nat} (ho : o.op = .alloc t) (hi : P.info? t = some i) (hz : i.zero = some z)
    (hc : cvList z.cells.toList cells = true) (hpos : ∀ p ∈ own, 0 < p.2) {u : Upd} (h : exec1 C E L oid (.new cells own) = some (v, u)) : Makes P C.gl N w0 ω0 S E L o a w v u := by
  simp only [exec1] at h
  split at h
  · cases h
  · rename_i hk
    cases hb : (ownW oid own 0 cells).2.all (fun u => (L u.1).isNone) with
    | false => simp [hb] at h
    | true =>
      simp only [hb, cond_true, Option.some.injEq, Prod.mk.injEq] at h
      obtain ⟨rfl, rfl⟩ := h
      have hfree : ∀ x ∈ (ownW oid own 0 cells).2, L x.1 = none := by
        intro x hx
        have := List.all_eq_true.1 hb x hx
        simpa using this
      obtain ⟨β1, r1, hr1, _, g1⟩ := own_ok hpos cells 0 L β z.cells.toList r (cvList_ok hc) hfree
      have hk1 : updL L (ownW oid own 0 cells).2 oid = none := by
        rw [updL_free (fun x hx => by have := g1 x hx; omega)]; exact hk
      obtain ⟨ω', β', r2, h2⟩ := r1.newBox hk1 t hr1
      refine ⟨.value (.pointer (some ⟨w.heap.size, 0, none⟩)), .pointer (some ⟨w.heap.size, 0, none⟩), w.alloc (.cells z.cells t), ω', β', ?_, .inl rfl, ?_, ?_⟩
      · simp only [execOp, ho, Instr.alloc, Sem.run_bind, zeroValue, typeInfo, run_program, Result.andThen_ok, hi, Sem.run_pure, hz, newVar_run]
      · rw [updL_append]; exact r2
      · rw [updL_append]; exact h2

theorem makes_box (r : Rel C.gl N w0 ω0 S E L a w ω β) {t : TypeId} {x : Operand} {x' : Opd} {oid : Nat} (ho : o.op = .box t x) (hx : mOpd x x' = true) {u : Upd} (h : exec1 C E L oid (.box x') = some (v, u)) : Makes P C.gl N w0 ω0 S E L o a w v u := by
  have h1 := mOpd_ok r hx
  have run : (execOp a.eval o).run P w = .ok (.value (.pointer (some ⟨w.heap.size, 0, none⟩))) (w.alloc (.cells (a.eval x).cells t)) := by
    simp only [execOp, ho, Instr.box, Sem.run_bind, newVar_run, Result.andThen_ok, Sem.run_pure]
  simp only [exec1] at h
  split at h
  · rename_i y hk hv
    rw [hv] at h1
    cases hn : notUn y with
    | false => simp [hn] at h
    | true =>
      simp only [hn, cond_true, Option.some.injEq, Prod.mk.injEq] at h
      obtain ⟨rfl, rfl⟩ := h
      have hc := RV.cells h1 (by simp) (by simpa [V.cells] using hn)
      obtain ⟨ω', β', r2, h2⟩ := r.newBox hk t hc
      exact ⟨_, _, _, ω', β', run, .inl rfl, r2, h2⟩
  · rename_i cs hk hv
    rw [hv] at h1
    cases hn : cs.all notUn with
    | false => simp [hn] at h
    | true =>
      simp only [hn, cond_true, Option.some.injEq, Prod.mk.injEq] at h
      obtain ⟨rfl, rfl⟩ := h
      have hc := RV.cells h1 (by simp) (by simpa [V.cells] using hn)
      obtain ⟨ω', β', r2, h2⟩ := r.newBox hk t hc
      exact ⟨_, _, _, ω', β', run, .inl rfl, r2, h2⟩
  · cases h

/-- A new array. -/
theorem Rel.newArr {GL : Nat → List Cell} (r : Rel GL N w0 ω0 S E L a w ω β) {k s cap : Nat} (hk : L k = none) (hs : 0 < s) {rows : List (List W)} (hrows : ∀ r ∈ rows, r.length = s) {cs : Array Value} (t : TypeId)
    (hsz : cs.size = cap * s) (hle : rows.length ≤ cap) (hcap : cap ≤ maxRows) (hr : RWlist w ω β L rows.flatten (cs.toList.take (rows.length * s))) :
    ∃ ω' β', Rel GL N w0 ω0 S E (updO L k (some (.arr s rows 0))) a (w.alloc (.cells cs t)) ω' β' ∧
      RW (w.alloc (.cells cs t)) ω' β' (updO L k (some (.arr s rows 0))) (.arr k rows.length) (.slice (some ⟨w.heap.size, 0, none⟩) rows.length cap) := by
  obtain ⟨r', tr⟩ := r.alloc (o := .arr s rows 0) hk cs t 0 (fun tr => ⟨hs, hrows, Nat.zero_le _, .inl ⟨w.heap.size, cap, cs, t, by simp [setN], heap_alloc_new w _, hsz, hle, hcap, RWlist.step (Grows.alloc w ω _ 0) tr _ hr, by simp [setN]⟩⟩)
  refine ⟨_, _, r', ?_⟩
  simp only [RW]
  exact ⟨s, rows, 0, updO_same _ _ _, Nat.le_refl _, ⟨_, _, _, rfl⟩, fun _ => .inl ⟨w.heap.size, cap, cs, t, by simp [setN], rfl, heap_alloc_new w _, hsz⟩⟩

def rowOf (C : Ctx) (E : Nat → Option V) (s : Nat) (x : Opd) : Option (List W) := match x.val C E with
  | .tu _ => none
  | v => bif v.cells.length == s && v.cells.all notUn then some v.cells else none

theorem rowOf_ok {s : Nat} {x : Opd} {q : List W} (h : rowOf C E s x = some q) : q = (x.val C E).cells ∧ (x.val C E).cells.length = s ∧ (x.val C E).cells.all notUn = true ∧ ∀ l, x.val C E ≠ .tu l := by
  unfold rowOf at h
  split at h
  · cases h
  · rename_i hne
    cases hb : ((x.val C E).cells.length == s && (x.val C E).cells.all notUn) with
    | false => simp [hb] at h
    | true =>
      simp only [hb, cond_true, Option.some.injEq] at h
      simp only [Bool.and_eq_true, beq_iff_eq] at hb
      exact ⟨h.symm, hb.1, hb.2, fun l e => hne l e⟩

/-- The parts of a slice literal lie one behind the other, from place j on. -/
def mRow : Nat → List (Nat × Operand) → List Opd → Bool
  | _, [], [] => true
  | j, (i, y) :: r, x :: r' => i == j && mOpd y x && mRow (j + 1) r r'
  | _, _, _ => false

theorem row_fill (r : Rel C.gl N w0 ω0 S E L a w ω β) {s : Nat} : ∀ {ps : List (Nat × Operand)} {xs : List Opd} {rows : List (List W)} {j : Nat} {zs : Array Value} {pre : List W}, mRow j ps xs = true → listM (rowOf C E s) xs = some rows →
    RWlist w ω β L pre (zs.toList.take (j * s)) → pre.length = j * s → (j + xs.length) * s ≤ zs.size →
    ∃ arr : Array Value, Instr.fill (fun i => some (i * s, s)) zs (ps.map fun (i, x) => (i, a.eval x)) = some arr ∧ arr.size = zs.size ∧ RWlist w ω β L (pre ++ rows.flatten) (arr.toList.take ((j + xs.length) * s)) ∧ (∀ r ∈ rows, r.length = s) ∧ rows.length = xs.length
  | [], [], rows, j, zs, pre, _, h, hp, _, _ => by
    simp [listM] at h
    subst h
    exact ⟨zs, by simp [Instr.fill], rfl, by simpa using hp, by simp, rfl⟩
  | [], _ :: _, _, _, _, _, hm, _, _, _, _ => by simp [mRow] at hm
  | _ :: _, [], _, _, _, _, hm, _, _, _, _ => by simp [mRow] at hm
  | (i, y) :: ps, x :: xs, rows, j, zs, pre, hm, h, hp, hpl, hsz => by
    simp only [mRow, Bool.and_eq_true, beq_iff_eq] at hm
    obtain ⟨⟨rfl, hx⟩, hm⟩ := hm
    simp only [listM] at h
    cases hq : rowOf C E s x with
    | none => simp [hq] at h
    | some q =>
      simp only [hq] at h
      cases hr : listM (rowOf C E s) xs with
      | none => simp [hr] at h
      | some rows' =>
        simp only [hr, Option.some.injEq] at h
        subst h
        obtain ⟨rfl, h1, h2, h3⟩ := rowOf_ok hq
        have hc := (mOpd_ok r hx).cells h3 h2
        have hlen : (a.eval y).cells.size = s := by
          have := hc.length
          simp only [Array.length_toList] at this
          omega
        have hsz' : i * s + s ≤ zs.size := by
          have : (i + (xs.length + 1)) * s = i * s + s + xs.length * s := by rw [Nat.add_mul, Nat.add_mul]; omega
          simp only [List.length_cons] at hsz
          omega
        have hset := foldl_set' (i * s) (a.eval y).cells zs (by omega)
        simp only [List.map_cons, Instr.fill]
        rw [if_neg (by simp only [Bool.or_eq_true, decide_eq_true_eq, not_or, Nat.not_lt, ne_eq, Decidable.not_not]; exact ⟨by simpa using hlen, by omega⟩)]
        generalize hz1 : (a.eval y).cells.zipIdx.foldl (fun cs (x : Value × Nat) => cs.setIfInBounds (i * s + x.2) x.1) zs = z1 at hset
        have hz1s : z1.size = zs.size := by
          have := congrArg List.length hset
          simp only [Array.length_toList, List.length_append, List.length_take, List.length_drop] at this
          omega
        have hpre : RWlist w ω β L (pre ++ (x.val C E).cells) (z1.toList.take ((i + 1) * s)) := by
          rw [hset]
          have e : (i + 1) * s = (zs.toList.take (i * s) ++ (a.eval y).cells.toList).length := by
            simp only [List.length_append, List.length_take, Array.length_toList, Nat.add_mul]
            omega
          rw [e, List.take_left']
          · exact hp.append hc
          · rfl
        obtain ⟨arr, g1, g2, g3, g4, g5⟩ := row_fill r (pre := pre ++ (x.val C E).cells) (zs := z1) hm hr hpre (by simp [hpl, h1, Nat.add_mul]) (by
          rw [hz1s]
          have : i + 1 + xs.length = i + (x :: xs).length := by simp; omega
          rw [this]; exact hsz)
        refine ⟨arr, ?_, g2.trans hz1s, ?_, ?_, by simp [g5]⟩
        · exact g1
        · rw [show i + (x :: xs).length = i + 1 + xs.length from by simp; omega]
          simpa [List.append_assoc] using g3
        · intro r' hr'
          simp only [List.mem_cons] at hr'
          rcases hr' with rfl | hr'
          · exact h1
          · exact g4 r' hr'

theorem makes_mkSl (r : Rel C.gl N w0 ω0 S E L a w ω β) {t e : TypeId} {i : TypeInfo} {z : Value} {len oid : Nat} {parts : Array (Nat × Operand)} {xs : List Opd} (ho : o.op = .buildSlice t len parts) (ht : P.underlying t = some (.slice e)) (hi : P.info? e = some i) (hz : i.zero = some z)
    (hs : 0 < i.size) (hbig : len * i.size ≤ 2 ^ 24) (hm : mRow 0 parts.toList xs = true) (hlen : xs.length = len) {u : Upd} (h : exec1 C E L oid (.mkSl i.size xs) = some (v, u)) : Makes P C.gl N w0 ω0 S E L o a w v u := by
  simp only [exec1] at h
  split at h
  · cases h
  · rename_i hk
    split at h
    · cases h
    · rename_i rows hrows
      simp only [Option.some.injEq, Prod.mk.injEq] at h
      obtain ⟨rfl, rfl⟩ := h
      obtain ⟨arr, g1, g2, g3, g4, g5⟩ := row_fill r (s := i.size) (rows := rows) (j := 0) (pre := [])
        (zs := (Array.range (len * i.size)).map fun q => ((if len * i.size = 0 then #[] else z.cells) : Array Value)[q % ((if len * i.size = 0 then #[] else z.cells) : Array Value).size]!) hm hrows (by simp [RWlist]) (by simp) (by simp [hlen])
      have hl : rows.length = len := by omega
      have hmap : (parts.map fun (x : Nat × Operand) => (x.1, a.eval x.2)).toList = parts.toList.map fun (i, x) => (i, a.eval x) := by simp
      have hbig' : ¬ len * i.size > 2 ^ 24 := by omega
      have run : (execOp a.eval o).run P w = .ok (.value (.slice (some ⟨w.heap.size, 0, none⟩) len len)) (w.alloc (.cells arr e)) := by
        simp only [execOp, ho, Instr.buildSlice, Sem.run_bind, run_underlying ht, Result.andThen_ok, run_sizeOf' hi, hbig', if_false]
        by_cases h0 : len * i.size = 0
        · simp only [h0, if_true, Sem.run_pure, hmap] at g1 ⊢
          simp only [g1, Sem.run_bind, newRow, run_newObj, Result.andThen_ok, Sem.run_pure]
          rfl
        · simp only [h0, if_false, Sem.run_bind, zeroValue, typeInfo, run_program, Result.andThen_ok, hi, Sem.run_pure, hz, hmap] at g1 ⊢
          simp only [g1, Sem.run_bind, newRow, run_newObj, Result.andThen_ok, Sem.run_pure]
          rfl
      have hcap : len ≤ maxRows := by
        have : len * 1 ≤ len * i.size := Nat.mul_le_mul_left _ hs
        simp only [maxRows]; omega
      obtain ⟨ω', β', r2, h2⟩ := r.newArr (cap := len) (rows := rows) hk hs g4 (cs := arr) e (by rw [g2]; simp) (by omega) hcap (by
        rw [hl]; simpa [hlen] using g3)
      rw [hl] at h2
      exact ⟨_, _, _, ω', β', run, .inl rfl, r2, by rw [hl]; exact h2⟩

end
end Go.Vs
