/- The value semantics, 4: lists of cells, reading and writing of blocks, and the simple operations. -/
import Derived.Test.YtogldkeabdgjgaaVs3
namespace Go.Vs
open Go

section
variable {w : World} {ω : Nat → Nat} {β : Nat → Option Nat} {L : Nat → Option Obj}

theorem RWlist.length : ∀ {xs : List W} {vs : List Value}, RWlist w ω β L xs vs → xs.length = vs.length
  | [], [], _ => rfl
  | [], _ :: _, h => by simp [RWlist] at h
  | _ :: _, [], h => by simp [RWlist] at h
  | _ :: _, _ :: _, h => by simp only [RWlist] at h; simp [RWlist.length h.2]

theorem RWlist.append : ∀ {xs ys : List W} {vs us : List Value}, RWlist w ω β L xs vs → RWlist w ω β L ys us → RWlist w ω β L (xs ++ ys) (vs ++ us)
  | [], _, [], _, _, h => h
  | [], _, _ :: _, _, h, _ => by simp [RWlist] at h
  | _ :: _, _, [], _, h, _ => by simp [RWlist] at h
  | _ :: _, _, _ :: _, _, h, h' => by simp only [RWlist, List.cons_append] at h ⊢; exact ⟨h.1, RWlist.append h.2 h'⟩

theorem RWlist.take (n : Nat) : ∀ {xs : List W} {vs : List Value}, RWlist w ω β L xs vs → RWlist w ω β L (xs.take n) (vs.take n) := by
  induction n with
  | zero => intro xs vs _; simp [RWlist]
  | succ n ih =>
    intro xs vs h
    cases xs <;> cases vs <;> simp_all [RWlist]

theorem RWlist.drop (n : Nat) : ∀ {xs : List W} {vs : List Value}, RWlist w ω β L xs vs → RWlist w ω β L (xs.drop n) (vs.drop n) := by
  induction n with
  | zero => intro xs vs h; simpa using h
  | succ n ih =>
    intro xs vs h
    cases xs <;> cases vs <;> simp_all [RWlist]

theorem RWlist.cut {xs cs : List W} {vs : List Value} {off n : Nat} (h : RWlist w ω β L xs vs) (hc : cut xs off n = some cs) :
    RWlist w ω β L cs ((vs.drop off).take n) ∧ off + n ≤ vs.length := by
  unfold Vs.cut at hc
  cases hb : Nat.ble (off + n) xs.length with
  | false => simp [hb] at hc
  | true =>
    simp only [hb, cond_true, Option.some.injEq] at hc
    subst hc
    exact ⟨(h.drop off).take n, by rw [← h.length]; exact Nat.le_of_ble_eq_true hb⟩

theorem RWlist.splice {xs ys cs : List W} {vs us : List Value} {off : Nat} (h : RWlist w ω β L xs vs) (h' : RWlist w ω β L ys us) (hc : splice xs off ys = some cs) :
    RWlist w ω β L cs (vs.take off ++ us ++ vs.drop (off + us.length)) ∧ off + us.length ≤ vs.length ∧ cs.length = xs.length := by
  unfold Vs.splice at hc
  cases hb : Nat.ble (off + ys.length) xs.length with
  | false => simp [hb] at hc
  | true =>
    simp only [hb, cond_true, Option.some.injEq] at hc
    subst hc
    have hle := Nat.le_of_ble_eq_true hb
    rw [← h'.length, ← h.length]
    refine ⟨((h.take off).append h').append (h.drop _), hle, ?_⟩
    simp only [List.length_append, List.length_take, List.length_drop]
    omega

theorem RDlist.to : ∀ {cs : List Cell} {vs : List Value}, RDlist w ω cs vs → RWlist w ω β L (cs.map W.c) vs
  | [], [], _ => by simp [RWlist]
  | [], _ :: _, h => by simp [RDlist] at h
  | _ :: _, [], h => by simp [RDlist] at h
  | _ :: _, _ :: _, h => by simp only [RDlist] at h; simp only [List.map_cons, RWlist, RW]; exact ⟨h.1, RDlist.to h.2⟩

theorem RDlist.of : ∀ {cs : List Cell} {vs : List Value}, RWlist w ω β L (cs.map W.c) vs → RDlist w ω cs vs
  | [], [], _ => by simp [RDlist]
  | [], _ :: _, h => by simp [RWlist] at h
  | _ :: _, [], h => by simp [RWlist] at h
  | _ :: _, _ :: _, h => by simp only [List.map_cons, RWlist, RW] at h; simp only [RDlist]; exact ⟨h.1, RDlist.of h.2⟩

theorem RDlist.length {cs : List Cell} {vs : List Value} (h : RDlist w ω cs vs) : cs.length = vs.length := by
  simpa using (RDlist.to (β := fun _ => none) (L := fun _ => none) h).length

/-- Published cells, as a list of values that lie there. -/
theorem RDcells.list : ∀ {cs : List Cell} {b o : Nat}, RDcells w ω b o cs →
    ∃ vs : List Value, RDlist w ω cs vs ∧ ∀ j v, vs[j]? = some v → at? w b (o + j) = some v ∧ o + j < ω b
  | [], _, _, _ => ⟨[], by simp [RDlist], by simp⟩
  | c :: cs, b, o, h => by
    simp only [RDcells] at h
    obtain ⟨⟨h1, v, h2, h3⟩, h4⟩ := h
    obtain ⟨vs, h5, h6⟩ := RDcells.list h4
    refine ⟨v :: vs, by simp only [RDlist]; exact ⟨h3, h5⟩, fun j u hu => ?_⟩
    cases j with
    | zero => simp at hu; subst hu; exact ⟨h2, h1⟩
    | succ j =>
      have := h6 j u (by simpa using hu)
      rw [show o + (j + 1) = o + 1 + j from by omega]
      exact this

theorem RDcells.mk : ∀ {cs : List Cell} {vs : List Value} {b o : Nat}, RDlist w ω cs vs → (∀ j v, vs[j]? = some v → at? w b (o + j) = some v ∧ o + j < ω b) → RDcells w ω b o cs
  | [], _, _, _, _, _ => by simp [RDcells]
  | _ :: _, [], _, _, h, _ => by simp [RDlist] at h
  | c :: cs, v :: vs, b, o, h, h' => by
    simp only [RDlist] at h
    simp only [RDcells]
    have h0 := h' 0 v (by simp)
    refine ⟨⟨h0.2, v, h0.1, h.1⟩, RDcells.mk h.2 fun j u hu => ?_⟩
    have := h' (j + 1) u (by simpa using hu)
    rw [show o + 1 + j = o + (j + 1) from by omega]
    exact this

theorem RDcells.cut {cs ds : List Cell} {b o off n : Nat} (h : RDcells w ω b o cs) (hc : cut cs off n = some ds) : RDcells w ω b (o + off) ds := by
  unfold Vs.cut at hc
  cases hb : Nat.ble (off + n) cs.length with
  | false => simp [hb] at hc
  | true =>
    simp only [hb, cond_true, Option.some.injEq] at hc
    subst hc
    obtain ⟨vs, h1, h2⟩ := h.list
    have h3 : RDlist w ω ((cs.drop off).take n) ((vs.drop off).take n) := by
      have := ((RDlist.to (β := fun _ => none) (L := fun _ => none) h1).drop off).take n
      rw [← List.map_drop, ← List.map_take] at this
      exact RDlist.of this
    refine RDcells.mk h3 fun j v hv => ?_
    rw [List.getElem?_take] at hv
    split at hv
    · rw [List.getElem?_drop] at hv
      have := h2 (off + j) v hv
      rw [show o + off + j = o + (off + j) from by omega]
      exact this
    · cases hv

theorem RDrows.get : ∀ {rows : List (List Cell)} {b s o i : Nat} {row : List Cell}, RDrows w ω b s o rows → rows[i]? = some row → row.length = s ∧ RDcells w ω b (o + i * s) row
  | [], _, _, _, _, _, _, h => by simp at h
  | r :: rs, b, s, o, i, row, h, hi => by
    simp only [RDrows] at h
    cases i with
    | zero => simp at hi; subst hi; simpa using ⟨h.1, h.2.1⟩
    | succ i =>
      have := RDrows.get h.2.2 (by simpa using hi)
      rw [show o + (i + 1) * s = o + s + i * s from by rw [Nat.add_mul]; omega]
      exact this

theorem RDrows.drop {b s : Nat} (n : Nat) : ∀ {rows : List (List Cell)} {o : Nat}, RDrows w ω b s o rows → RDrows w ω b s (o + n * s) (rows.drop n) := by
  induction n with
  | zero => intro rows o h; simpa using h
  | succ n ih =>
    intro rows o h
    cases rows with
    | nil => simp [RDrows]
    | cons r rs =>
      simp only [RDrows] at h
      have := ih h.2.2
      rw [show o + (n + 1) * s = o + s + n * s from by rw [Nat.add_mul]; omega]
      simpa using this

theorem RDrows.take {b s : Nat} (n : Nat) : ∀ {rows : List (List Cell)} {o : Nat}, RDrows w ω b s o rows → RDrows w ω b s o (rows.take n) := by
  induction n with
  | zero => intro rows o _; simp [RDrows]
  | succ n ih =>
    intro rows o h
    cases rows with
    | nil => simp [RDrows]
    | cons r rs =>
      simp only [RDrows, List.take_succ_cons] at h ⊢
      exact ⟨h.1, h.2.1, ih h.2.2⟩

theorem RD.oneCell {c : Cell} {v : Value} (h : RD w ω c v) : v.oneCell' = true := by
  cases c <;> simp only [RD] at h
  case int => subst h; rfl
  case bool => subst h; rfl
  case str => obtain ⟨a, rfl, _⟩ := h; rfl
  case sl => obtain ⟨base, cap, rfl, _⟩ := h; rfl
  case fn => obtain ⟨cs, rfl, _⟩ := h; rfl
  case nilfn => subst h; rfl
  case nilptr => subst h; rfl
  case nilif => subst h; rfl
  case ifc => obtain ⟨x, vs, rfl, _⟩ := h; rfl
  case ro => obtain ⟨b, o, rfl, _⟩ := h; rfl

theorem ArrV.oneCell {k s n : Nat} {v : Value} (h : ArrV w β k s n v) : v.oneCell' = true := by
  rcases h with ⟨b, cap, cur, t, _, rfl, _⟩ | ⟨_, _, base, rfl⟩ <;> rfl
theorem RW.oneCell {x : W} {v : Value} (h : RW w ω β L x v) (hn : notUn x = true) : v.oneCell' = true := by
  cases x <;> simp only [RW] at h
  case c => exact h.oneCell
  case nil => subst h; rfl
  case full => exact h.1.oneCell
  case arr => obtain ⟨_, _, _, _, _, ⟨_, _, _, rfl⟩, _⟩ := h; rfl
  case vw => obtain ⟨_, _, _, _, _, ⟨_, _, _, rfl⟩, _⟩ := h; rfl
  case ptr => obtain ⟨_, _, _, _, rfl⟩ := h; rfl
  case el => obtain ⟨_, _, _, _, _, ⟨_, rfl⟩, _⟩ := h; rfl
  case clo => obtain ⟨_, rfl, _⟩ := h; rfl
  case ifw => obtain ⟨_, _, rfl, _⟩ := h; rfl
  case sk => simp [notUn] at hn
  case un => simp [notUn] at hn

theorem RWlist.oneCells : ∀ {xs : List W} {vs : List Value}, RWlist w ω β L xs vs → xs.all notUn = true → ∀ v ∈ vs, v.oneCell' = true
  | [], [], _, _, v, hv => by simp at hv
  | [], _ :: _, h, _, _, _ => by simp [RWlist] at h
  | _ :: _, [], h, _, _, _ => by simp [RWlist] at h
  | x :: xs, u :: vs, h, hn, v, hv => by
    simp only [RWlist] at h
    simp only [List.all_cons, Bool.and_eq_true] at hn
    simp only [List.mem_cons] at hv
    rcases hv with rfl | hv
    · exact h.1.oneCell hn.1
    · exact RWlist.oneCells h.2 hn.2 v hv

theorem cells_one {v : Value} (h : v.oneCell' = true) : v.cells = #[v] := by
  cases v <;> first | rfl | simp [Value.oneCell'] at h

/-- A value's cells. -/
theorem RV.cells {x : V} {v : Value} (h : RV w ω β L x v) (ht : ∀ l, x ≠ .tu l) (hn : x.cells.all notUn = true) : RWlist w ω β L x.cells v.cells.toList := by
  cases x with
  | sc x =>
    have h1 := RW.oneCell h (by simpa [V.cells] using hn)
    rw [cells_one h1]
    simp only [V.cells, RWlist]
    exact ⟨h, trivial⟩
  | ag cs => obtain ⟨a, rfl, h2⟩ := h; exact h2
  | tu l => exact absurd rfl (ht l)
end

/- ## Runs of the model's operations on blocks -/

section
variable {P : Program} {w : World}

theorem at?_block {b i : Nat} {cs : Array Value} {t : TypeId} {fr : Nat × Nat} (h : w.heap[b]? = some (.cells cs t fr)) : at? w b i = cs[i]? := by
  simp [at?, World.cell?, h]

def isAggB (P : Program) (t : TypeId) : Bool := match P.underlying t with
  | some (.struct _) | some (.array _ _) => true
  | _ => false

theorem run_isAgg {t : TypeId} (h : (P.underlying t).isSome = true) : (isAgg t).run P w = .ok (isAggB P t) w := by
  cases hu : P.underlying t with
  | none => simp [hu] at h
  | some d =>
    unfold isAgg isAggB
    simp only [Sem.run_bind, run_underlying hu, Result.andThen_ok, hu]
    cases d <;> rfl

theorem run_sizeOf' {t : TypeId} {i : TypeInfo} (h : P.info? t = some i) : (sizeOf t).run P w = .ok i.size w := by
  simp [sizeOf, typeInfo, h]

/-- Cells as one value: a struct of them, or the one cell. -/
def packV (ag : Bool) (vs : List Value) : Value := if ag then .agg vs.toArray else vs.headD undef

theorem run_loadVar {t : TypeId} {i : TypeInfo} {b off : Nat} {vs : List Value} (hu : (P.underlying t).isSome = true) (hi : P.info? t = some i) (hl : vs.length = i.size)
    (hag : isAggB P t = true ∨ vs.length = 1) (h : ∀ j v, vs[j]? = some v → at? w b (off + j) = some v) :
    (loadVar t ⟨b, off, none⟩).run P w = .ok (packV (isAggB P t) vs) w := by
  unfold loadVar
  simp only [Sem.run_bind, run_isAgg hu, Result.andThen_ok]
  have hadd : ∀ j, (⟨b, off, none⟩ : Addr).add j = ⟨b, off + j, none⟩ := by intro j; unfold Addr.add; split <;> simp_all
  cases hb : isAggB P t with
  | true =>
    have hlc := run_loadCells_list (P := P) w ⟨b, off, none⟩ vs (by intro j v hv; rw [hadd]; exact h j v hv)
    rw [hl] at hlc
    simp only [if_true, Sem.run_bind, run_sizeOf' hi, Result.andThen_ok, hlc, Sem.run_pure, packV]
  | false =>
    have h1 : vs.length = 1 := by simpa [hb] using hag
    obtain ⟨v, rfl⟩ : ∃ v, vs = [v] := by
      cases vs with
      | nil => simp at h1
      | cons v r => cases r with
        | nil => exact ⟨v, rfl⟩
        | cons _ _ => simp at h1
    have hc := h 0 v (by simp)
    simp only [Nat.add_zero] at hc
    simp only [at?] at hc
    simp [packV, load, Sem.run, hc]
end

end Go.Vs
