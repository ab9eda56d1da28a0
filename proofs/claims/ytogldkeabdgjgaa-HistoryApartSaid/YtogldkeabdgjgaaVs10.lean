/- The value semantics, 10: struct values, closures; new objects, writes. -/
import Derived.Test.YtogldkeabdgjgaaVs9
namespace Go.Vs
open Go

section
variable {P : Program} {C : Ctx} {N : Nat} {w0 : World} {ω0 : Nat → Nat} {S : Fr} {E : Nat → Option V} {L : Nat → Option Obj} {a : Act} {w : World} {ω : Nat → Nat} {β : Nat → Option Nat}
variable {o : Oper} {v : V}

theorem Tr.refl (k : Nat) : Tr w β w β L L k := by
  unfold Tr
  cases L k with
  | none => trivial
  | some o => cases o with
    | box cs => exact ⟨⟨cs, rfl, rfl⟩, rfl⟩
    | arr s rows p => exact ⟨rows, p, rfl, Nat.le_refl _, fun _ => ⟨rfl, fun b cur t _ hc => ⟨cur, hc, rfl⟩⟩⟩

theorem get?_mem {α : Type} {l : List (Nat × α)} {k : Nat} {x : α} (h : get? l k = some x) : (k, x) ∈ l := by
  induction l with
  | nil => simp [get?] at h
  | cons y r ih =>
    obtain ⟨j, b⟩ := y
    simp only [get?] at h
    cases hb : (j == k) with
    | true =>
      simp only [hb, cond_true, Option.some.injEq] at h
      subst h
      simp only [beq_iff_eq] at hb
      subst hb
      simp
    | false =>
      simp only [hb, cond_false] at h
      exact List.mem_cons_of_mem _ (ih h)

theorem ownW_gt {oid : Nat} {own : List (Nat × Nat)} : ∀ (cells : List W) (j : Nat), ∀ x ∈ (ownW oid own j cells).2, oid + j < x.1
  | [], _, x, hx => by simp [ownW] at hx
  | c :: cs, j, x, hx => by
    simp only [ownW] at hx
    split at hx
    · simp only [List.mem_cons] at hx
      rcases hx with rfl | hx
      · show oid + j < oid + 1 + j; omega
      · have := ownW_gt cs (j + 1) x hx; omega
    · have := ownW_gt cs (j + 1) x hx; omega

/- struct values -/

theorem foldl_set (off : Nat) : ∀ (xs : List Value) (j : Nat) (cs : Array Value), off + j + xs.length ≤ cs.size →
    ((xs.zipIdx j).foldl (fun cs (x : Value × Nat) => cs.setIfInBounds (off + x.2) x.1) cs).toList = cs.toList.take (off + j) ++ xs ++ cs.toList.drop (off + j + xs.length)
  | [], j, cs, _ => by simp
  | x :: xs, j, cs, h => by
    simp only [List.zipIdx_cons, List.foldl_cons]
    rw [foldl_set off xs (j + 1) (cs.setIfInBounds (off + j) x) (by simp at h ⊢; omega)]
    have e := list_seg_step cs.toList (off + j) x xs (by simp at h ⊢; omega)
    simpa [Array.toList_setIfInBounds, Nat.add_assoc] using e

theorem foldl_set' (off : Nat) (xs cs : Array Value) (h : off + xs.size ≤ cs.size) :
    (xs.zipIdx.foldl (fun cs (x : Value × Nat) => cs.setIfInBounds (off + x.2) x.1) cs).toList = cs.toList.take off ++ xs.toList ++ cs.toList.drop (off + xs.size) := by
  rw [← Array.foldl_toList, Array.toList_zipIdx]
  simpa using foldl_set off xs.toList 0 cs (by simpa using h)

def mParts (place : Nat → Option (Nat × Nat)) : List (Nat × Operand) → List (Nat × Nat × Opd) → Bool
  | [], [] => true
  | (i, y) :: r, (off, n, x) :: r' => (match place i with | some (off', n') => off' == off && n' == n | none => false) && mOpd y x && mParts place r r'
  | _, _ => false

def partOf (C : Ctx) (E : Nat → Option V) (x : Nat × Nat × Opd) : Option (Nat × List W) := match x.2.2.val C E with
  | .tu _ => none
  | v => bif v.cells.length == x.2.1 && v.cells.all notUn then some (x.1, v.cells) else none

theorem partOf_ok {x : Nat × Nat × Opd} {q : Nat × List W} (h : partOf C E x = some q) : q = (x.1, (x.2.2.val C E).cells) ∧ (x.2.2.val C E).cells.length = x.2.1 ∧ (x.2.2.val C E).cells.all notUn = true ∧ ∀ l, x.2.2.val C E ≠ .tu l := by
  unfold partOf at h
  split at h
  · cases h
  · rename_i hne
    cases hb : ((x.2.2.val C E).cells.length == x.2.1 && (x.2.2.val C E).cells.all notUn) with
    | false => simp [hb] at h
    | true =>
      simp only [hb, cond_true, Option.some.injEq] at h
      simp only [Bool.and_eq_true, beq_iff_eq] at hb
      exact ⟨h.symm, hb.1, hb.2, fun l e => hne l e⟩

theorem fill_ok (r : Rel C.gl N w0 ω0 S E L a w ω β) {place : Nat → Option (Nat × Nat)} : ∀ {ps : List (Nat × Operand)} {ps' : List (Nat × Nat × Opd)} {qs : List (Nat × List W)} {zero cs : List W} {zs : Array Value}, mParts place ps ps' = true →
    listM (partOf C E) ps' = some qs → RWlist w ω β L zero zs.toList → fillW zero qs = some cs → ∃ arr : Array Value, Instr.fill place zs (ps.map fun (i, x) => (i, a.eval x)) = some arr ∧ RWlist w ω β L cs arr.toList
  | [], [], qs, zero, cs, zs, _, hq, hz, hf => by
    simp [listM] at hq
    subst hq
    simp only [fillW, Option.some.injEq] at hf
    subst hf
    exact ⟨zs, by simp [Instr.fill], hz⟩
  | [], _ :: _, _, _, _, _, hm, _, _, _ => by simp [mParts] at hm
  | _ :: _, [], _, _, _, _, hm, _, _, _ => by simp [mParts] at hm
  | (i, y) :: ps, (off, n, x) :: ps', qs, zero, cs, zs, hm, hq, hz, hf => by
    simp only [mParts, Bool.and_eq_true] at hm
    obtain ⟨⟨hp, hx⟩, hm⟩ := hm
    cases hpl : place i with
    | none => simp [hpl] at hp
    | some q =>
      obtain ⟨off', n'⟩ := q
      simp only [hpl, Bool.and_eq_true, beq_iff_eq] at hp
      obtain ⟨rfl, rfl⟩ := hp
      simp only [listM] at hq
      cases hpo : partOf C E (off', n', x) with
      | none => simp [hpo] at hq
      | some q0 =>
        simp only [hpo] at hq
        cases hr : listM (partOf C E) ps' with
        | none => simp [hr] at hq
        | some qs' =>
          simp only [hr, Option.some.injEq] at hq
          subst hq
          obtain ⟨rfl, h1, h2, h3⟩ := partOf_ok hpo
          simp only at h1 h2 h3
          simp only [fillW] at hf
          cases hs : splice zero off' (x.val C E).cells with
          | none => simp [hs] at hf
          | some z1 =>
            simp only [hs] at hf
            have hc := (mOpd_ok r hx).cells h3 h2
            obtain ⟨g1, g2, g3⟩ := hz.splice hc hs
            have hlen : (a.eval y).cells.size = n' := by
              have := hc.length
              simp only [Array.length_toList] at this
              omega
            have hfit : off' + (a.eval y).cells.size ≤ zs.size := by simpa using g2
            simp only [List.map_cons, Instr.fill, hpl]
            rw [if_neg (by simp only [Bool.or_eq_true, decide_eq_true_eq, not_or, Nat.not_lt, ne_eq, Decidable.not_not]; exact ⟨by simpa using hlen, hfit⟩)]
            refine fill_ok r hm hr ?_ hf
            rw [foldl_set' off' _ zs hfit]
            simpa using g1

def placesOf (P : Program) (fs : Array Field) : Option (List (Nat × Nat)) := listM (fun f => (P.info? f.type).map fun i => (f.offset, i.size)) fs.toList

theorem places_run : ∀ {fs : List Field} {l : List (Nat × Nat)}, listM (fun f => (P.info? f.type).map fun i => (f.offset, i.size)) fs = some l →
    (fs.mapM (fun (f : Field) => (do pure (f.offset, ← sizeOf f.type) : Sem (Nat × Nat)))).run P w = .ok l w
  | [], l, h => by simp [listM] at h; subst h; rfl
  | f :: fs, l, h => by
    simp only [listM] at h
    cases hi : P.info? f.type with
    | none => simp [hi] at h
    | some i =>
      simp only [hi, Option.map_some] at h
      cases hr : listM (fun f => (P.info? f.type).map fun i => (f.offset, i.size)) fs with
      | none => simp [hr] at h
      | some l' =>
        simp only [hr, Option.some.injEq] at h
        subst h
        simp only [List.mapM_cons, Sem.run_bind, run_sizeOf' hi, Result.andThen_ok, Sem.run_pure, places_run hr]

theorem gives_build (r : Rel C.gl N w0 ω0 S E L a w ω β) {t : TypeId} {parts : Array (Nat × Operand)} {ps' : List (Nat × Nat × Opd)} {i : TypeInfo} {z : Value} {zero cs : List W} (ho : o.op = .build t parts)
    (hi : P.info? t = some i) (hz : i.zero = some z) (hzero : cvList z.cells.toList zero = true) {place : Nat → Option (Nat × Nat)}
    (ht : (∃ fs l, P.underlying t = some (.struct fs) ∧ placesOf P fs = some l ∧ place = fun j => l[j]?) ∨ (∃ n e ie, P.underlying t = some (.array n e) ∧ P.info? e = some ie ∧ place = fun j => some (j * ie.size, ie.size)))
    (hm : mParts place parts.toList ps' = true) {qs : List (Nat × List W)} (hq : listM (partOf C E) ps' = some qs) (hf : fillW zero qs = some cs) (h : v = .ag cs) : Gives P o a w ω β L v := by
  subst h
  obtain ⟨arr, h1, h2⟩ := fill_ok r hm hq (cvList_ok hzero) hf
  have hz' : (zeroValue t).run P w = .ok z w := by simp [zeroValue, typeInfo, hi, hz]
  refine ⟨.agg arr, ?_, ⟨arr, rfl, h2⟩⟩
  have hmap : (parts.map fun (x : Nat × Operand) => (x.1, a.eval x.2)).toList = parts.toList.map fun (i, x) => (i, a.eval x) := by simp
  rcases ht with ⟨fs, l, h3, h4, rfl⟩ | ⟨n, e, ie, h3, h4, rfl⟩
  · have hp := places_run (P := P) (w := w) h4
    have hpl : (fun (j : Nat) => l.toArray[j]?) = fun j => l[j]? := by funext j; simp
    simp only [execOp, ho, Instr.build, Sem.run_bind, hz', Result.andThen_ok, run_underlying h3, Array.mapM_eq_mapM_toList, Sem.run_map, hp, hpl, hmap, h1, Sem.run_pure]
  · simp only [execOp, ho, Instr.build, Sem.run_bind, hz', Result.andThen_ok, run_underlying h3, run_sizeOf' h4, hmap, h1, Sem.run_pure]

/- closures -/

def mAll : List Operand → List Opd → Bool
  | [], [] => true
  | y :: ys, x :: xs => mOpd y x && mAll ys xs
  | _, _ => false

theorem mAll_ok (r : Rel C.gl N w0 ω0 S E L a w ω β) : ∀ {ys : List Operand} {xs : List Opd}, mAll ys xs = true → xs.length = ys.length ∧ ∀ (i : Nat) (x : Opd) (y : Operand), xs[i]? = some x → ys[i]? = some y → RV w ω β L (x.val C E) (a.eval y)
  | [], [], _ => by simp
  | [], _ :: _, h => by simp [mAll] at h
  | _ :: _, [], h => by simp [mAll] at h
  | y :: ys, x :: xs, h => by
    simp only [mAll, Bool.and_eq_true] at h
    obtain ⟨h1, h2⟩ := mAll_ok r h.2
    refine ⟨by simp [h1], fun i x' y' hx hy => ?_⟩
    cases i with
    | zero => simp at hx hy; subst hx hy; exact mOpd_ok r h.1
    | succ i => exact h2 i x' y' (by simpa using hx) (by simpa using hy)

theorem caps_c (r : Rel C.gl N w0 ω0 S E L a w ω β) : ∀ {ys : List Operand} {xs : List Opd} {l : List (Bool × List Cell)}, mAll ys xs = true → listM capC (xs.map (·.val C E)) = some l →
    RDcaps w ω (l.map (·.1)) (l.map (·.2)) (ys.map a.eval)
  | [], [], l, _, h => by simp [listM] at h; subst h; simp [RDcaps]
  | [], _ :: _, _, h, _ => by simp [mAll] at h
  | _ :: _, [], _, h, _ => by simp [mAll] at h
  | y :: ys, x :: xs, l, hm, h => by
    simp only [mAll, Bool.and_eq_true] at hm
    simp only [List.map_cons, listM] at h
    have h1 := mOpd_ok r hm.1
    cases hc : capC (x.val C E) with
    | none => simp [hc] at h
    | some q =>
      simp only [hc] at h
      cases hr : listM capC (xs.map (·.val C E)) with
      | none => simp [hr] at h
      | some l' =>
        simp only [hr, Option.some.injEq] at h
        subst h
        unfold capC at hc
        split at hc
        · rename_i c hv
          simp only [Option.some.injEq] at hc
          subst hc
          rw [hv] at h1
          simp only [RV, RV1, RW] at h1
          simp only [List.map_cons, RDcaps]
          exact ⟨⟨[a.eval y], by simp only [RDlist]; exact ⟨h1, trivial⟩, rfl⟩, caps_c r hm.2 hr⟩
        · cases hc

theorem caps_w (r : Rel C.gl N w0 ω0 S E L a w ω β) : ∀ {ys : List Operand} {xs : List Opd} {l : List (Bool × List W)}, mAll ys xs = true → listM capW (xs.map (·.val C E)) = some l →
    RWcaps w ω β L (l.map (·.1)) (l.map (·.2)) (ys.map a.eval)
  | [], [], l, _, h => by simp [listM] at h; subst h; simp [RWcaps]
  | [], _ :: _, _, h, _ => by simp [mAll] at h
  | _ :: _, [], _, h, _ => by simp [mAll] at h
  | y :: ys, x :: xs, l, hm, h => by
    simp only [mAll, Bool.and_eq_true] at hm
    simp only [List.map_cons, listM] at h
    have h1 := mOpd_ok r hm.1
    cases hc : capW (x.val C E) with
    | none => simp [hc] at h
    | some q =>
      simp only [hc] at h
      cases hr : listM capW (xs.map (·.val C E)) with
      | none => simp [hr] at h
      | some l' =>
        simp only [hr, Option.some.injEq] at h
        subst h
        simp only [List.map_cons, RWcaps]
        refine ⟨?_, caps_w r hm.2 hr⟩
        unfold capW at hc
        split at hc
        · cases hc
        · rename_i c hv
          simp only [Option.some.injEq] at hc
          subst hc
          rw [hv] at h1
          exact ⟨[a.eval y], by simp only [RWlist]; exact ⟨h1, trivial⟩, rfl⟩
        · rename_i cs hv
          simp only [Option.some.injEq] at hc
          subst hc
          rw [hv] at h1
          obtain ⟨arr, h2, h3⟩ := h1
          exact ⟨arr.toList, h3, by simp [packs, h2]⟩

theorem gives_fn (r : Rel C.gl N w0 ω0 S E L a w ω β) {f : FuncId} {ys : Array Operand} {xs : List Opd} (ho : o.op = .makeFunc (.func f) #[] ys) (hm : mAll ys.toList xs = true) {u : Upd}
    (h : exec1 C E L 0 (.fn f xs) = some (v, u)) : u = [] ∧ Gives P o a w ω β L v := by
  have run : (execOp a.eval o).run P w = .ok (.value (.func (.func f) #[] (ys.map a.eval))) w := by
    simp [execOp, ho, Instr.makeFunc]
  have hl : (ys.map a.eval).toList = ys.toList.map a.eval := by simp
  simp only [exec1] at h
  split at h
  · rename_i l hc
    simp only [Option.some.injEq, Prod.mk.injEq] at h
    obtain ⟨rfl, rfl⟩ := h
    refine ⟨rfl, _, run, ?_⟩
    simp only [RV, RV1, RW, RD]
    exact ⟨_, rfl, by rw [hl]; exact caps_c r hm hc⟩
  · split at h
    · rename_i l hc
      simp only [Option.some.injEq, Prod.mk.injEq] at h
      obtain ⟨rfl, rfl⟩ := h
      refine ⟨rfl, _, run, ?_⟩
      simp only [RV, RV1, RW]
      exact ⟨_, rfl, by rw [hl]; exact caps_w r hm hc⟩
    · cases h

/- ## Operations that change memory -/

/-- A run that gives a value (or none: a store), with a new memory. -/
def Makes (P : Program) (GL : Nat → List Cell) (N : Nat) (w0 : World) (ω0 : Nat → Nat) (S : Fr) (E : Nat → Option V) (L : Nat → Option Obj) (o : Oper) (a : Act) (w : World) (v : V) (u : Upd) : Prop :=
  ∃ nx vv w' ω' β', (execOp a.eval o).run P w = .ok nx w' ∧ (nx = .value vv ∨ nx = .skip ∧ vv = undef) ∧ Rel GL N w0 ω0 S E (updL L u) a w' ω' β' ∧ RV w' ω' β' (updL L u) v vv

theorem Gives.makes (r : Rel C.gl N w0 ω0 S E L a w ω β) (h : Gives P o a w ω β L v) : Makes P C.gl N w0 ω0 S E L o a w v [] := by
  obtain ⟨vv, h1, h2⟩ := h
  exact ⟨_, vv, w, ω, β, h1, .inl rfl, r, h2⟩

/-- nil cells become arrays of the frame's own. -/
theorem own_ok {GL : Nat → List Cell} {oid : Nat} {own : List (Nat × Nat)} (hpos : ∀ p ∈ own, 0 < p.2) : ∀ (cells : List W) (j : Nat) (L : Nat → Option Obj) (β : Nat → Option Nat) (vs : List Value), Rel GL N w0 ω0 S E L a w ω β → RWlist w ω β L cells vs →
    (∀ x ∈ (ownW oid own j cells).2, L x.1 = none) → ∃ β', Rel GL N w0 ω0 S E (updL L (ownW oid own j cells).2) a w ω β' ∧ RWlist w ω β' (updL L (ownW oid own j cells).2) (ownW oid own j cells).1 vs ∧
      (∀ k, Tr w β w β' L (updL L (ownW oid own j cells).2) k) ∧ (∀ x ∈ (ownW oid own j cells).2, oid + j < x.1)
  | [], j, L, β, vs, r, hr, _ => by
    simp only [ownW, updL]
    exact ⟨β, r, hr, fun k => Tr.refl k, by simp⟩
  | x :: xs, j, L, β, [], _, hr, _ => by simp [RWlist] at hr
  | x :: xs, j, L, β, v :: vs, r, hr, hfree => by
    simp only [RWlist] at hr
    by_cases hcase : x = .nil ∧ ∃ s, get? own j = some s
    · obtain ⟨rfl, s, hs⟩ := hcase
      have e : ownW oid own j (.nil :: xs) = (.arr (oid + 1 + j) 0 :: (ownW oid own (j + 1) xs).1, (oid + 1 + j, some (.arr s [] 0)) :: (ownW oid own (j + 1) xs).2) := by
        simp only [ownW, hs]
      rw [e] at hfree ⊢
      have hk : L (oid + 1 + j) = none := hfree (oid + 1 + j, some (.arr s [] 0)) (by simp)
      have hs0 : 0 < s := by
        have : (j, s) ∈ own := get?_mem hs
        exact hpos _ this
      obtain ⟨r1, t1⟩ := r.newNil hk hs0
      have hr1 := RWlist.step (Grows.refl w ω) t1 xs hr.2
      have hgt : ∀ (cells : List W) (j : Nat), ∀ x ∈ (ownW oid own j cells).2, oid + j < x.1 := ownW_gt
      obtain ⟨β', r2, hr2, t2, g2⟩ := own_ok hpos xs (j + 1) _ _ vs r1 hr1 (fun y hy => by
        rw [updO_ne]
        · exact hfree y (List.mem_cons_of_mem _ hy)
        · have := hgt xs (j + 1) y hy; omega)
      refine ⟨β', r2, ?_, fun k => (t1 k).trans (t2 k), ?_⟩
      · simp only [RWlist, updL]
        refine ⟨?_, hr2⟩
        have h0 : RW w ω (setN β (oid + 1 + j) none) (updO L (oid + 1 + j) (some (.arr s [] 0))) (.arr (oid + 1 + j) 0) v := by
          have hv : v = .slice none 0 0 := by simpa only [RW] using hr.1
          simp only [RW]
          exact ⟨s, [], 0, updO_same _ _ _, by simp, ⟨_, _, _, hv⟩, fun _ => .inr ⟨by simp [setN], rfl, none, hv⟩⟩
        exact RW.step (Grows.refl w ω) t2 _ h0
      · intro y hy
        simp only [List.mem_cons] at hy
        rcases hy with rfl | hy
        · show oid + j < oid + 1 + j; omega
        · have := g2 y hy; omega
    · have e : ownW oid own j (x :: xs) = (x :: (ownW oid own (j + 1) xs).1, (ownW oid own (j + 1) xs).2) := by
        simp only [ownW]
        split
        · rename_i s hs
          exact absurd ⟨rfl, s, hs⟩ hcase
        · rfl
      rw [e] at hfree ⊢
      obtain ⟨β', r2, hr2, t2, g2⟩ := own_ok hpos xs (j + 1) L β vs r hr.2 hfree
      refine ⟨β', r2, ?_, t2, fun y hy => by have := g2 y hy; omega⟩
      simp only [RWlist]
      exact ⟨RW.step (Grows.refl w ω) t2 _ hr.1, hr2⟩

end
end Go.Vs
