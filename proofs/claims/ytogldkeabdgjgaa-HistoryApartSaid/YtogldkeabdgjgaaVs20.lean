/- The value semantics, 20: an operation with its guard does what the model's does. -/
import Derived.Test.YtogldkeabdgjgaaVs19
namespace Go.Vs
open Go

def ownFits : VOp → Bool
  | .mv _ | .build _ _ => true
  | _ => false

def mGuard (ops : Array Oper) : Option (Nat × Bool) → Option (Nat × Bool) → Bool
  | none, none => true
  | some (j, w), some (t, w') => w == w' && (match (ops[j]?).bind (·.dst) with | some t' => t' == t | none => false)
  | _, _ => false

def mOper (P : Program) (N : Nat) (ops : Array Oper) (o : Oper) (vo : VOper) : Bool :=
  vo.dst == o.dst && (match vo.dst with | some d => Nat.blt d N | none => true) && mGuard ops o.guard vo.guard &&
  (vo.own.isEmpty || (ownFits vo.op && vo.own.all (fun p => Nat.blt 0 p.2))) &&
  (match vo.op with
    | .call f args own => mCall o.op f args own
    | op => mOp P o.op op)

def updD (E : Nat → Option V) (d : Option Nat) (v : V) : Nat → Option V := match d with
  | some d => updE E d v
  | none => E

section
variable {P : Program} {C : Ctx} {N : Nat} {w0 : World} {ω0 : Nat → Nat} {S : Fr} {E : Nat → Option V} {L : Nat → Option Obj} {a : Act} {w : World} {ω : Nat → Nat} {β : Nat → Option Nat}
variable {o : Oper} {v : V}

theorem Rel.putD {GL : Nat → List Cell} (r : Rel GL N w0 ω0 S E L a w ω β) {d : Option Nat} (hd : (match d with | some d => Nat.blt d N | none => true) = true) {vv : Value} (hv : RV w ω β L v vv) :
    Rel GL N w0 ω0 S (updD E d v) L (a.put d vv) w ω β := by
  cases d with
  | none => exact r
  | some d => exact r.put (Nat.le_of_ble_eq_true (show Nat.ble (d + 1) N = true from hd)) hv

theorem Makes.wp {u : Upd} (h : Makes P C.gl N w0 ω0 S E L o a w v u) {K : Act → World → Prop} {Q : Exit → Act → World → Prop}
    (hK : ∀ vv w' ω' β', Rel C.gl N w0 ω0 S E (updL L u) a w' ω' β' → RV w' ω' β' (updL L u) v vv → K (a.put o.dst vv) w') : o.wp P a w K Q := by
  obtain ⟨nx, vv, w', ω', β', h1, h2, h3, h4⟩ := h
  unfold Oper.wp
  rw [h1]
  rcases h2 with rfl | ⟨rfl, rfl⟩
  · rw [Oper.upon_value]; exact hK vv w' ω' β' h3 h4
  · rw [Oper.upon_skip]; exact hK undef w' ω' β' h3 h4

/-- Own arrays for nil cells of a result. -/
theorem Makes.own {oid : Nat} {own : List (Nat × Nat)} (hpos : ∀ p ∈ own, 0 < p.2) (h : Makes P C.gl N w0 ω0 S E L o a w v []) {v' : V} {u' : Upd} (ho : ownV oid own L (v, []) = some (v', u')) : Makes P C.gl N w0 ω0 S E L o a w v' u' := by
  unfold ownV at ho
  split at ho
  · simp only [Option.some.injEq, Prod.mk.injEq] at ho
    obtain ⟨rfl, rfl⟩ := ho
    exact h
  · obtain ⟨nx, vv, w', ω', β', h1, h2, h3, h4⟩ := h
    simp only [updL] at h3 h4
    split at ho
    · rename_i x hx
      simp only at hx
      subst hx
      dsimp only at ho
      cases hb : (ownW oid own 0 [x]).2.all (fun u => (L u.1).isNone) with
      | false => rw [hb] at ho; simp at ho
      | true =>
        rw [hb] at ho
        simp only [cond_true, List.nil_append] at ho
        have hfree : ∀ y ∈ (ownW oid own 0 [x]).2, L y.1 = none := by
          intro y hy
          simpa using List.all_eq_true.1 hb y hy
        have hr : RWlist w' ω' β' L [x] [vv] := by simp only [RWlist]; exact ⟨h4, trivial⟩
        obtain ⟨β2, r2, hr2, _, _⟩ := own_ok hpos [x] 0 L β' [vv] h3 hr hfree
        generalize ownW oid own 0 [x] = Y at ho r2 hr2
        cases hY : Y.1 with
        | nil => simp [hY] at ho
        | cons y ys =>
          simp only [hY, List.head?_cons, Option.map_some, Option.some.injEq, Prod.mk.injEq] at ho
          obtain ⟨rfl, rfl⟩ := ho
          rw [hY] at hr2
          simp only [RWlist] at hr2
          exact ⟨nx, vv, w', ω', β2, h1, h2, r2, hr2.1⟩
    · rename_i cs hx
      simp only at hx
      subst hx
      dsimp only at ho
      cases hb : (ownW oid own 0 cs).2.all (fun u => (L u.1).isNone) with
      | false => rw [hb] at ho; simp at ho
      | true =>
        rw [hb] at ho
        simp only [cond_true, List.nil_append, Option.some.injEq, Prod.mk.injEq] at ho
        obtain ⟨rfl, rfl⟩ := ho
        have hfree : ∀ y ∈ (ownW oid own 0 cs).2, L y.1 = none := by
          intro y hy
          simpa using List.all_eq_true.1 hb y hy
        obtain ⟨arr, g1, g2⟩ := h4
        obtain ⟨β2, r2, hr2, _, _⟩ := own_ok hpos cs 0 L β' arr.toList h3 g2 hfree
        exact ⟨nx, vv, w', ω', β2, h1, h2, r2, ⟨arr, g1, hr2⟩⟩
    · cases ho

theorem exec_mv_build {vop : VOp} (hf : ownFits vop = true) {oid : Nat} {q : V × Upd} (h : exec1 C E L oid vop = some q) : q.2 = [] := by
  cases vop <;> simp only [ownFits, Bool.false_eq_true] at hf
  · simp only [exec1, Option.some.injEq] at h; subst h; rfl
  · simp only [exec1] at h
    split at h
    · cases h
    · rename_i ps hps
      cases hfill : fillW _ ps with
      | none => rw [hfill] at h; simp at h
      | some cs => rw [hfill] at h; simp only [Option.map_some, Option.some.injEq] at h; subst h; rfl

/-- The operation that is to be carried out. -/
theorem body_ok (hC : OracleOk P C) (r : Rel C.gl N w0 ω0 S E L a w ω β) {ops : Array Oper} {vo : VOper} (hm : mOper P N ops o vo = true) {q : V × Upd} (h : exec1 C E L vo.oid vo.op = some q) {v : V} {u : Upd} (ho : ownV vo.oid vo.own L q = some (v, u))
    {K : Act → World → Prop} {Q : Exit → Act → World → Prop} (hK : ∀ a' w' ω' β', Rel C.gl N w0 ω0 S (updD E vo.dst v) (updL L u) a' w' ω' β' → K a' w') : o.wp P a w K Q := by
  unfold mOper at hm
  simp only [Bool.and_eq_true, beq_iff_eq] at hm
  obtain ⟨⟨⟨⟨h1, h2⟩, _⟩, h4⟩, h5⟩ := hm
  have fin : ∀ vv w' ω' β', Rel C.gl N w0 ω0 S E (updL L u) a w' ω' β' → RV w' ω' β' (updL L u) v vv → K (a.put o.dst vv) w' := by
    intro vv w' ω' β' hr hv
    rw [← h1]
    exact hK _ w' ω' β' (hr.putD h2 hv)
  have fin0 : ∀ vv w' ω' β', Rel C.gl N w0 ω0 S E (updL L q.2) a w' ω' β' → RV w' ω' β' (updL L q.2) q.1 vv → vo.own = [] → K (a.put o.dst vv) w' := by
    intro vv w' ω' β' hr hv hown
    unfold ownV at ho
    rw [hown] at ho
    simp only [Option.some.injEq] at ho
    subst ho
    exact fin vv w' ω' β' hr hv
  obtain ⟨q1, q2⟩ := q
  simp only [Bool.or_eq_true, List.isEmpty_iff] at h4
  cases hop : vo.op with
  | call f args own =>
    rw [hop] at h5 h h4
    have hown : vo.own = [] := by simpa [ownFits] using h4
    exact call_ok hC r h5 h fun vv w' ω' β' hr hv => fin0 vv w' ω' β' hr hv hown
  | _ =>
    rw [hop] at h5 h h4
    rcases h4 with hown | hown
    · exact (op_ok r h5 h).wp fun vv w' ω' β' hr hv => fin0 vv w' ω' β' hr hv hown
    · simp only [Bool.and_eq_true] at hown
      have hq := exec_mv_build hown.1 h
      simp only at hq
      subst hq
      exact ((op_ok r h5 h).own (pos_of hown.2) ho).wp fin

/-- One operation of a region, in whatever order it comes. -/
theorem oper_ok (hC : OracleOk P C) (r : Rel C.gl N w0 ω0 S E L a w ω β) {ops : Array Oper} {vo : VOper} (hm : mOper P N ops o vo = true) {v : V} {u : Upd} (h : runO C vo E L = some (v, u))
    {K : Act → World → Prop} {Q : Exit → Act → World → Prop} (hK : ∀ a' w' ω' β', Rel C.gl N w0 ω0 S (updD E vo.dst v) (updL L u) a' w' ω' β' → K a' w') :
    if Region.wanted o (yielded ops a.tmps) then o.wp P a w K Q ∨ (o.asks P a w ∧ LetsOut Q) else K (a.put o.dst undef) w := by
  have hm0 := hm
  unfold mOper at hm
  simp only [Bool.and_eq_true, beq_iff_eq] at hm
  obtain ⟨⟨⟨⟨h1, h2⟩, h3⟩, _⟩, _⟩ := hm
  unfold runO at h
  cases hg : vo.guard with
  | none =>
    have hog : o.guard = none := by
      cases ho : o.guard with
      | none => rfl
      | some _ => rw [ho, hg] at h3; simp [mGuard] at h3
    rw [if_pos (by simp [Region.wanted, hog])]
    rw [hg] at h
    simp only at h
    split at h
    · cases h
    · rename_i q hq
      exact .inl (body_ok hC r hm0 hq h hK)
  | some g =>
    obtain ⟨t, want⟩ := g
    obtain ⟨j, hog, hj⟩ : ∃ j, o.guard = some (j, want) ∧ (ops[j]?).bind (·.dst) = some t := by
      cases ho : o.guard with
      | none => rw [ho, hg] at h3; simp [mGuard] at h3
      | some q =>
        obtain ⟨j, w'⟩ := q
        rw [ho, hg] at h3
        simp only [mGuard, Bool.and_eq_true, beq_iff_eq] at h3
        obtain ⟨rfl, h3⟩ := h3
        split at h3
        · rename_i t' ht'
          have : t' = t := by simpa using h3
          subst this
          exact ⟨j, rfl, ht'⟩
        · cases h3
    rw [hg] at h
    simp only at h
    have hy : ∀ x, E t = some x → ∃ y, a.tmps[t]? = some y ∧ RV w ω β L x y := by
      intro x hx
      obtain ⟨e1, e2⟩ := r.env t x hx
      have hlt : t < a.tmps.size := by rw [r.size]; exact e1
      refine ⟨a.tmps[t], by simp [hlt], ?_⟩
      simpa [hlt] using e2
    have skip : yielded ops a.tmps j ≠ some want → v = .sc .sk ∧ u = [] → if Region.wanted o (yielded ops a.tmps) then o.wp P a w K Q ∨ (o.asks P a w ∧ LetsOut Q) else K (a.put o.dst undef) w := by
      intro hne hv
      obtain ⟨rfl, rfl⟩ := hv
      rw [if_neg (by simp only [Region.wanted, hog]; simpa using hne)]
      rw [← h1]
      exact hK _ w ω β (r.putD h2 (by simp [RV, RV1, RW]))
    split at h
    · rename_i b hb
      obtain ⟨y, hy1, hy2⟩ := hy _ hb
      simp only [RV, RV1, RW, RD] at hy2
      have hyl : yielded ops a.tmps j = some b := by simp [yielded, hj, hy1, hy2]
      cases hw : (b == want) with
      | true =>
        rw [hw] at h
        simp only [cond_true] at h
        have : b = want := by simpa using hw
        subst this
        rw [if_pos (by simp [Region.wanted, hog, hyl])]
        split at h
        · cases h
        · rename_i q hq
          exact .inl (body_ok hC r hm0 hq h hK)
      | false =>
        rw [hw] at h
        simp only [cond_false, Option.some.injEq, Prod.mk.injEq] at h
        have hne : b ≠ want := by simpa using hw
        exact skip (by rw [hyl]; simpa using hne) ⟨h.1.symm, h.2.symm⟩
    · rename_i hb
      obtain ⟨y, hy1, hy2⟩ := hy _ hb
      simp only [RV, RV1, RW] at hy2
      have hyl : yielded ops a.tmps j = none := by simp [yielded, hj, hy1, hy2, undef]
      simp only [Option.some.injEq, Prod.mk.injEq] at h
      exact skip (by rw [hyl]; simp) ⟨h.1.symm, h.2.symm⟩
    · cases h

end
end Go.Vs
