/- The value semantics, 23: operations that do not touch each other may come in either order. -/
import Derived.Test.YtogldkeabdgjgaaVs22
namespace Go.Vs
open Go

def recOf (C : Ctx) (E : Nat → Option V) (o : VOper) (u : Upd) : Rec := ⟨(recO C E o u).1, (recO C E o u).2, u.map (·.1)⟩

/-- Operations one after the other, each with what it looks at. -/
def Runs (C : Ctx) : List (VOper × Rec) → (Nat → Option V) → (Nat → Option Obj) → (Nat → Option V) → (Nat → Option Obj) → Prop
  | [], E, L, E', L' => E = E' ∧ L = L'
  | x :: os, E, L, E', L' => ∃ v u, runO C x.1 E L = some (v, u) ∧ x.2 = recOf C E x.1 u ∧ Runs C os (updD E x.1.dst v) (updL L u) E' L'

def sApart (x y : VOper) : Bool :=
  (match x.dst with | some d => !(y.tmps.contains d) && !(y.dst == some d) | none => true) &&
  (match y.dst with | some d => !(x.tmps.contains d) | none => true)

section
variable {C : Ctx} {E E' : Nat → Option V} {L L' : Nat → Option Obj}

theorem updL_notin : ∀ {u : Upd} {L : Nat → Option Obj} {k : Nat}, k ∉ u.map (·.1) → updL L u k = L k
  | [], _, _, _ => rfl
  | (j, x) :: u, L, k, h => by
    simp only [List.map_cons, List.mem_cons, not_or] at h
    simp only [updL]
    rw [updL_notin h.2, updO_ne h.1]

theorem updL_in : ∀ {u : Upd} {L M : Nat → Option Obj} {k : Nat}, k ∈ u.map (·.1) → updL L u k = updL M u k
  | [], _, _, _, h => by simp at h
  | (j, x) :: u, L, M, k, h => by
    simp only [updL]
    by_cases hk : k ∈ u.map (·.1)
    · exact updL_in hk
    · simp only [List.map_cons, List.mem_cons] at h
      have : k = j := h.resolve_right hk
      subst this
      rw [updL_notin hk, updL_notin hk, updO_same, updO_same]

theorem updL_comm {u u' : Upd} (h : ∀ k ∈ u.map (·.1), k ∉ u'.map (·.1)) : updL (updL L u) u' = updL (updL L u') u := by
  funext k
  by_cases h1 : k ∈ u.map (·.1)
  · rw [updL_notin (h k h1)]
    exact updL_in h1
  · rw [updL_notin (u := u) h1]
    by_cases h2 : k ∈ u'.map (·.1)
    · exact updL_in h2
    · rw [updL_notin h2, updL_notin h2, updL_notin h1]

theorem updD_ne {d : Option Nat} {v : V} {t : Nat} (h : d ≠ some t) : updD E d v t = E t := by
  cases d with
  | none => rfl
  | some d => simp only [updD, updE]; rw [if_neg]; intro e; exact h (by rw [e])

theorem updD_comm {d d' : Option Nat} {v v' : V} (h : ∀ t, d = some t → d' ≠ some t) : updD (updD E d v) d' v' = updD (updD E d' v') d v := by
  cases d with
  | none => rfl
  | some d => cases d' with
    | none => rfl
    | some d' =>
      have hne : d' ≠ d := fun e => h d rfl (by rw [e])
      funext t
      simp only [updD, updE]
      by_cases h1 : t = d'
      · have h2 : t ≠ d := fun e => hne (h1.symm.trans e)
        simp [h1, hne]
      · simp [h1]

theorem sApart_spec {x y : VOper} (h : sApart x y = true) : (∀ t ∈ y.tmps, x.dst ≠ some t) ∧ (∀ t ∈ x.tmps, y.dst ≠ some t) ∧ ∀ t, x.dst = some t → y.dst ≠ some t := by
  unfold sApart at h
  simp only [Bool.and_eq_true] at h
  refine ⟨fun t ht e => ?_, fun t ht e => ?_, fun t e => ?_⟩
  · rw [e] at h; simp [ht] at h
  · rw [e] at h; simp [ht] at h
  · rw [e] at h
    have h1 := h.1
    simp only [Bool.and_eq_true, Bool.not_eq_true', beq_eq_false_iff_ne] at h1
    exact h1.2

theorem apart_spec {a b : List Nat} (h : apart a b = true) : ∀ k ∈ a, k ∉ b := by
  intro k hk
  have := List.all_eq_true.1 h k hk
  simpa using this

theorem indep_spec {a b : Rec} (h : indep a b = true) : (a.all = false ∧ a.reads = [] ∧ a.keys = []) ∨ (b.all = false ∧ b.reads = [] ∧ b.keys = []) ∨
    (a.all = false ∧ b.all = false ∧ (∀ k ∈ a.reads, k ∉ b.keys) ∧ (∀ k ∈ b.reads, k ∉ a.keys) ∧ ∀ k ∈ a.keys, k ∉ b.keys) := by
  unfold indep Rec.touch at h
  simp only [Bool.or_eq_true, Bool.and_eq_true, Bool.not_eq_true', Bool.or_eq_false_iff, Bool.not_eq_false', List.isEmpty_iff] at h
  rcases h with (h | h) | h
  · exact .inl ⟨h.1.1, h.1.2, h.2⟩
  · exact .inr (.inl ⟨h.1.1, h.1.2, h.2⟩)
  · exact .inr (.inr ⟨h.1.1.1.1, h.1.1.1.2, apart_spec h.1.1.2, apart_spec h.1.2, apart_spec h.2⟩)

theorem Runs.swap {x y : VOper × Rec} {r : List (VOper × Rec)} (hs : sApart x.1 y.1 = true) (hi : indep x.2 y.2 = true) (h : Runs C (x :: y :: r) E L E' L') : Runs C (y :: x :: r) E L E' L' := by
  obtain ⟨x, rx⟩ := x
  obtain ⟨y, ry⟩ := y
  obtain ⟨v1, u1, h1, h2, v2, u2, h3, h4, h5⟩ := h
  simp only at hs hi h1 h2 h3 h4 h5
  obtain ⟨s1, s2, s3⟩ := sApart_spec hs
  have e1 : ∀ t ∈ y.tmps, updD E x.dst v1 t = E t := fun t ht => updD_ne (s1 t ht)
  have e2 : ∀ t ∈ x.tmps, E t = updD E y.dst v2 t := fun t ht => (updD_ne (s2 t ht)).symm
  have q1 : recO C (updD E x.dst v1) y u2 = recO C E y u2 := recO_E e1
  have q2 : recO C E x u1 = recO C (updD E y.dst v2) x u1 := recO_E e2
  rw [runO_E e1] at h3
  unfold recOf at h2 h4
  rw [q1] at h4
  have keysNil : ∀ {u : Upd}, u.map (·.1) = [] → u = [] := fun h => List.map_eq_nil_iff.1 h
  have d := indep_spec hi
  rw [h2, h4] at d
  simp only at d
  have g1 : runO C y E L = some (v2, u2) := by
    rcases d with ⟨_, _, d⟩ | ⟨d1, d2, _⟩ | ⟨_, d1, _, d2, _⟩
    · have := keysNil d; subst this; exact h3
    · exact runO_L h3 d1 (fun k hk => by rw [d2] at hk; simp at hk)
    · exact runO_L h3 d1 fun k hk => updL_notin (d2 k hk)
  have g2 : runO C x E (updL L u2) = some (v1, u1) := by
    rcases d with ⟨d1, d2, _⟩ | ⟨_, _, d⟩ | ⟨d1, _, d2, _, _⟩
    · exact runO_L h1 d1 (fun k hk => by rw [d2] at hk; simp at hk)
    · have := keysNil d; subst this; exact h1
    · exact runO_L h1 d1 fun k hk => (updL_notin (d2 k hk)).symm
  have g3 : updL (updL L u1) u2 = updL (updL L u2) u1 := by
    rcases d with ⟨_, _, d⟩ | ⟨_, _, d⟩ | ⟨_, _, _, _, d⟩
    · have := keysNil d; subst this; rfl
    · have := keysNil d; subst this; rfl
    · exact updL_comm d
  refine ⟨v2, u2, g1, h4, v1, u1, ?_, ?_, ?_⟩
  · rw [← runO_E e2]; exact g2
  · simp only [recOf, ← q2]; exact h2
  · rw [← g3, ← updD_comm s3]; exact h5

theorem Runs.front : ∀ {pre : List (VOper × Rec)} {y : VOper × Rec} {post : List (VOper × Rec)} {E : Nat → Option V} {L : Nat → Option Obj}, (∀ x ∈ pre, sApart x.1 y.1 = true ∧ indep x.2 y.2 = true) →
    Runs C (pre ++ y :: post) E L E' L' → Runs C (y :: (pre ++ post)) E L E' L'
  | [], _, _, _, _, _, h => h
  | x :: pre, y, post, E, L, hp, h => by
    obtain ⟨v, u, h1, h2, h3⟩ := h
    have h4 : Runs C (x :: y :: (pre ++ post)) E L E' L' := ⟨v, u, h1, h2, Runs.front (fun z hz => hp z (by simp [hz])) h3⟩
    exact Runs.swap (hp x (by simp)).1 (hp x (by simp)).2 h4

/-- A plain operation touches no object. -/
theorem plain_rec {o : VOper} (hp : (plainOp o.op && o.own.isEmpty) = true) {v : V} {u : Upd} (h : runO C o E L = some (v, u)) : (recOf C E o u).touch = false := by
  simp only [Bool.and_eq_true, List.isEmpty_iff] at hp
  obtain ⟨h1, h2⟩ := hp
  have hu : u = [] := by
    have key : ∀ q, exec1 C E L o.oid o.op = some q → q.2 = [] := by
      intro q hq
      cases hop : o.op <;> rw [hop] at h1 hq <;> simp only [plainOp, Bool.false_eq_true] at h1 <;> simp only [exec1] at hq
      all_goals
        first
        | (cases hq; rfl)
        | (repeat' split at hq) <;> first | (cases hq; done) | (cases hq; rfl) | (obtain ⟨_, _, rfl⟩ := Option.map_eq_some_iff.1 hq; rfl) | (rename_i x _ _; cases hx : notUn x <;> rw [hx] at hq <;> cases hq; rfl)
    unfold runO at h
    rw [h2] at h
    simp only [ownV] at h
    split at h
    · split at h
      · cases h
      · rename_i q hq
        cases h
        exact key _ hq
    · split at h
      · rename_i b _
        cases hb : (b == _) with
        | false => rw [hb] at h; cases h; rfl
        | true =>
          rw [hb] at h
          simp only [cond_true] at h
          split at h
          · cases h
          · rename_i q hq
            cases h
            exact key _ hq
      · cases h; rfl
      · cases h
  subst hu
  have hr : recO C E o [] = (false, []) := by
    unfold recO
    rw [h2]
    simp only
    cases hop : o.op <;> rw [hop] at h1 <;> simp only [plainOp, Bool.false_eq_true] at h1 <;> rfl
  simp [recOf, Rec.touch, hr]

end
end Go.Vs
