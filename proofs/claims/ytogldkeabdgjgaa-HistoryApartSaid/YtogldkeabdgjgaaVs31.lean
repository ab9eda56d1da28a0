/- The value semantics, 31: loops by what holds ahead of each round. -/
import Derived.Test.YtogldkeabdgjgaaVs30
namespace Go.Vs
open Go

/-- A loop of at most m rounds: ahead of round i, I i holds; a round goes on, or ends the loop with R. -/
theorem iter_inv {f : St → Option (Ex × St)} (I : Nat → St → Prop) {R : Ex × St → Prop} {m : Nat}
    (step : ∀ i s, i ≤ m → I i s → (∃ s', f s = some (.normal, s') ∧ i < m ∧ I (i + 1) s') ∨ ∃ e s', f s = some (e, s') ∧ e ≠ .normal ∧ R (e, s')) :
    ∀ n i s, i ≤ m → m - i < n → I i s → ∃ e s', iter f n s = some (e, s') ∧ R (e, s') := by
  intro n
  induction n with
  | zero => intro i s _ h _; omega
  | succ n ih =>
    intro i s hi hn h
    rcases step i s hi h with ⟨s', h1, h2, h3⟩ | ⟨e, s', h1, h2, h3⟩
    · obtain ⟨e, s2, h4, h5⟩ := ih (i + 1) s' h2 (by omega) h3
      exact ⟨e, s2, by simp only [iter, h1]; exact h4, h5⟩
    · refine ⟨e, s', ?_, h3⟩
      simp only [iter, h1]
      cases e with
      | normal => exact absurd rfl h2
      | exit id => rfl
      | ret => rfl

/-- What refers to no object is not touched where objects are forgotten. -/
theorem scrub_get {ks : List Nat} {s : St} {t : Nat} {v : V} (h : get? s.env t = some v) (hv : v.ren (dropR ks) = v) : get? (s.scrub ks).env t = some v := by
  unfold St.scrub
  cases s.objs.any (fun x => x.2.isSome && ks.contains x.1) with
  | false => exact h
  | true =>
    simp only [cond_true]
    rw [get?_map (V.ren (dropR ks)), h, Option.map_some, hv]

theorem scrub_look {ks : List Nat} {s : St} {k : Nat} (h : look s.objs k = none) : look (s.scrub ks).objs k = none := by
  unfold St.scrub
  cases s.objs.any (fun x => x.2.isSome && ks.contains x.1) with
  | false => exact h
  | true =>
    simp only [cond_true]
    rw [look_scrub, h]
    cases ks.contains k <;> rfl

theorem get?_mem2 {α : Type} : ∀ {l : List (Nat × α)} {k : Nat} {x : α}, get? l k = some x → (k, x) ∈ l
  | [], _, _, h => by cases h
  | (j, y) :: r, k, x, h => by
    simp only [get?] at h
    cases hj : (j == k) with
    | true =>
      rw [hj] at h
      cases h
      have : j = k := by simpa using hj
      simp [this]
    | false =>
      rw [hj] at h
      exact List.mem_cons_of_mem _ (get?_mem2 h)

theorem scrub_drop {ks : List Nat} {s : St} {k : Nat} (hk : k ∈ ks) : look (s.scrub ks).objs k = none := by
  have hc : ks.contains k = true := by simpa using hk
  unfold St.scrub
  cases ha : s.objs.any (fun x => x.2.isSome && ks.contains x.1) with
  | true =>
    simp only [cond_true]
    rw [look_scrub, hc]
    rfl
  | false =>
    simp only [cond_false]
    cases hl : look s.objs k with
    | none => rfl
    | some o =>
      unfold look at hl
      cases hg : get? s.objs k with
      | none => rw [hg] at hl; cases hl
      | some x =>
        rw [hg] at hl
        cases x with
        | none => cases hl
        | some x =>
          have := List.any_eq_false.1 ha _ (get?_mem2 hg)
          simp [hk] at this

end Go.Vs
