/- Equal up to the names that are bound, by the reference, walked. (Parts of one proof, put together.) -/
import Derived.Test.YtlcncicmkkelcaaGreatDoorRE
import Derived.Test.YtlcncicmkkelcaaGreatDoorRI
set_option linter.unusedSimpArgs false
set_option linter.unusedVariables false
set_option linter.deprecated false

/- Equal up to the names that are bound, by the reference, walked. -/
namespace Go.Vs.Tryz
open Go Go.Vs
variable {A : Oracle}

def tyBd (e : Exp) : Prop := e.fold fun e l => e.ty.size ≤ 1073741824 ∧ ∀ p ∈ l, p
theorem tyBd_eq (e : Exp) : tyBd e = (e.ty.size ≤ 1073741824 ∧ ∀ x ∈ e.children, tyBd x) := by
  have := Exp.fold_eq (fun e (l : List Prop) => e.ty.size ≤ 1073741824 ∧ ∀ p ∈ l, p) e
  unfold tyBd
  rw [this]
  simp only [List.forall_mem_map]
theorem tyBd.one {e : Exp} (h : tyBd e) : e.ty.size ≤ 1073741824 := by rw [tyBd_eq] at h; exact h.1
theorem tyBd.child {e x : Exp} (h : tyBd e) (hx : x ∈ e.children) : tyBd x := by rw [tyBd_eq] at h; exact h.2 x hx

set_option maxRecDepth 10000 in
set_option maxHeartbeats 16000000 in
theorem alpha66 (a : Exp) : ∀ (b : Exp) (l r : List Str), a.wf → b.wf → tyBd a → l.length + a.weight ≤ 1073741824 → r.length + b.weight ≤ 1073741824 →
    ∃ x, IffB (alphaP a b l r) x ∧ (K A).call 66 [expV a, expV b, strsV l, strsV r] [] = some x := by
  induction a using Exp.ind with
  | h a ih =>
  intro b l r hw hv ht hl hr
  rw [alphaP_eq]
  refine fn_ofE _ (vf := v66) (by kernel_rfl) rfl (by simp) ?_
  have hal := a.children_le
  have hbl := b.children_le
  rw [Exp.children_len] at hal hbl
  by_cases h1 : a.kind = b.kind
  case neg =>
    unfold v66
    simp (maxSteps := 4000000) (disch := first | omega | (simp; done) | (simp; omega)) [h1, -getElem?_pos]
    exact IffB.no fun h => h1 h.1.1
  by_cases h2 : a.num = b.num
  case neg =>
    unfold v66
    simp (maxSteps := 4000000) (disch := first | omega | (simp; done) | (simp; omega)) [h1, h2, -getElem?_pos]
    exact IffB.no fun h => h2 h.1.2.1
  obtain ⟨_, ⟨t, h3, rfl⟩, hc3⟩ := teq85 (A := A) 1073741824 a.ty b.ty ht.one (by omega)
  cases t with
  | false =>
    unfold v66
    simp (maxSteps := 4000000) (disch := first | omega | (simp; done) | (simp; omega)) [h1, h2, hc3, -getElem?_pos]
    exact IffB.no fun h => by have := h3.2 h.1.2.2.1; cases this
  | true =>
  have h3' := h3.1 rfl
  by_cases h4 : a.kids.length = b.kids.length
  case neg =>
    have h4' : ¬ (a.kids.length : Int) = b.kids.length := by omega
    unfold v66
    simp (maxSteps := 4000000) (disch := first | omega | (simp; done) | (simp; omega)) [h1, h2, hc3, h4, h4', -getElem?_pos]
    exact IffB.no fun h => h4 h.1.2.2.2.1
  by_cases h5 : a.arms.length = b.arms.length
  case neg =>
    have h5' : ¬ (a.arms.length : Int) = b.arms.length := by omega
    unfold v66
    simp (maxSteps := 4000000) (disch := first | omega | (simp; done) | (simp; omega)) [h1, h2, hc3, h4, h5, h5', -getElem?_pos]
    exact IffB.no fun h => h5 h.1.2.2.2.2
  have hhead : headEq a b := ⟨h1, h2, h3', h4, h5⟩
  by_cases k1 : b.kind = 1
  · have p1 := place125 (A := A) l a.name (by omega)
    have p2 := place125 (A := A) r b.name (by omega)
    have hfin : ∀ v : Bool, (v = true ↔ varEq l r a.name b.name) → IffB (headEq a b ∧ (a.kind = 1 → varEq l r a.name b.name) ∧ (a.kind = 2 → a.name = b.name) ∧
        (a.kind ≠ 1 → a.kind ≠ 2 → armsEq a b ∧ ∀ (i : Nat) x y, a.children[i]? = some x → b.children[i]? = some y → alphaP x y (l ++ a.bound i) (r ++ b.bound i))) (boolV v, []) := fun v hv =>
      ⟨v, hv.trans ⟨fun h => ⟨hhead, fun _ => h, fun h2 => by omega, fun h2 => absurd (h1.trans k1) h2⟩, fun h => h.2.1 (h1.trans k1)⟩, rfl⟩
    generalize (headEq a b ∧ (a.kind = 1 → varEq l r a.name b.name) ∧ (a.kind = 2 → a.name = b.name) ∧
        (a.kind ≠ 1 → a.kind ≠ 2 → armsEq a b ∧ ∀ (i : Nat) x y, a.children[i]? = some x → b.children[i]? = some y → alphaP x y (l ++ a.bound i) (r ++ b.bound i))) = P at hfin ⊢
    unfold varEq at hfin
    unfold v66
    by_cases q1 : rlast l a.name = rlast r b.name
    · by_cases q2 : 0 ≤ rlast r b.name
      · simp (maxSteps := 4000000) (disch := first | omega | (simp; done) | (simp; omega)) [h1, h2, hc3, h4, h5, k1, p1, p2, q1, q2, -getElem?_pos]
        exact hfin true (by simp [q1, q2])
      · by_cases q3 : a.name = b.name
        · rw [q3] at p1 q1 hfin
          simp (maxSteps := 4000000) (disch := first | omega | (simp; done) | (simp; omega)) [h1, h2, hc3, h4, h5, k1, p1, p2, q1, q2, q3, -getElem?_pos]
          exact hfin true (by simp [q1])
        · simp (maxSteps := 4000000) (disch := first | omega | (simp; done) | (simp; omega)) [h1, h2, hc3, h4, h5, k1, p1, p2, q1, q2, q3, -getElem?_pos]
          exact hfin false (by simp [q1, q2, q3])
    · simp (maxSteps := 4000000) (disch := first | omega | (simp; done) | (simp; omega)) [h1, h2, hc3, h4, h5, k1, p1, p2, q1, -getElem?_pos]
      exact hfin false (by simp [q1])
  by_cases k2 : b.kind = 2
  · have hfin : ∀ v : Bool, (v = true ↔ a.name = b.name) → IffB (headEq a b ∧ (a.kind = 1 → varEq l r a.name b.name) ∧ (a.kind = 2 → a.name = b.name) ∧
        (a.kind ≠ 1 → a.kind ≠ 2 → armsEq a b ∧ ∀ (i : Nat) x y, a.children[i]? = some x → b.children[i]? = some y → alphaP x y (l ++ a.bound i) (r ++ b.bound i))) (boolV v, []) := fun v hv =>
      ⟨v, hv.trans ⟨fun h => ⟨hhead, fun h2 => by omega, fun _ => h, fun _ h2 => absurd (h1.trans k2) h2⟩, fun h => h.2.2.1 (h1.trans k2)⟩, rfl⟩
    generalize (headEq a b ∧ (a.kind = 1 → varEq l r a.name b.name) ∧ (a.kind = 2 → a.name = b.name) ∧
        (a.kind ≠ 1 → a.kind ≠ 2 → armsEq a b ∧ ∀ (i : Nat) x y, a.children[i]? = some x → b.children[i]? = some y → alphaP x y (l ++ a.bound i) (r ++ b.bound i))) = P at hfin ⊢
    unfold v66
    by_cases q3 : a.name = b.name
    · simp (maxSteps := 4000000) (disch := first | omega | (simp; done) | (simp; omega)) [h1, h2, hc3, h4, h5, k1, k2, q3, -getElem?_pos]
      exact hfin true (by simp [q3])
    · simp (maxSteps := 4000000) (disch := first | omega | (simp; done) | (simp; omega)) [h1, h2, hc3, h4, h5, k1, k2, q3, -getElem?_pos]
      exact hfin false (by simp [q3])
  have hfin : ∀ v : Bool, (v = true ↔ armsEq a b ∧ ∀ (i : Nat) x y, a.children[i]? = some x → b.children[i]? = some y → alphaP x y (l ++ a.bound i) (r ++ b.bound i)) → IffB (headEq a b ∧ (a.kind = 1 → varEq l r a.name b.name) ∧ (a.kind = 2 → a.name = b.name) ∧
      (a.kind ≠ 1 → a.kind ≠ 2 → armsEq a b ∧ ∀ (i : Nat) x y, a.children[i]? = some x → b.children[i]? = some y → alphaP x y (l ++ a.bound i) (r ++ b.bound i))) (boolV v, []) := fun v hv =>
    ⟨v, hv.trans ⟨fun h => ⟨hhead, fun h2 => by omega, fun h2 => by omega, fun _ _ => h⟩, fun h => h.2.2.2 (by omega) (by omega)⟩, rfl⟩
  generalize (headEq a b ∧ (a.kind = 1 → varEq l r a.name b.name) ∧ (a.kind = 2 → a.name = b.name) ∧
      (a.kind ≠ 1 → a.kind ≠ 2 → armsEq a b ∧ ∀ (i : Nat) x y, a.children[i]? = some x → b.children[i]? = some y → alphaP x y (l ++ a.bound i) (r ++ b.bound i))) = P at hfin ⊢
  have c1 := children50 (A := A) a (by omega)
  have c2 := children50 (A := A) b (by omega)
  unfold v66
  simp (maxSteps := 4000000) (disch := first | omega | (simp; done) | (simp; omega)) [h1, h2, hc3, h4, h5, k1, k2, -getElem?_pos]
  refine wp_loopI (fun i s => (∀ (j : Nat) p q, j < i → a.arms[j]? = some p → b.arms[j]? = some q → p.1.con = q.1.con ∧ p.1.vars.length = q.1.vars.length) ∧
      s = ⟨[(2, strsV l), (3, strsV r), (4, .sc (.ptr 64 0)), (5, .sc (.ptr 128 0)), (11, intV i)], [(64, some (.box (wc a.row))), (128, some (.box (wc b.row)))]⟩) b.arms.length ⟨by omega, by simp⟩ ?_ ?_
  · rintro i s hi ⟨hs, rfl⟩
    obtain ⟨p, hp⟩ := get_of_lt (l := a.arms) (i := i) (by omega)
    obtain ⟨q, hq⟩ := get_of_lt (l := b.arms) (i := i) (by omega)
    have hi2 : (i : Int) < a.arms.length := by omega
    unfold l66_0
    by_cases q1 : p.1.con = q.1.con
    · by_cases q2 : p.1.vars.length = q.1.vars.length
      · simp (maxSteps := 4000000) (disch := first | omega | (simp; done) | (simp; omega)) [hi, hi2, hp, hq, q1, q2, -getElem?_pos]
        intro j pa pe qa qe hj hp' hq'
        by_cases hji : j = i
        · subst hji
          rw [hp] at hp'
          rw [hq] at hq'
          cases hp'
          cases hq'
          exact ⟨q1, q2⟩
        · exact hs j _ _ (by omega) hp' hq'
      · have q2' : ¬ (p.1.vars.length : Int) = q.1.vars.length := by omega
        simp (maxSteps := 4000000) (disch := first | omega | (simp; done) | (simp; omega)) [hi, hi2, hp, hq, q1, q2, q2', -getElem?_pos]
        exact hfin false (by simp; intro h; exact absurd (h i p q hp hq).2 q2)
    · simp (maxSteps := 4000000) (disch := first | omega | (simp; done) | (simp; omega)) [hi, hi2, hp, hq, q1, -getElem?_pos]
      exact hfin false (by simp; intro h; exact absurd (h i p q hp hq).1 q1)
  · rintro s ⟨hs, rfl⟩
    have harms : armsEq a b := fun i p q hp hq => hs i p q (by have := (List.getElem?_eq_some_iff.1 hq).1; exact this) hp hq
    unfold l66_0
    simp (maxSteps := 4000000) (disch := first | omega | (simp; done) | (simp; omega)) [h4, h5, c1, c2, -getElem?_pos]
    have hbn : b.children.length = b.kids.length + b.arms.length := b.children_len
    have han : a.children.length = b.kids.length + b.arms.length := by rw [a.children_len]; omega
    refine wp_loopI (fun i s => (∀ (j : Nat) x y, j < i → a.children[j]? = some x → b.children[j]? = some y → alphaP x y (l ++ a.bound j) (r ++ b.bound j)) ∧
        s = ⟨[(2, strsV l), (3, strsV r), (4, .sc (.ptr 64 0)), (5, .sc (.ptr 128 0)), (12, .sc (.arr 7776 (b.kids.length + b.arms.length))), (13, .sc (.arr 7904 (b.kids.length + b.arms.length))), (14, intV i)],
          [(64, some (.box (wc a.row))), (128, some (.box (wc b.row))), (7776, some (.arr 11 (wr (Exp.rows a.children)) 0)), (7904, some (.arr 11 (wr (Exp.rows b.children)) 0))]⟩) (b.kids.length + b.arms.length) ⟨by omega, by simp⟩ ?_ ?_
    · rintro i s hi ⟨hs2, rfl⟩
      obtain ⟨x, hx⟩ := get_of_lt (l := a.children) (i := i) (by omega)
      obtain ⟨y, hy⟩ := get_of_lt (l := b.children) (i := i) (by omega)
      have hi2 : (i : Int) < (b.kids.length : Int) + b.arms.length := by omega
      have mx := List.mem_of_getElem? hx
      have my := List.mem_of_getElem? hy
      have bx := bound_child hx
      have bY := bound_child hy
      have w1 := bound91 (A := A) a i hw.one (by omega) (by omega)
      have w2 := bound91 (A := A) b i hv.one (by omega) (by omega)
      obtain ⟨_, ⟨v, hval, rfl⟩, hc⟩ := ih x mx y (l ++ a.bound i) (r ++ b.bound i) (hw.child mx) (hv.child my) (ht.child mx) (by simp; omega) (by simp; omega)
      have hneg := fun (h : alphaP x y (l ++ a.bound i) (r ++ b.bound i) → False) => hfin false (by simp; intro _; exact ⟨i, x, hx, y, hy, h⟩)
      have hstep : alphaP x y (l ++ a.bound i) (r ++ b.bound i) → ∀ (j : Nat) x' y', j < i + 1 → a.children[j]? = some x' → b.children[j]? = some y' → alphaP x' y' (l ++ a.bound j) (r ++ b.bound j) := by
        intro hxy j x' y' hj hx' hy'
        by_cases hji : j = i
        · subst hji
          rw [hx] at hx'
          rw [hy] at hy'
          cases hx'
          cases hy'
          exact hxy
        · exact hs2 j x' y' (by omega) hx' hy'
      generalize a.bound i = ab at w1 hc hval hneg hstep bx
      generalize b.bound i = bb at w2 hc hval hneg hstep bY
      unfold l66_1
      cases v with
      | true =>
        have hxy := hval.1 rfl
        simp (maxSteps := 4000000) (disch := first | omega | (simp; done) | (simp; omega)) [hi2, hx, hy, w1, w2, hc, han, hbn, -getElem?_pos]
        exact hstep hxy
      | false =>
        simp (maxSteps := 4000000) (disch := first | omega | (simp; done) | (simp; omega)) [hi2, hx, hy, w1, w2, hc, han, hbn, -getElem?_pos]
        exact hneg fun h => by have := hval.2 h; cases this
    · rintro s ⟨hs2, rfl⟩
      have hall : ∀ (j : Nat) x y, a.children[j]? = some x → b.children[j]? = some y → alphaP x y (l ++ a.bound j) (r ++ b.bound j) := fun j x y hx hy => hs2 j x y (by have := (List.getElem?_eq_some_iff.1 hx).1; omega) hx hy
      unfold l66_1
      simp (maxSteps := 4000000) (disch := first | omega | (simp; done) | (simp; omega)) [han, hbn, -getElem?_pos]
      exact hfin true (by simp [harms]; exact hall)

theorem alpha18 (a b : Exp) (hw : a.wf) (hv : b.wf) (ht : tyBd a) (hl : a.weight ≤ 1073741824) (hr : b.weight ≤ 1073741824) :
    ∃ x, IffB (alphaP a b [] []) x ∧ (K A).call 18 [expV a, expV b] [] = some x := by
  refine fn_ofE _ (vf := v18) (by kernel_rfl) rfl (by simp) ?_
  obtain ⟨_, ⟨v, hval, rfl⟩, hc⟩ := alpha66 (A := A) a b [] [] hw hv ht (by simpa using hl) (by simpa using hr)
  simp [strsV] at hc
  unfold v18
  simp (maxSteps := 4000000) (disch := first | omega | (simp; done) | (simp; omega)) [hc, -getElem?_pos]
  exact ⟨v, hval, rfl⟩
end Go.Vs.Tryz
