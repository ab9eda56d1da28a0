/- When an expression arises from another, by the reference, walked. -/
import Derived.Test.YtchkkbbchpnabaaGreatDoorRBc
set_option linter.unusedSimpArgs false
set_option linter.unusedVariables false
set_option linter.deprecated false

/- When an expression arises from another, by the reference, walked. -/
namespace Go.Vs.Tryz
open Go Go.Vs
variable {A : Oracle}

theorem last33 (l : List Str) (s : Str) (h : l.length ≤ 687194767360) : (K A).call 54 [strsV l, strV s] [] = some (intV (rlast l s), []) := by
  refine fn_of (vf := v54) (by kernel_rfl) rfl (by simp) ?_
  unfold v54
  have hp := place_le l.reverse s
  rw [List.length_reverse] at hp
  simp (disch := first | omega | (simp; done) | (simp; omega))
  refine wp_loop (fun i => ⟨[(0, strsV l), (1, strV s), (5, intV ((l.length : Int) - 1 - i))], []⟩) (place l.reverse s) ?_ ?_ ?_
  · simp
  · intro i hi
    obtain ⟨x, hx, hne⟩ := place_lt hi
    have hlt : i < l.length := by omega
    rw [rev_get hlt] at hx
    have hc : (l.length : Int) - 1 - i = ((l.length - 1 - i : Nat) : Int) := by omega
    have hc2 : (l.length : Int) - 1 - (i + 1) = ((l.length - 1 - i : Nat) : Int) - 1 := by omega
    unfold l54_0
    simp (disch := first | omega | (simp; done) | (simp; omega)) [hc, hc2, hx, hne, -getElem?_pos]
  · unfold l54_0
    by_cases hm : place l.reverse s < l.length
    · have hx := place_at (l := l.reverse) (s := s) (by simpa using hm)
      have hmem : s ∈ l := by
        have := place_mem.1 (show place l.reverse s < l.reverse.length by simpa using hm)
        simpa using this
      rw [rev_get hm] at hx
      have hc : (l.length : Int) - 1 - (place l.reverse s : Nat) = ((l.length - 1 - place l.reverse s : Nat) : Int) := by omega
      simp (disch := first | omega | (simp; done) | (simp; omega)) [hc, hx, hmem, rlast, -getElem?_pos]
    · have hn : s ∉ l := fun h => hm (by have := place_mem.2 (List.mem_reverse.2 h); simpa using this)
      have hc : (l.length : Int) - 1 - (place l.reverse s : Nat) = -1 := by omega
      simp (disch := first | omega | (simp; done) | (simp; omega)) [hc, hn, rlast, -getElem?_pos]

set_option maxRecDepth 10000 in
set_option maxHeartbeats 16000000 in
theorem cov33 (a : Exp) : ∀ (b : Exp) (l r : List Str), shp a → shp b → tyBd a → l.length + a.weight ≤ 687194767360 → r.length + b.weight ≤ 687194767360 →
    ∃ x, IffB (covP true a b l r) x ∧ (K A).call 29 [expV a, expV b, strsV l, strsV r] [] = some x := by
  induction a using Exp.ind with
  | h a ih =>
  intro b l r hsa hsb ht hl hr
  have hw := hsa.wf
  have hv := hsb.wf
  refine fn_ofE _ (vf := v29) (by kernel_rfl) rfl (by simp) ?_
  by_cases k10 : a.kind = 10
  · have hy : IffB (covP true a b l r) (boolV true, []) := IffB.yes (by rw [covP_eq]; exact .inl ⟨rfl, k10⟩)
    generalize covP true a b l r = P at hy ⊢
    unfold v29
    simp (maxSteps := 4000000) (disch := first | omega | (simp; done) | (simp; omega)) [k10, -getElem?_pos]
    exact hy
  rw [covP_eq]
  simp only [k10, and_false, false_or]
  have hal := a.children_le
  have hbl := b.children_le
  rw [Exp.children_len] at hal hbl
  by_cases h1 : a.kind = b.kind
  case neg =>
    unfold v29
    simp (disch := first | omega | (simp; done) | (simp; omega)) [k10, h1]
    exact IffB.no fun h => h1 h.1.1
  have k10b : ¬ b.kind = 10 := fun h => k10 (h1.trans h)
  by_cases h2 : a.num = b.num
  case neg =>
    unfold v29
    simp (disch := first | omega | (simp; done) | (simp; omega)) [k10b, h1, h2]
    exact IffB.no fun h => h2 h.1.2.1
  obtain ⟨_, ⟨t, h3, rfl⟩, hc3⟩ := teq85 (A := A) 687194767360 a.ty b.ty ht.one (by omega)
  cases t with
  | false =>
    unfold v29
    simp (disch := first | omega | (simp; done) | (simp; omega)) [k10b, h1, h2, hc3]
    exact IffB.no fun h => by have := h3.2 h.1.2.2.1; cases this
  | true =>
  have h3' := h3.1 rfl
  by_cases h4 : a.kids.length = b.kids.length
  case neg =>
    have h4' : ¬ (a.kids.length : Int) = b.kids.length := by omega
    unfold v29
    simp (disch := first | omega | (simp; done) | (simp; omega)) [k10b, h1, h2, hc3, h4, h4']
    exact IffB.no fun h => h4 h.1.2.2.2.1
  by_cases h5 : a.arms.length = b.arms.length
  case neg =>
    have h5' : ¬ (a.arms.length : Int) = b.arms.length := by omega
    unfold v29
    simp (disch := first | omega | (simp; done) | (simp; omega)) [k10b, h1, h2, hc3, h4, h5, h5']
    exact IffB.no fun h => h5 h.1.2.2.2.2
  have hhead : headEq a b := ⟨h1, h2, h3', h4, h5⟩
  by_cases k1 : b.kind = 1
  · have p1 := last33 (A := A) l a.name (by omega)
    have p2 := last33 (A := A) r b.name (by omega)
    have hfin : ∀ v : Bool, (v = true ↔ varEq l r a.name b.name) → IffB (headEq a b ∧ (a.kind = 1 → varEq l r a.name b.name) ∧ (a.kind = 2 → a.name = b.name) ∧
        (a.kind ≠ 1 → a.kind ≠ 2 → armsEq a b ∧ ∀ (i : Nat) x y, a.children[i]? = some x → b.children[i]? = some y → covP true x y (l ++ a.bound i) (r ++ b.bound i))) (boolV v, []) := fun v hv =>
      ⟨v, hv.trans ⟨fun h => ⟨hhead, fun _ => h, fun h2 => by omega, fun h2 => absurd (h1.trans k1) h2⟩, fun h => h.2.1 (h1.trans k1)⟩, rfl⟩
    generalize (headEq a b ∧ (a.kind = 1 → varEq l r a.name b.name) ∧ (a.kind = 2 → a.name = b.name) ∧
        (a.kind ≠ 1 → a.kind ≠ 2 → armsEq a b ∧ ∀ (i : Nat) x y, a.children[i]? = some x → b.children[i]? = some y → covP true x y (l ++ a.bound i) (r ++ b.bound i))) = P at hfin ⊢
    unfold varEq at hfin
    unfold v29
    by_cases q1 : rlast l a.name = rlast r b.name
    · by_cases q2 : 0 ≤ rlast r b.name
      · simp (disch := first | omega | (simp; done) | (simp; omega)) [k10b, h1, h2, hc3, h4, h5, k1, p1, p2, q1, q2]
        exact hfin true (by simp [q1, q2])
      · by_cases q3 : a.name = b.name
        · rw [q3] at p1 q1 hfin
          simp (disch := first | omega | (simp; done) | (simp; omega)) [k10b, h1, h2, hc3, h4, h5, k1, p1, p2, q1, q2, q3]
          exact hfin true (by simp [q1])
        · simp (disch := first | omega | (simp; done) | (simp; omega)) [k10b, h1, h2, hc3, h4, h5, k1, p1, p2, q1, q2, q3]
          exact hfin false (by simp [q1, q2, q3])
    · simp (disch := first | omega | (simp; done) | (simp; omega)) [k10b, h1, h2, hc3, h4, h5, k1, p1, p2, q1]
      exact hfin false (by simp [q1])
  by_cases hn : a.kind = 2 → a.name = b.name
  case neg =>
    have k2 : a.kind = 2 := Classical.byContradiction fun h => hn fun h' => absurd h' h
    have q3 : ¬ a.name = b.name := fun h => hn fun _ => h
    have hno : IffB (headEq a b ∧ (a.kind = 1 → varEq l r a.name b.name) ∧ (a.kind = 2 → a.name = b.name) ∧
        (a.kind ≠ 1 → a.kind ≠ 2 → armsEq a b ∧ ∀ (i : Nat) x y, a.children[i]? = some x → b.children[i]? = some y → covP true x y (l ++ a.bound i) (r ++ b.bound i))) (boolV false, []) := IffB.no fun h => hn h.2.2.1
    generalize (headEq a b ∧ (a.kind = 1 → varEq l r a.name b.name) ∧ (a.kind = 2 → a.name = b.name) ∧
        (a.kind ≠ 1 → a.kind ≠ 2 → armsEq a b ∧ ∀ (i : Nat) x y, a.children[i]? = some x → b.children[i]? = some y → covP true x y (l ++ a.bound i) (r ++ b.bound i))) = P at hno ⊢
    rw [h1] at k2
    unfold v29
    simp (disch := first | omega | (simp; done) | (simp; omega)) [k10b, h1, h2, hc3, h4, h5, k1, k2, q3]
    exact hno
  have hfin : ∀ v : Bool, (v = true ↔ armsEq a b ∧ ∀ (i : Nat) x y, a.children[i]? = some x → b.children[i]? = some y → covP true x y (l ++ a.bound i) (r ++ b.bound i)) → IffB (headEq a b ∧ (a.kind = 1 → varEq l r a.name b.name) ∧ (a.kind = 2 → a.name = b.name) ∧
      (a.kind ≠ 1 → a.kind ≠ 2 → armsEq a b ∧ ∀ (i : Nat) x y, a.children[i]? = some x → b.children[i]? = some y → covP true x y (l ++ a.bound i) (r ++ b.bound i))) (boolV v, []) := fun v hv =>
    ⟨v, hv.trans ⟨fun h => ⟨hhead, fun h2 => by omega, hn, fun _ _ => h⟩, fun h => by
      by_cases k2 : a.kind = 2
      · have e1 : a.arms = [] := hsa.one.1.2.1 (by rw [k2]; decide)
        have e2 : a.kids = [] := List.length_eq_zero_iff.1 (by rw [hsa.one.2.2, k2]; rfl)
        exact ⟨fun i p q hp _ => by rw [e1] at hp; simp at hp, fun i x y hx _ => by rw [Exp.children, e1, e2] at hx; simp at hx⟩
      · exact h.2.2.2 (by omega) k2⟩, rfl⟩
  generalize (headEq a b ∧ (a.kind = 1 → varEq l r a.name b.name) ∧ (a.kind = 2 → a.name = b.name) ∧
      (a.kind ≠ 1 → a.kind ≠ 2 → armsEq a b ∧ ∀ (i : Nat) x y, a.children[i]? = some x → b.children[i]? = some y → covP true x y (l ++ a.bound i) (r ++ b.bound i))) = P at hfin ⊢
  have c1 := children50 (A := A) a (by omega)
  have c2 := children50 (A := A) b (by omega)
  unfold v29
  have hk2 : b.kind = 2 ∧ a.name = b.name ∨ ¬ b.kind = 2 := by
    by_cases h : b.kind = 2
    · exact .inl ⟨h, hn (h1.trans h)⟩
    · exact .inr h
  rcases hk2 with ⟨k2, q3⟩ | k2
  · simp (disch := first | omega | (simp; done) | (simp; omega)) [k10b, h1, h2, hc3, h4, h5, k1, k2, q3]
    refine wp_loopI (fun i s => (∀ (j : Nat) p q, j < i → a.arms[j]? = some p → b.arms[j]? = some q → p.1.con = q.1.con ∧ p.1.vars.length = q.1.vars.length) ∧
        s = ⟨[(2, strsV l), (3, strsV r), (4, .sc (.ptr 64 0)), (5, .sc (.ptr 128 0)), (11, intV i)], [(64, some (.box (wc a.row))), (128, some (.box (wc b.row)))]⟩) b.arms.length ⟨by omega, by simp⟩ ?_ ?_
    · rintro i s hi ⟨hs, rfl⟩
      obtain ⟨p, hp⟩ := get_of_lt (l := a.arms) (i := i) (by omega)
      obtain ⟨q, hq⟩ := get_of_lt (l := b.arms) (i := i) (by omega)
      have hi2 : (i : Int) < a.arms.length := by omega
      unfold l29_0
      by_cases q1 : p.1.con = q.1.con
      · by_cases q2 : p.1.vars.length = q.1.vars.length
        · simp (maxSteps := 4000000) (disch := first | omega | (simp; done) | (simp; omega)) [hi, hi2, hp, hq, q1, q2, -getElem?_pos]
          intro j pa pe qa qe hj hp' hq'
          by_cases hji : j = i
          · subst hji
            rw [hp] at hp'
            rw [hq] at hq'
            cases hp'
            cases hq'
            exact ⟨q1, q2⟩
          · exact hs j _ _ (by omega) hp' hq'
        · have q2' : ¬ (p.1.vars.length : Int) = q.1.vars.length := by omega
          simp (maxSteps := 4000000) (disch := first | omega | (simp; done) | (simp; omega)) [hi, hi2, hp, hq, q1, q2, q2', -getElem?_pos]
          exact hfin false (by simp; intro h; exact absurd (h i p q hp hq).2 q2)
      · simp (maxSteps := 4000000) (disch := first | omega | (simp; done) | (simp; omega)) [hi, hi2, hp, hq, q1, -getElem?_pos]
        exact hfin false (by simp; intro h; exact absurd (h i p q hp hq).1 q1)
    · rintro s ⟨hs, rfl⟩
      have harms : armsEq a b := fun i p q hp hq => hs i p q (by have := (List.getElem?_eq_some_iff.1 hq).1; exact this) hp hq
      unfold l29_0
      simp (maxSteps := 4000000) (disch := first | omega | (simp; done) | (simp; omega)) [h4, h5, c1, c2]
      have hbn : b.children.length = b.kids.length + b.arms.length := b.children_len
      have han : a.children.length = b.kids.length + b.arms.length := by rw [a.children_len]; omega
      refine wp_loopI (fun i s => (∀ (j : Nat) x y, j < i → a.children[j]? = some x → b.children[j]? = some y → covP true x y (l ++ a.bound j) (r ++ b.bound j)) ∧
          s = ⟨[(2, strsV l), (3, strsV r), (4, .sc (.ptr 64 0)), (5, .sc (.ptr 128 0)), (12, .sc (.arr 8160 (b.kids.length + b.arms.length))), (13, .sc (.arr 8288 (b.kids.length + b.arms.length))), (14, intV i)],
            [(64, some (.box (wc a.row))), (128, some (.box (wc b.row))), (8160, some (.arr 11 (wr (Exp.rows a.children)) 0)), (8288, some (.arr 11 (wr (Exp.rows b.children)) 0))]⟩) (b.kids.length + b.arms.length) ⟨by omega, by simp⟩ ?_ ?_
      · rintro i s hi ⟨hs2, rfl⟩
        obtain ⟨x, hx⟩ := get_of_lt (l := a.children) (i := i) (by omega)
        obtain ⟨y, hy⟩ := get_of_lt (l := b.children) (i := i) (by omega)
        have hi2 : (i : Int) < (b.kids.length : Int) + b.arms.length := by omega
        have mx := List.mem_of_getElem? hx
        have my := List.mem_of_getElem? hy
        have bx := bound_child hx
        have bY := bound_child hy
        have w1 := bound91 (A := A) a i hw.one (by omega) (by omega)
        have w2 := bound91 (A := A) b i hv.one (by omega) (by omega)
        obtain ⟨_, ⟨v, hval, rfl⟩, hc⟩ := ih x mx y (l ++ a.bound i) (r ++ b.bound i) (hsa.child mx) (hsb.child my) (ht.child mx) (by simp; omega) (by simp; omega)
        have hneg := fun (h : covP true x y (l ++ a.bound i) (r ++ b.bound i) → False) => hfin false (by simp; intro _; exact ⟨i, x, hx, y, hy, h⟩)
        have hstep : covP true x y (l ++ a.bound i) (r ++ b.bound i) → ∀ (j : Nat) x' y', j < i + 1 → a.children[j]? = some x' → b.children[j]? = some y' → covP true x' y' (l ++ a.bound j) (r ++ b.bound j) := by
          intro hxy j x' y' hj hx' hy'
          by_cases hji : j = i
          · subst hji
            rw [hx] at hx'
            rw [hy] at hy'
            cases hx'
            cases hy'
            exact hxy
          · exact hs2 j x' y' (by omega) hx' hy'
        generalize a.bound i = ab at w1 hc hval hneg hstep bx
        generalize b.bound i = bb at w2 hc hval hneg hstep bY
        unfold l29_1
        cases v with
        | true =>
          have hxy := hval.1 rfl
          simp (maxSteps := 4000000) (disch := first | omega | (simp; done) | (simp; omega)) [hi2, hx, hy, w1, w2, hc, han, hbn, -getElem?_pos]
          exact hstep hxy
        | false =>
          simp (maxSteps := 4000000) (disch := first | omega | (simp; done) | (simp; omega)) [hi2, hx, hy, w1, w2, hc, han, hbn, -getElem?_pos]
          exact hneg fun h => by have := hval.2 h; cases this
      · rintro s ⟨hs2, rfl⟩
        have hall : ∀ (j : Nat) x y, a.children[j]? = some x → b.children[j]? = some y → covP true x y (l ++ a.bound j) (r ++ b.bound j) := fun j x y hx hy => hs2 j x y (by have := (List.getElem?_eq_some_iff.1 hx).1; omega) hx hy
        unfold l29_1
        simp (maxSteps := 4000000) (disch := first | omega | (simp; done) | (simp; omega)) [han, hbn]
        exact hfin true (by simp [harms]; exact hall)
  · simp (disch := first | omega | (simp; done) | (simp; omega)) [k10b, h1, h2, hc3, h4, h5, k1, k2]
    refine wp_loopI (fun i s => (∀ (j : Nat) p q, j < i → a.arms[j]? = some p → b.arms[j]? = some q → p.1.con = q.1.con ∧ p.1.vars.length = q.1.vars.length) ∧
        s = ⟨[(2, strsV l), (3, strsV r), (4, .sc (.ptr 64 0)), (5, .sc (.ptr 128 0)), (11, intV i)], [(64, some (.box (wc a.row))), (128, some (.box (wc b.row)))]⟩) b.arms.length ⟨by omega, by simp⟩ ?_ ?_
    · rintro i s hi ⟨hs, rfl⟩
      obtain ⟨p, hp⟩ := get_of_lt (l := a.arms) (i := i) (by omega)
      obtain ⟨q, hq⟩ := get_of_lt (l := b.arms) (i := i) (by omega)
      have hi2 : (i : Int) < a.arms.length := by omega
      unfold l29_0
      by_cases q1 : p.1.con = q.1.con
      · by_cases q2 : p.1.vars.length = q.1.vars.length
        · simp (maxSteps := 4000000) (disch := first | omega | (simp; done) | (simp; omega)) [hi, hi2, hp, hq, q1, q2, -getElem?_pos]
          intro j pa pe qa qe hj hp' hq'
          by_cases hji : j = i
          · subst hji
            rw [hp] at hp'
            rw [hq] at hq'
            cases hp'
            cases hq'
            exact ⟨q1, q2⟩
          · exact hs j _ _ (by omega) hp' hq'
        · have q2' : ¬ (p.1.vars.length : Int) = q.1.vars.length := by omega
          simp (maxSteps := 4000000) (disch := first | omega | (simp; done) | (simp; omega)) [hi, hi2, hp, hq, q1, q2, q2', -getElem?_pos]
          exact hfin false (by simp; intro h; exact absurd (h i p q hp hq).2 q2)
      · simp (maxSteps := 4000000) (disch := first | omega | (simp; done) | (simp; omega)) [hi, hi2, hp, hq, q1, -getElem?_pos]
        exact hfin false (by simp; intro h; exact absurd (h i p q hp hq).1 q1)
    · rintro s ⟨hs, rfl⟩
      have harms : armsEq a b := fun i p q hp hq => hs i p q (by have := (List.getElem?_eq_some_iff.1 hq).1; exact this) hp hq
      unfold l29_0
      simp (maxSteps := 4000000) (disch := first | omega | (simp; done) | (simp; omega)) [h4, h5, c1, c2]
      have hbn : b.children.length = b.kids.length + b.arms.length := b.children_len
      have han : a.children.length = b.kids.length + b.arms.length := by rw [a.children_len]; omega
      refine wp_loopI (fun i s => (∀ (j : Nat) x y, j < i → a.children[j]? = some x → b.children[j]? = some y → covP true x y (l ++ a.bound j) (r ++ b.bound j)) ∧
          s = ⟨[(2, strsV l), (3, strsV r), (4, .sc (.ptr 64 0)), (5, .sc (.ptr 128 0)), (12, .sc (.arr 8160 (b.kids.length + b.arms.length))), (13, .sc (.arr 8288 (b.kids.length + b.arms.length))), (14, intV i)],
            [(64, some (.box (wc a.row))), (128, some (.box (wc b.row))), (8160, some (.arr 11 (wr (Exp.rows a.children)) 0)), (8288, some (.arr 11 (wr (Exp.rows b.children)) 0))]⟩) (b.kids.length + b.arms.length) ⟨by omega, by simp⟩ ?_ ?_
      · rintro i s hi ⟨hs2, rfl⟩
        obtain ⟨x, hx⟩ := get_of_lt (l := a.children) (i := i) (by omega)
        obtain ⟨y, hy⟩ := get_of_lt (l := b.children) (i := i) (by omega)
        have hi2 : (i : Int) < (b.kids.length : Int) + b.arms.length := by omega
        have mx := List.mem_of_getElem? hx
        have my := List.mem_of_getElem? hy
        have bx := bound_child hx
        have bY := bound_child hy
        have w1 := bound91 (A := A) a i hw.one (by omega) (by omega)
        have w2 := bound91 (A := A) b i hv.one (by omega) (by omega)
        obtain ⟨_, ⟨v, hval, rfl⟩, hc⟩ := ih x mx y (l ++ a.bound i) (r ++ b.bound i) (hsa.child mx) (hsb.child my) (ht.child mx) (by simp; omega) (by simp; omega)
        have hneg := fun (h : covP true x y (l ++ a.bound i) (r ++ b.bound i) → False) => hfin false (by simp; intro _; exact ⟨i, x, hx, y, hy, h⟩)
        have hstep : covP true x y (l ++ a.bound i) (r ++ b.bound i) → ∀ (j : Nat) x' y', j < i + 1 → a.children[j]? = some x' → b.children[j]? = some y' → covP true x' y' (l ++ a.bound j) (r ++ b.bound j) := by
          intro hxy j x' y' hj hx' hy'
          by_cases hji : j = i
          · subst hji
            rw [hx] at hx'
            rw [hy] at hy'
            cases hx'
            cases hy'
            exact hxy
          · exact hs2 j x' y' (by omega) hx' hy'
        generalize a.bound i = ab at w1 hc hval hneg hstep bx
        generalize b.bound i = bb at w2 hc hval hneg hstep bY
        unfold l29_1
        cases v with
        | true =>
          have hxy := hval.1 rfl
          simp (maxSteps := 4000000) (disch := first | omega | (simp; done) | (simp; omega)) [hi2, hx, hy, w1, w2, hc, han, hbn, -getElem?_pos]
          exact hstep hxy
        | false =>
          simp (maxSteps := 4000000) (disch := first | omega | (simp; done) | (simp; omega)) [hi2, hx, hy, w1, w2, hc, han, hbn, -getElem?_pos]
          exact hneg fun h => by have := hval.2 h; cases this
      · rintro s ⟨hs2, rfl⟩
        have hall : ∀ (j : Nat) x y, a.children[j]? = some x → b.children[j]? = some y → covP true x y (l ++ a.bound j) (r ++ b.bound j) := fun j x y hx hy => hs2 j x y (by have := (List.getElem?_eq_some_iff.1 hx).1; omega) hx hy
        unfold l29_1
        simp (maxSteps := 4000000) (disch := first | omega | (simp; done) | (simp; omega)) [han, hbn]
        exact hfin true (by simp [harms]; exact hall)

end Go.Vs.Tryz
