/- Equal up to the names that are bound, by the reference, walked. (Parts of one proof, put together.) -/
import Derived.Test.YtlcncicmkkelcaaGreatDoorR3
import Derived.Test.YtlcncicmkkelcaaGreatDoorR2
set_option linter.unusedSimpArgs false
set_option linter.unusedVariables false
set_option linter.deprecated false

/- Equal up to the names that are bound, by the reference, walked. -/
namespace Go.Vs.Tryz
open Go Go.Vs
variable {A : Oracle}

def tyBd (e : Exp) : Prop := e.fold fun e l => e.ty.size ≤ 1073741824 ∧ ∀ p ∈ l, p
theorem tyBd_eq (e : Exp) : tyBd e = (e.ty.size ≤ 1073741824 ∧ ∀ x ∈ e.children, tyBd x) := by
  have := Exp.fold_eq (fun e (l : List Prop) => e.ty.size ≤ 1073741824 ∧ ∀ p ∈ l, p) e
  unfold tyBd
  rw [this]
  simp only [List.forall_mem_map]
theorem tyBd.one {e : Exp} (h : tyBd e) : e.ty.size ≤ 1073741824 := by rw [tyBd_eq] at h; exact h.1
theorem tyBd.child {e x : Exp} (h : tyBd e) (hx : x ∈ e.children) : tyBd x := by rw [tyBd_eq] at h; exact h.2 x hx

set_option maxRecDepth 10000 in
set_option maxHeartbeats 16000000 in
theorem alpha66 (a : Exp) : ∀ (b : Exp) (l r : List Str), a.wf → b.wf → tyBd a → l.length + a.weight ≤ 1073741824 → r.length + b.weight ≤ 1073741824 →
    ∃ x, IffB (alphaP a b l r) x ∧ (K A).call 66 [expV a, expV b, strsV l, strsV r] [] = some x := by
  induction a using Exp.ind with
  | h a ih =>
  intro b l r hw hv ht hl hr
  rw [alphaP_eq]
  refine fn_ofE _ (vf := v66) (by kernel_rfl) rfl (by simp) ?_
  have hal := a.children_le
  have hbl := b.children_le
  rw [Exp.children_len] at hal hbl
  by_cases h1 : a.kind = b.kind
  case neg =>
    unfold v66
    simp (maxSteps := 4000000) (disch := first | omega | (simp; done) | (simp; omega)) [h1, -getElem?_pos]
    exact IffB.no fun h => h1 h.1.1
  by_cases h2 : a.num = b.num
  case neg =>
    unfold v66
    simp (maxSteps := 4000000) (disch := first | omega | (simp; done) | (simp; omega)) [h1, h2, -getElem?_pos]
    exact IffB.no fun h => h2 h.1.2.1
  obtain ⟨_, ⟨t, h3, rfl⟩, hc3⟩ := teq85 (A := A) 1073741824 a.ty b.ty ht.one (by omega)
  cases t with
  | false =>
    unfold v66
    simp (maxSteps := 4000000) (disch := first | omega | (simp; done) | (simp; omega)) [h1, h2, hc3, -getElem?_pos]
    exact IffB.no fun h => by have := h3.2 h.1.2.2.1; cases this
  | true =>
  have h3' := h3.1 rfl
  by_cases h4 : a.kids.length = b.kids.length
  case neg =>
    have h4' : ¬ (a.kids.length : Int) = b.kids.length := by omega
    unfold v66
    simp (maxSteps := 4000000) (disch := first | omega | (simp; done) | (simp; omega)) [h1, h2, hc3, h4, h4', -getElem?_pos]
    exact IffB.no fun h => h4 h.1.2.2.2.1
  by_cases h5 : a.arms.length = b.arms.length
  case neg =>
    have h5' : ¬ (a.arms.length : Int) = b.arms.length := by omega
    unfold v66
    simp (maxSteps := 4000000) (disch := first | omega | (simp; done) | (simp; omega)) [h1, h2, hc3, h4, h5, h5', -getElem?_pos]
    exact IffB.no fun h => h5 h.1.2.2.2.2
  have hhead : headEq a b := ⟨h1, h2, h3', h4, h5⟩
  by_cases k1 : b.kind = 1
  · have p1 := place125 (A := A) l a.name (by omega)
    have p2 := place125 (A := A) r b.name (by omega)
    have hfin : ∀ v : Bool, (v = true ↔ varEq l r a.name b.name) → IffB (headEq a b ∧ (a.kind = 1 → varEq l r a.name b.name) ∧ (a.kind = 2 → a.name = b.name) ∧
        (a.kind ≠ 1 → a.kind ≠ 2 → armsEq a b ∧ ∀ (i : Nat) x y, a.children[i]? = some x → b.children[i]? = some y → alphaP x y (l ++ a.bound i) (r ++ b.bound i))) (boolV v, []) := fun v hv =>
      ⟨v, hv.trans ⟨fun h => ⟨hhead, fun _ => h, fun h2 => by omega, fun h2 => absurd (h1.trans k1) h2⟩, fun h => h.2.1 (h1.trans k1)⟩, rfl⟩
    generalize (headEq a b ∧ (a.kind = 1 → varEq l r a.name b.name) ∧ (a.kind = 2 → a.name = b.name) ∧
        (a.kind ≠ 1 → a.kind ≠ 2 → armsEq a b ∧ ∀ (i : Nat) x y, a.children[i]? = some x → b.children[i]? = some y → alphaP x y (l ++ a.bound i) (r ++ b.bound i))) = P at hfin ⊢
    unfold varEq at hfin
    unfold v66
    by_cases q1 : rlast l a.name = rlast r b.name
    · by_cases q2 : 0 ≤ rlast r b.name
      · simp (maxSteps := 4000000) (disch := first | omega | (simp; done) | (simp; omega)) [h1, h2, hc3, h4, h5, k1, p1, p2, q1, q2, -getElem?_pos]
        exact hfin true (by simp [q1, q2])
      · by_cases q3 : a.name = b.name
        · rw [q3] at p1 q1 hfin
          simp (maxSteps := 4000000) (disch := first | omega | (simp; done) | (simp; omega)) [h1, h2, hc3, h4, h5, k1, p1, p2, q1, q2, q3, -getElem?_pos]
          exact hfin true (by simp [q1])
        · simp (maxSteps := 4000000) (disch := first | omega | (simp; done) | (simp; omega)) [h1, h2, hc3, h4, h5, k1, p1, p2, q1, q2, q3, -getElem?_pos]
          exact hfin false (by simp [q1, q2, q3])
    · simp (maxSteps := 4000000) (disch := first | omega | (simp; done) | (simp; omega)) [h1, h2, hc3, h4, h5, k1, p1, p2, q1, -getElem?_pos]
      exact hfin false (by simp [q1])
  by_cases k2 : b.kind = 2
  · have hfin : ∀ v : Bool, (v = true ↔ a.name = b.name) → IffB (headEq a b ∧ (a.kind = 1 → varEq l r a.name b.name) ∧ (a.kind = 2 → a.name = b.name) ∧
        (a.kind ≠ 1 → a.kind ≠ 2 → armsEq a b ∧ ∀ (i : Nat) x y, a.children[i]? = some x → b.children[i]? = some y → alphaP x y (l ++ a.bound i) (r ++ b.bound i))) (boolV v, []) := fun v hv =>
      ⟨v, hv.trans ⟨fun h => ⟨hhead, fun h2 => by omega, fun _ => h, fun _ h2 => absurd (h1.trans k2) h2⟩, fun h => h.2.2.1 (h1.trans k2)⟩, rfl⟩
    generalize (headEq a b ∧ (a.kind = 1 → varEq l r a.name b.name) ∧ (a.kind = 2 → a.name = b.name) ∧
        (a.kind ≠ 1 → a.kind ≠ 2 → armsEq a b ∧ ∀ (i : Nat) x y, a.children[i]? = some x → b.children[i]? = some y → alphaP x y (l ++ a.bound i) (r ++ b.bound i))) = P at hfin ⊢
    unfold v66
    by_cases q3 : a.name = b.name
    · simp (maxSteps := 4000000) (disch := first | omega | (simp; done) | (simp; omega)) [h1, h2, hc3, h4, h5, k1, k2, q3, -getElem?_pos]
      exact hfin true (by simp [q3])
    · simp (maxSteps := 4000000) (disch := first | omega | (simp; done) | (simp; omega)) [h1, h2, hc3, h4, h5, k1, k2, q3, -getElem?_pos]
      exact hfin false (by simp [q3])
  have hfin : ∀ v : Bool, (v = true ↔ armsEq a b ∧ ∀ (i : Nat) x y, a.children[i]? = some x → b.children[i]? = some y → alphaP x y (l ++ a.bound i) (r ++ b.bound i)) → IffB (headEq a b ∧ (a.kind = 1 → varEq l r a.name b.name) ∧ (a.kind = 2 → a.name = b.name) ∧
      (a.kind ≠ 1 → a.kind ≠ 2 → armsEq a b ∧ ∀ (i : Nat) x y, a.children[i]? = some x → b.children[i]? = some y → alphaP x y (l ++ a.bound i) (r ++ b.bound i))) (boolV v, []) := fun v hv =>
    ⟨v, hv.trans ⟨fun h => ⟨hhead, fun h2 => by omega, fun h2 => by omega, fun _ _ => h⟩, fun h => h.2.2.2 (by omega) (by omega)⟩, rfl⟩
  generalize (headEq a b ∧ (a.kind = 1 → varEq l r a.name b.name) ∧ (a.kind = 2 → a.name = b.name) ∧
      (a.kind ≠ 1 → a.kind ≠ 2 → armsEq a b ∧ ∀ (i : Nat) x y, a.children[i]? = some x → b.children[i]? = some y → alphaP x y (l ++ a.bound i) (r ++ b.bound i))) = P at hfin ⊢
  have c1 := children50 (A := A) a (by omega)
  have c2 := children50 (A := A) b (by omega)
  unfold v66
  simp (maxSteps := 4000000) (disch := first | omega | (simp; done) | (simp; omega)) [h1, h2, hc3, h4, h5, k1, k2, -getElem?_pos]
  refine wp_loopI (fun i s => (∀ (j : Nat) p q, j < i → a.arms[j]? = some p → b.arms[j]? = some q → p.1.con = q.1.con ∧ p.1.vars.length = q.1.vars.length) ∧
      s = ⟨[(2, strsV l), (3, strsV r), (4, .sc (.ptr 64 0)), (5, .sc (.ptr 128 0)), (11, intV i)], [(64, some (.box (wc a.row))), (128, some (.box (wc b.row)))]⟩) b.arms.length ⟨by omega, by simp⟩ ?_ ?_
  · rintro i s hi ⟨hs, rfl⟩
    obtain ⟨p, hp⟩ := get_of_lt (l := a.arms) (i := i) (by omega)
    obtain ⟨q, hq⟩ := get_of_lt (l := b.arms) (i := i) (by omega)
    have hi2 : (i : Int) < a.arms.length := by omega
    unfold l66_0
    by_cases q1 : p.1.con = q.1.con
    · by_cases q2 : p.1.vars.length = q.1.vars.length
      · simp (maxSteps := 4000000) (disch := first | omega | (simp; done) | (simp; omega)) [hi, hi2, hp, hq, q1, q2, -getElem?_pos]
        intro j pa pe qa qe hj hp' hq'
        by_cases hji : j = i
        · subst hji
          rw [hp] at hp'
          rw [hq] at hq'
          cases hp'
          cases hq'
          exact ⟨q1, q2⟩
        · exact hs j _ _ (by omega) hp' hq'
      · have q2' : ¬ (p.1.vars.length : Int) = q.1.vars.length := by omega
        simp (maxSteps := 4000000) (disch := first | omega | (simp; done) | (simp; omega)) [hi, hi2, hp, hq, q1, q2, q2', -getElem?_pos]
        exact hfin false (by simp; intro h; exact absurd (h i p q hp hq).2 q2)
    · simp (maxSteps := 4000000) (disch := first | omega | (simp; done) | (simp; omega)) [hi, hi2, hp, hq, q1, -getElem?_pos]
      exact hfin false (by simp; intro h; exact absurd (h i p q hp hq).1 q1)
  · rintro s ⟨hs, rfl⟩
    have harms : armsEq a b := fun i p q hp hq => hs i p q (by have := (List.getElem?_eq_some_iff.1 hq).1; exact this) hp hq
    unfold l66_0
    simp (maxSteps := 4000000) (disch := first | omega | (simp; done) | (simp; omega)) [h4, h5, c1, c2, -getElem?_pos]
    have hbn : b.children.length = b.kids.length + b.arms.length := b.children_len
    have han : a.children.length = b.kids.length + b.arms.length := by rw [a.children_len]; omega
    refine wp_loopI (fun i s => (∀ (j : Nat) x y, j < i → a.children[j]? = some x → b.children[j]? = some y → alphaP x y (l ++ a.bound j) (r ++ b.bound j)) ∧
        s = ⟨[(2, strsV l), (3, strsV r), (4, .sc (.ptr 64 0)), (5, .sc (.ptr 128 0)), (12, .sc (.arr 7776 (b.kids.length + b.arms.length))), (13, .sc (.arr 7904 (b.kids.length + b.arms.length))), (14, intV i)],
          [(64, some (.box (wc a.row))), (128, some (.box (wc b.row))), (7776, some (.arr 11 (wr (Exp.rows a.children)) 0)), (7904, some (.arr 11 (wr (Exp.rows b.children)) 0))]⟩) (b.kids.length + b.arms.length) ⟨by omega, by simp⟩ ?_ ?_
    · rintro i s hi ⟨hs2, rfl⟩
      obtain ⟨x, hx⟩ := get_of_lt (l := a.children) (i := i) (by omega)
      obtain ⟨y, hy⟩ := get_of_lt (l := b.children) (i := i) (by omega)
      have hi2 : (i : Int) < (b.kids.length : Int) + b.arms.length := by omega
      have mx := List.mem_of_getElem? hx
      have my := List.mem_of_getElem? hy
      have bx := bound_child hx
      have bY := bound_child hy
      have w1 := bound91 (A := A) a i hw.one (by omega) (by omega)
      have w2 := bound91 (A := A) b i hv.one (by omega) (by omega)
      obtain ⟨_, ⟨v, hval, rfl⟩, hc⟩ := ih x mx y (l ++ a.bound i) (r ++ b.bound i) (hw.child mx) (hv.child my) (ht.child mx) (by simp; omega) (by simp; omega)
      have hneg := fun (h : alphaP x y (l ++ a.bound i) (r ++ b.bound i) → False) => hfin false (by simp; intro _; exact ⟨i, x, hx, y, hy, h⟩)
      have hstep : alphaP x y (l ++ a.bound i) (r ++ b.bound i) → ∀ (j : Nat) x' y', j < i + 1 → a.children[j]? = some x' → b.children[j]? = some y' → alphaP x' y' (l ++ a.bound j) (r ++ b.bound j) := by
        intro hxy j x' y' hj hx' hy'
        by_cases hji : j = i
        · subst hji
          rw [hx] at hx'
          rw [hy] at hy'
          cases hx'
          cases hy'
          exact hxy
        · exact hs2 j x' y' (by omega) hx' hy'
      generalize a.bound i = ab at w1 hc hval hneg hstep bx
      generalize b.bound i = bb at w2 hc hval hneg hstep bY
      unfold l66_1
      cases v with
      | true =>
        have hxy := hval.1 rfl
        simp (maxSteps := 4000000) (disch := first | omega | (simp; done) | (simp; omega)) [hi2, hx, hy, w1, w2, hc, han, hbn, -getElem?_pos]
        exact hstep hxy
      | false =>
        simp (maxSteps := 4000000) (disch := first | omega | (simp; done) | (simp; omega)) [hi2, hx, hy, w1, w2, hc, han, hbn, -getElem?_pos]
        exact hneg fun h => by have := hval.2 h; cases this
    · rintro s ⟨hs2, rfl⟩
      have hall : ∀ (j : Nat) x y, a.children[j]? = some x → b.children[j]? = some y → alphaP x y (l ++ a.bound j) (r ++ b.bound j) := fun j x y hx hy => hs2 j x y (by have := (List.getElem?_eq_some_iff.1 hx).1; omega) hx hy
      unfold l66_1
      simp (maxSteps := 4000000) (disch := first | omega | (simp; done) | (simp; omega)) [han, hbn, -getElem?_pos]
      exact hfin true (by simp [harms]; exact hall)

theorem alpha18 (a b : Exp) (hw : a.wf) (hv : b.wf) (ht : tyBd a) (hl : a.weight ≤ 1073741824) (hr : b.weight ≤ 1073741824) :
    ∃ x, IffB (alphaP a b [] []) x ∧ (K A).call 18 [expV a, expV b] [] = some x := by
  refine fn_ofE _ (vf := v18) (by kernel_rfl) rfl (by simp) ?_
  obtain ⟨_, ⟨v, hval, rfl⟩, hc⟩ := alpha66 (A := A) a b [] [] hw hv ht (by simpa using hl) (by simpa using hr)
  simp [strsV] at hc
  unfold v18
  simp (maxSteps := 4000000) (disch := first | omega | (simp; done) | (simp; omega)) [hc, -getElem?_pos]
  exact ⟨v, hval, rfl⟩
end Go.Vs.Tryz

/- Terms: their heads, arguments and sizes; which are well made (plain). -/
namespace Go.Vs.Tryz
open Go Go.Vs

def spineF (e : Exp) (l : List (Exp × List Exp)) : Exp × List Exp :=
  if e.kind = 5 then match e.kids, l with
    | [_, x], r :: _ => (r.1, r.2 ++ [x])
    | _, _ => (e, [])
  else (e, [])
/-- The head and the arguments. -/
def spine (e : Exp) : Exp × List Exp := e.fold spineF

/-- The size of a term. -/
def sizeM (e : Exp) : Nat := e.fold fun e l => if e.kind = 5 then l.sum else if e.kind = 8 then 1 + (l.drop 1).sum else 1 + l.sum

/-- A node of a term. -/
def good1 (e : Exp) : Prop := e.pos = 0 ∧ e.num = 0 ∧ e.ty = tz ∧
  ((e.kind = 1 ∧ nameOk 97 122 e.name ∧ e.kids = [] ∧ e.arms = []) ∨ (e.kind = 2 ∧ nameOk 65 90 e.name ∧ e.kids = [] ∧ e.arms = []) ∨
    (e.kind = 4 ∧ nameOk 97 122 e.name ∧ (∃ x, e.kids = [x]) ∧ e.arms = []) ∨
    (e.kind = 5 ∧ e.name = [] ∧ (∃ f x, e.kids = [f, x] ∧ (f.kind = 1 ∨ f.kind = 2 ∨ f.kind = 5)) ∧ e.arms = []) ∨
    (e.kind = 8 ∧ e.name = [] ∧ (∃ x, e.kids = [x] ∧ x.kind = 1) ∧ e.arms ≠ [] ∧ ∀ a ∈ e.arms, a.1.pos = 0 ∧ nameOk 65 90 a.1.con ∧ a.1.vars.length ≤ 4 ∧ ∀ v ∈ a.1.vars, nameOk 97 122 v))
def good (e : Exp) : Prop := e.fold fun e l => good1 e ∧ ∀ p ∈ l, p
theorem good_eq (e : Exp) : good e = (good1 e ∧ ∀ x ∈ e.children, good x) := by
  have := Exp.fold_eq (fun e (l : List Prop) => good1 e ∧ ∀ p ∈ l, p) e
  unfold good
  rw [this]
  simp only [List.forall_mem_map]
theorem good.one {e : Exp} (h : good e) : good1 e := by rw [good_eq] at h; exact h.1
theorem good.child {e x : Exp} (h : good e) (hx : x ∈ e.children) : good x := by rw [good_eq] at h; exact h.2 x hx

/-- The five kinds of terms. -/
theorem good.cases {e : Exp} (h : good e) : (e.kind = 1 ∧ nameOk 97 122 e.name ∧ e.kids = [] ∧ e.arms = []) ∨ (e.kind = 2 ∧ nameOk 65 90 e.name ∧ e.kids = [] ∧ e.arms = []) ∨
    (e.kind = 4 ∧ nameOk 97 122 e.name ∧ (∃ x, e.kids = [x] ∧ good x) ∧ e.arms = []) ∨
    (e.kind = 5 ∧ e.name = [] ∧ (∃ f x, e.kids = [f, x] ∧ (f.kind = 1 ∨ f.kind = 2 ∨ f.kind = 5) ∧ good f ∧ good x) ∧ e.arms = []) ∨
    (e.kind = 8 ∧ e.name = [] ∧ (∃ x, e.kids = [x] ∧ x.kind = 1 ∧ good x) ∧ e.arms ≠ [] ∧ ∀ a ∈ e.arms, a.1.pos = 0 ∧ nameOk 65 90 a.1.con ∧ a.1.vars.length ≤ 4 ∧ (∀ v ∈ a.1.vars, nameOk 97 122 v) ∧ good a.2) := by
  obtain ⟨_, _, _, h1⟩ := h.one
  rcases h1 with h1 | h1 | ⟨a, b, ⟨x, hx⟩, c⟩ | ⟨a, b, ⟨f, x, hx, hf⟩, c⟩ | ⟨a, b, ⟨x, hx, hk⟩, c, d⟩
  · exact .inl h1
  · exact .inr (.inl h1)
  · exact .inr (.inr (.inl ⟨a, b, ⟨x, hx, h.child (by simp [Exp.children, hx])⟩, c⟩))
  · exact .inr (.inr (.inr (.inl ⟨a, b, ⟨f, x, hx, hf, h.child (by simp [Exp.children, hx]), h.child (by simp [Exp.children, hx])⟩, c⟩)))
  · refine .inr (.inr (.inr (.inr ⟨a, b, ⟨x, hx, hk, h.child (by simp [Exp.children, hx])⟩, c, fun y hy => ?_⟩)))
    obtain ⟨p, q, r, s⟩ := d y hy
    exact ⟨p, q, r, s, h.child (by simp only [Exp.children, List.mem_append, List.mem_map]; exact .inr ⟨y, hy, rfl⟩)⟩

end Go.Vs.Tryz

/- Spine and Size by the program, walked. -/
namespace Go.Vs.Tryz
open Go Go.Vs
variable {A : Oracle}

abbrev expsV (l : List Exp) : V := .sc (.c (.sl (Exp.rows l)))

def SpineI (e : Exp) (i : Nat) (s : St) : Prop := ∃ cur acc, good cur ∧ (cur.kind = 1 ∨ cur.kind = 2 ∨ cur.kind = 5) ∧ acc.length = i ∧ spine e = ((spine cur).1, (spine cur).2 ++ acc.reverse) ∧
  s = ⟨[(1, .sc (.ptr 64 0)), (2, .sc (.ptr 128 0)), (4, .sc (.arr 257 i))], [(64, some (.box (wc cur.row))), (128, some (.box [zi, zi, zs, zi, .nil, .nil, zi, zs, zi, zi, .nil])), (257, some (.arr 11 (wr (Exp.rows acc)) 0))]⟩

end Go.Vs.Tryz

/- How two terms compare (plain). -/
namespace Go.Vs.Tryz
open Go Go.Vs

def conExp (s : Str) : Exp := .mk 2 0 s 0 [] [] tz
def kid0 (e : Exp) : Exp := (e.kids[0]?).getD e
def con0 (e : Exp) : Exp := conExp (((e.arms[0]?).map fun a => a.1.con).getD [])
/-- How two terms compare, by the ranks of heads. -/
def cmpF (rank : List Str → Exp → Int) : Nat → List Str → List Str → Exp → Exp → Int
  | 0, _, _, _, _ => 0
  | n + 1, l, m, a, b => orI [cmpI (sizeM a) (sizeM b), cmpI (kindM a) (kindM b),
      if a.kind = 4 then cmpF rank n (l ++ [a.name]) (m ++ [b.name]) (kid0 a) (kid0 b)
      else if a.kind = 8 then orI (cmpI (rank l (kid0 a)) (rank m (kid0 b)) :: cmpI (rank l (con0 a)) (rank m (con0 b)) ::
        (List.zipWith (fun p q => cmpF rank n (l ++ p.1.vars) (m ++ q.1.vars) p.2 q.2) a.arms b.arms ++ [cmpI a.arms.length b.arms.length]))
      else orI [cmpI (rank l (spine a).1) (rank m (spine b).1), cmpI (spine a).2.length (spine b).2.length, orI (List.zipWith (cmpF rank n l m) (spine a).2 (spine b).2)]]
end Go.Vs.Tryz

/- Comparing is a total order: opposite ways, and chains (plain). -/
namespace Go.Vs.Tryz
open Go Go.Vs

theorem cmpI_zero {a b : Int} : cmpI a b = 0 ↔ a = b := by
  unfold cmpI
  split
  · constructor <;> omega
  · split
    · constructor <;> omega
    · constructor <;> omega
theorem orI_cons (a : Int) (r : List Int) : orI (a :: r) = if a = 0 then orI r else a := rfl
theorem orI_eq_zero : ∀ {l : List Int}, orI l = 0 ↔ ∀ x ∈ l, x = 0
  | [] => by simp [orI]
  | a :: r => by
    rw [orI_cons]
    by_cases h : a = 0
    · simp [h, orI_eq_zero (l := r)]
    · simp [h]

variable (rk : List Str → Exp → Int)
/-- Behind sizes and kinds. -/
def cmpR (n : Nat) (l m : List Str) (a b : Exp) : Int :=
  if a.kind = 4 then cmpF rk n (l ++ [a.name]) (m ++ [b.name]) (kid0 a) (kid0 b)
  else if a.kind = 8 then orI (cmpI (rk l (kid0 a)) (rk m (kid0 b)) :: cmpI (rk l (con0 a)) (rk m (con0 b)) ::
    (List.zipWith (fun p q => cmpF rk n (l ++ p.1.vars) (m ++ q.1.vars) p.2 q.2) a.arms b.arms ++ [cmpI a.arms.length b.arms.length]))
  else orI [cmpI (rk l (spine a).1) (rk m (spine b).1), cmpI (spine a).2.length (spine b).2.length, orI (List.zipWith (cmpF rk n l m) (spine a).2 (spine b).2)]

/-- A chain of comparisons. -/
def Tri (x y z : Int) : Prop := (x = 0 → y = 0 → z = 0) ∧ (x ≤ 0 → y ≤ 0 → (x < 0 ∨ y < 0) → z < 0)
end Go.Vs.Tryz

/- Terms in a context: what their ranks say (plain). -/
namespace Go.Vs.Tryz
open Go Go.Vs

def inScope1 (ds : List DataD) (e : Exp) (N : List Str) : Prop := (e.kind = 1 → e.name ∈ N) ∧ (e.kind = 2 → ∃ d ∈ ds, e.name ∈ cnames d) ∧
  (e.kind = 8 → ∃ d ∈ ds, (e.arms.map fun a => a.1.con) = cnames d ∧ (e.arms.map fun a => a.1.vars.length) = d.cons.map fun c => c.fields.length)
def inScopeF (ds : List DataD) (e : Exp) (l : List (List Str → Prop)) (N : List Str) : Prop := inScope1 ds e N ∧ ∀ (i : Nat) p, l[i]? = some p → p (N ++ e.bound i)
/-- The names of a term are visible, its constructors declared. -/
def inScope (ds : List DataD) (e : Exp) : List Str → Prop := e.fold (inScopeF ds)
/-- Constructors are declared once. -/
def uniq (ds : List DataD) : Prop := ∀ d ∈ ds, ∀ d' ∈ ds, ∀ c, c ∈ cnames d → c ∈ cnames d' → d = d'

theorem consTo_mono {ds : List DataD} {i j : Nat} (h : i ≤ j) : consTo ds i ≤ consTo ds j := by
  unfold consTo
  have : ds.take i = (ds.take j).take i := by rw [List.take_take, Nat.min_eq_left h]
  rw [this, List.map_take]
  exact sum_take
theorem consTo_inj {ds : List DataD} {i j k k' : Nat} {d d' : DataD} (hi : ds[i]? = some d) (hj : ds[j]? = some d') (hk : k < d.cons.length) (hk' : k' < d'.cons.length) (h : k + consTo ds i = k' + consTo ds j) : i = j ∧ k = k' := by
  have h1 := consTo_succ hi
  have h2 := consTo_succ hj
  rcases Nat.lt_trichotomy i j with h3 | h3 | h3
  · have := consTo_mono (ds := ds) (i := i + 1) (j := j) h3
    omega
  · subst h3
    omega
  · have := consTo_mono (ds := ds) (i := j + 1) (j := i) h3
    omega

theorem rank_con {ds : List DataD} {S l : List Str} {e : Exp} (h : e.kind = 2) (hd : ∃ d ∈ ds, e.name ∈ cnames d) : ∃ (i k : Nat) (d : DataD), ds[i]? = some d ∧ (cnames d)[k]? = some e.name ∧ rankM ds S l e = S.length + l.length + k + consTo ds i := by
  obtain ⟨d0, h0, hc⟩ := hd
  have hlt : dataOf ds e.name < ds.length := by
    unfold dataOf
    rw [List.findIdx_lt_length]
    exact ⟨d0, h0, by simpa using hc⟩
  obtain ⟨d, hd, hm⟩ := dataOf_at hlt
  refine ⟨dataOf ds e.name, place (cnames d) e.name, d, hd, place_at (place_mem.2 hm), ?_⟩
  unfold rankM
  rw [if_neg (by omega), if_pos h]
  have hf : findM ds e.name = (((dataOf ds e.name : Nat) : Int), ((place (cnames d) e.name : Nat) : Int), true) := by
    unfold findM
    rw [hd]
  rw [hf]
  simp
theorem rank_var {ds : List DataD} {S l : List Str} {e : Exp} (h : e.kind = 1) : rankM ds S l e = if e.name ∈ l then S.length + rlast l e.name else rlast S e.name := by
  unfold rankM
  rw [if_pos h]
theorem rlast_lt {l : List Str} {s : Str} (h : s ∈ l) : 0 ≤ rlast l s ∧ rlast l s < l.length := by
  refine ⟨rlast_mem h, ?_⟩
  unfold rlast
  rw [if_pos h]
  have := place_mem.2 (List.mem_reverse.2 h)
  rw [List.length_reverse] at this
  omega
theorem rlast_get {l : List Str} {s : Str} (h : s ∈ l) : l[(rlast l s).toNat]? = some s := by
  unfold rlast
  rw [if_pos h]
  have hp := place_mem.2 (List.mem_reverse.2 h)
  have hx := place_at hp
  rw [List.length_reverse] at hp
  rw [rev_get hp] at hx
  rw [show ((l.length : Int) - 1 - (place l.reverse s : Int)).toNat = l.length - 1 - place l.reverse s by omega]
  exact hx

section
variable {ds : List DataD} {S l m : List Str} {a b : Exp}
theorem con_rank (hlm : l.length = m.length) (ha : a.kind = 2) (hb : b.kind = 2) (da : ∃ d ∈ ds, a.name ∈ cnames d) (db : ∃ d ∈ ds, b.name ∈ cnames d) : rankM ds S l a = rankM ds S m b ↔ a.name = b.name := by
  constructor
  · intro h
    obtain ⟨i, k, d, h1, h2, h3⟩ := rank_con (S := S) (l := l) ha da
    obtain ⟨i', k', d', h1', h2', h3'⟩ := rank_con (S := S) (l := m) hb db
    rw [h3, h3'] at h
    have hk := (List.getElem?_eq_some_iff.1 h2).1
    have hk' := (List.getElem?_eq_some_iff.1 h2').1
    rw [cnames_len] at hk hk'
    obtain ⟨rfl, rfl⟩ := consTo_inj h1 h1' hk hk' (by omega)
    rw [h1] at h1'
    cases h1'
    rw [h2] at h2'
    exact Option.some.inj h2'
  · intro h
    unfold rankM
    rw [if_neg (by omega), if_pos ha, if_neg (by omega), if_pos hb, h, hlm]
theorem var_rank (hlm : l.length = m.length) (ha : a.kind = 1) (hb : b.kind = 1) (da : a.name ∈ S ∨ a.name ∈ l) (db : b.name ∈ S ∨ b.name ∈ m) : rankM ds S l a = rankM ds S m b ↔ varEq l m a.name b.name := by
  rw [rank_var ha, rank_var hb]
  unfold varEq
  by_cases h1 : a.name ∈ l
  · obtain ⟨p1, p2⟩ := rlast_lt h1
    rw [if_pos h1]
    by_cases h2 : b.name ∈ m
    · rw [if_pos h2]
      constructor
      · exact fun h => ⟨by omega, .inl p1⟩
      · exact fun h => by omega
    · obtain ⟨q1, q2⟩ := rlast_lt (db.resolve_right h2)
      rw [if_neg h2, rlast_no h2]
      constructor
      · omega
      · omega
  · obtain ⟨p1, p2⟩ := rlast_lt (da.resolve_right h1)
    rw [if_neg h1, rlast_no h1]
    by_cases h2 : b.name ∈ m
    · obtain ⟨q1, q2⟩ := rlast_lt h2
      rw [if_pos h2]
      constructor
      · omega
      · omega
    · rw [if_neg h2, rlast_no h2]
      have g1 := rlast_get (da.resolve_right h1)
      have g2 := rlast_get (db.resolve_right h2)
      constructor
      · intro h
        rw [h, g2] at g1
        exact ⟨rfl, .inr (Option.some.inj g1).symm⟩
      · rintro ⟨_, h | h⟩
        · omega
        · rw [h]
theorem mixed_rank (hlm : l.length = m.length) (ha : a.kind = 1) (hb : b.kind = 2) (da : a.name ∈ S ∨ a.name ∈ l) (db : ∃ d ∈ ds, b.name ∈ cnames d) : rankM ds S l a < rankM ds S m b := by
  obtain ⟨i', k', d', h1', h2', h3'⟩ := rank_con (S := S) (l := m) hb db
  rw [rank_var ha, h3']
  by_cases h1 : a.name ∈ l
  · have := rlast_lt h1
    rw [if_pos h1]
    omega
  · have := rlast_lt (da.resolve_right h1)
    rw [if_neg h1]
    omega
end

end Go.Vs.Tryz

/- Pairs of names, and to what two variables refer, walked. -/
namespace Go.Vs.Tryz
open Go Go.Vs
variable {A : Oracle}

def pairRow (p : Str × Str) : List Cell := [.str p.1, .str p.2]
def pairRows (l : List (Str × Str)) : List (List Cell) := l.map pairRow
@[simp] theorem pairRow_len (p : Str × Str) : (pairRow p).length = 2 := rfl
@[simp] theorem pairRows_len (l : List (Str × Str)) : (pairRows l).length = l.length := by simp [pairRows]
@[simp] theorem pairRows_get (l : List (Str × Str)) (i : Nat) : (pairRows l)[i]? = (l[i]?).map pairRow := by simp [pairRows]
@[simp] theorem okRows_pair (l : List (Str × Str)) : okRows 2 (wr (pairRows l)) = true := okRows_of l pairRow_len
@[simp] theorem pairRows_snoc (l : List (Str × Str)) (x : Str × Str) : wr (pairRows l) ++ [[W.c (.str x.1), W.c (.str x.2)]] = wr (pairRows (l ++ [x])) := by simp [pairRows, wr, pairRow]
@[simp] theorem fit_pair (l : List (Str × Str)) : rowsFit 2 (pairRows l) = true := fit_map pairRow_len l
@[simp] theorem wc_pair (p : Str × Str) : wc (pairRow p) = [.c (.str p.1), .c (.str p.2)] := rfl
abbrev pairsV (l : List (Str × Str)) : V := .sc (.c (.sl (pairRows l)))

theorem back149 (l : List (Str × Str)) : (K A).call 149 [pairsV l] [] = some (.sc (.clo 210 [true] [[.ptr 0 0]]), [.box [.c (.sl (pairRows l))]]) := by
  refine fn_of (vf := v149) (by kernel_rfl) rfl (by simp) ?_
  unfold v149
  simp (disch := first | omega | (simp; done) | (simp; omega))

set_option maxHeartbeats 2000000 in
theorem refer130 (l : List (Str × Str)) (s t : Str) (h : l.length ≤ 1073741824) :
    ∃ r, IffB (varEq (l.map (·.1)) (l.map (·.2)) s t) r ∧ (K A).call 130 [pairsV l, strV s, strV t] [] = some r := by
  refine fn_ofE _ (vf := v130) (by kernel_rfl) rfl (by simp) ?_
  have hb := back149 (A := A) l
  unfold v130
  simp (disch := first | omega | (simp; done) | (simp; omega)) [hb]
  refine wp_rangeB (by simp; rfl) (by omega) (by simp; rfl) (by simp; omega) (fun i st => (∀ j p, i ≤ j → l[j]? = some p → ¬ p.1 = s ∧ ¬ p.2 = t) ∧ (st = ⟨[(4, .sc (.ptr 64 0)), (5, .sc (.ptr 128 0)), (6, .sc (.ptr 192 0)), (10, .sc (.clo 210 [true] [[.un]]))], [(64, some (.box [.c (.str s)])), (128, some (.box [.c (.str t)])), (192, some (.box [.c (.bool false)]))]⟩ ∨ ∃ a b, st = ⟨[(4, .sc (.ptr 64 0)), (5, .sc (.ptr 128 0)), (6, .sc (.ptr 192 0)), (10, .sc (.clo 210 [true] [[.un]]))], [(64, some (.box [.c (.str s)])), (128, some (.box [.c (.str t)])), (192, some (.box [.c (.bool false)])), (384, some (.box [.c (.str a), .c (.str b)]))]⟩)) ?_ ?_ ?_
  · refine ⟨fun j x hj hx => ?_, by simp⟩
    have := (List.getElem?_eq_some_iff.1 hx).1
    simp at hj
    omega
  · rintro i st' row ⟨hn, hst⟩ hrow
    have hi : i < l.length := by
      have := (List.getElem?_eq_some_iff.1 hrow).1
      simpa using this
    obtain ⟨x, hx⟩ := get_of_lt (l := l) (i := i) hi
    simp [hx] at hrow
    subst hrow
    refine ⟨rfl, .ag (wc (pairRow x)), by simp, ?_⟩
    obtain ⟨x1, x2⟩ := x
    have hl1 : (l.map (·.1))[i]? = some x1 := by rw [List.getElem?_map, hx]; rfl
    have hl2 : (l.map (·.2))[i]? = some x2 := by rw [List.getElem?_map, hx]; rfl
    have r1 : x1 = s → rlast (l.map (·.1)) s = i := fun e => rlast_eq (e ▸ hl1) fun j y hj hy => by
      rw [List.getElem?_map] at hy
      obtain ⟨p, hp, rfl⟩ := Option.map_eq_some_iff.1 hy
      exact (hn j p hj hp).1
    have r2 : x2 = t → rlast (l.map (·.2)) t = i := fun e => rlast_eq (e ▸ hl2) fun j y hj hy => by
      rw [List.getElem?_map] at hy
      obtain ⟨p, hp, rfl⟩ := Option.map_eq_some_iff.1 hy
      exact (hn j p hj hp).2
    rcases hst with rfl | ⟨a, b, rfl⟩
    all_goals
      unfold l130_0
      by_cases q1 : x1 = s
      · have e1 := r1 q1
        by_cases q2 : x2 = t
        · have e2 := r2 q2
          simp (disch := first | omega | (simp; done) | (simp; omega)) [q1, q2]
          exact IffB.yes ⟨e1.trans e2.symm, .inl (by omega)⟩
        · simp (disch := first | omega | (simp; done) | (simp; omega)) [q1, q2]
          refine IffB.no fun hv => q2 ?_
          have h3 : rlast (l.map (·.2)) t = i := hv.1.symm.trans e1
          have hm : t ∈ l.map (·.2) := Classical.byContradiction fun hm => by rw [rlast_no hm] at h3; omega
          have h4 := rlast_get hm
          rw [h3, Int.toNat_natCast, hl2] at h4
          exact Option.some.inj h4
      · by_cases q2 : x2 = t
        · have e2 := r2 q2
          simp (disch := first | omega | (simp; done) | (simp; omega)) [q1, q2]
          refine IffB.no fun hv => q1 ?_
          have h3 : rlast (l.map (·.1)) s = i := hv.1.trans e2
          have hm : s ∈ l.map (·.1) := Classical.byContradiction fun hm => by rw [rlast_no hm] at h3; omega
          have h4 := rlast_get hm
          rw [h3, Int.toNat_natCast, hl1] at h4
          exact Option.some.inj h4
        · simp (disch := first | omega | (simp; done) | (simp; omega)) [q1, q2]
          intro j ya yb hj hy
          rcases Nat.lt_or_eq_of_le hj with h5 | rfl
          · exact hn j _ h5 hy
          · rw [hx] at hy
            cases hy
            exact ⟨q1, q2⟩
  · rintro st' ⟨hn, hst⟩
    have n1 : s ∉ l.map (·.1) := fun hm => by
      obtain ⟨p, hp, e⟩ := List.mem_map.1 hm
      obtain ⟨j, hj⟩ := List.mem_iff_getElem?.1 hp
      exact (hn j p (Nat.zero_le _) hj).1 e
    have n2 : t ∉ l.map (·.2) := fun hm => by
      obtain ⟨p, hp, e⟩ := List.mem_map.1 hm
      obtain ⟨j, hj⟩ := List.mem_iff_getElem?.1 hp
      exact (hn j p (Nat.zero_le _) hj).2 e
    have e1 := rlast_no n1
    have e2 := rlast_no n2
    rcases hst with rfl | ⟨a, b, rfl⟩
    all_goals
      by_cases q : s = t
      · subst q
        simp (disch := first | omega | (simp; done) | (simp; omega))
        exact IffB.yes ⟨e1.trans e2.symm, .inr rfl⟩
      · simp (disch := first | omega | (simp; done) | (simp; omega)) [q]
        exact IffB.no fun hv => hv.2.elim (fun h6 => by rw [e1] at h6; omega) q
end Go.Vs.Tryz

/- Comparing answers one of three numbers (plain). -/
namespace Go.Vs.Tryz
open Go Go.Vs

def one3 (x : Int) : Prop := -1 ≤ x ∧ x ≤ 1
theorem orI_one3 : ∀ {l : List Int}, (∀ x ∈ l, one3 x) → one3 (orI l)
  | [], _ => ⟨by decide, by decide⟩
  | a :: r, h => by
    rw [orI_cons]
    split
    · exact orI_one3 fun x hx => h x (List.mem_cons_of_mem _ hx)
    · exact h a List.mem_cons_self
theorem cmpI_one3 (a b : Int) : one3 (cmpI a b) := by
  unfold cmpI one3
  (repeat' split) <;> omega
end Go.Vs.Tryz

/- Comparing names and types by the program, walked: 0 exactly for the same. -/
namespace Go.Vs.Tryz
open Go Go.Vs
variable {A : Oracle}

/-- A number that is 0 exactly if P, and small. -/
def ZeroB (P : Prop) (r : V × List Obj) : Prop := ∃ n : Int, (n = 0 ↔ P) ∧ one3 n ∧ r = (intV n, [])

theorem isNaN248 (a : Str) : (K A).call 248 [strV a] [] = some (boolV false, []) := by
  refine fn_of (vf := v248) (by kernel_rfl) rfl (by simp) ?_
  unfold v248
  simp (disch := first | omega | (simp; done) | (simp; omega))

@[simp] theorem b_slss {a b : Str} : binV .lss 0 (.sc (.c (.str a))) (.sc (.c (.str b))) = some (.sc (.c (.bool (Op.bytesLess a b))), []) := by simp [binV, binW, isShift, strBin]
@[simp] theorem b_sgtr {a b : Str} : binV .gtr 0 (.sc (.c (.str a))) (.sc (.c (.str b))) = some (.sc (.c (.bool !(Op.bytesLess a b || a == b))), []) := by simp [binV, binW, isShift, strBin]
theorem less_self : ∀ a : Str, Op.bytesLess a a = false
  | [] => rfl
  | c :: r => by
    have ih := less_self r
    simp [Op.bytesLess, ih]

theorem compare215 (a b : Str) : ∃ r, ZeroB (a = b) r ∧ (K A).call 215 [strV a, strV b] [] = some r := by
  refine fn_ofE _ (vf := v215) (by kernel_rfl) rfl (by simp) ?_
  have h1 := isNaN248 (A := A) a
  have h2 := isNaN248 (A := A) b
  unfold v215
  by_cases he : a = b
  · subst he
    simp (disch := first | omega | (simp; done) | (simp; omega)) [h1, h2, less_self]
    exact ⟨0, by simp, ⟨by decide, by decide⟩, rfl⟩
  · cases hl : Op.bytesLess a b with
    | true =>
      simp (disch := first | omega | (simp; done) | (simp; omega)) [h1, h2, hl]
      exact ⟨-1, by simp [he], ⟨by decide, by decide⟩, rfl⟩
    | false =>
      have hb : (a == b) = false := beq_eq_false_iff_ne.2 he
      simp (disch := first | omega | (simp; done) | (simp; omega)) [h1, h2, hl, hb]
      exact ⟨1, by simp [he], ⟨by decide, by decide⟩, rfl⟩

set_option maxHeartbeats 2000000 in
theorem tcmp216 (l m : List Ty) (hl : l.length ≤ 1073741824) (ih : ∀ x ∈ l, ∀ b, ∃ r, ZeroB (x = b) r ∧ (K A).call 162 [tyV x, tyV b] [] = some r) :
    ∃ r, ZeroB (l = m) r ∧ (K A).call 216 [tysV l, tysV m, .sc (.c (.fn 162 [] []))] [] = some r := by
  refine fn_ofE _ (vf := v216) (by kernel_rfl) rfl (by simp) ?_
  unfold v216
  simp (disch := first | omega | (simp; done) | (simp; omega))
  refine wp_loopI (fun i s => (i ≤ m.length ∧ ∀ (j : Nat) x y, j < i → l[j]? = some x → m[j]? = some y → x = y) ∧ s = ⟨[(0, tysV l), (1, tysV m), (2, .sc (.c (.fn 162 [] []))), (11, tysV l), (12, intV l.length), (13, intV i)], []⟩) l.length ⟨by simp, by simp⟩ ?_ ?_
  · rintro i s hi ⟨⟨him, hs⟩, rfl⟩
    obtain ⟨x, hx⟩ := get_of_lt hi
    unfold l216_0
    by_cases hlt : i < m.length
    · obtain ⟨y, hy⟩ := get_of_lt (l := m) (i := i) hlt
      obtain ⟨_, ⟨n, hn, hb, rfl⟩, hc⟩ := ih x (List.mem_of_getElem? hx) y
      have hlt2 : ¬ (m.length : Int) ≤ i := by omega
      by_cases h0 : n = 0
      · have hxy := hn.1 h0
        subst h0
        simp (disch := first | omega | (simp; done) | (simp; omega)) [hi, hx, hy, hc, hlt, hlt2, -getElem?_pos]
        refine ⟨hlt, ?_⟩
        intro j x' y' hj hx' hy'
        by_cases hji : j = i
        · subst hji
          rw [hx] at hx'
          rw [hy] at hy'
          cases hx'
          cases hy'
          exact hxy
        · exact hs j x' y' (by omega) hx' hy'
      · simp (disch := first | omega | (simp; done) | (simp; omega)) [hi, hx, hy, hc, hlt, hlt2, h0, -getElem?_pos]
        refine ⟨n, ⟨fun h => absurd h h0, fun h => ?_⟩, hb, rfl⟩
        subst h
        rw [hx] at hy
        cases hy
        exact hn.2 rfl
    · have hlt2 : (m.length : Int) ≤ i := by omega
      simp (disch := first | omega | (simp; done) | (simp; omega)) [hi, hx, hlt, hlt2, -getElem?_pos]
      exact ⟨1, ⟨fun h => by omega, fun h => absurd (h ▸ hi) hlt⟩, ⟨by decide, by decide⟩, rfl⟩
  · rintro s ⟨⟨him, hs⟩, rfl⟩
    unfold l216_0
    by_cases hlt : l.length < m.length
    · simp (disch := first | omega | (simp; done) | (simp; omega)) [hlt]
      exact ⟨-1, ⟨fun h => by omega, fun h => by rw [h] at hlt; omega⟩, ⟨by decide, by decide⟩, rfl⟩
    · simp (disch := first | omega | (simp; done) | (simp; omega)) [hlt]
      exact ⟨0, ⟨fun _ => list_eq (by omega) fun i x y hx hy => hs i x y (List.getElem?_eq_some_iff.1 hx).1 hx hy, fun _ => rfl⟩, ⟨by decide, by decide⟩, rfl⟩

set_option maxRecDepth 10000 in
set_option maxHeartbeats 4000000 in
theorem tcmp162 : ∀ (n : Nat) (a b : Ty), a.size ≤ n → n ≤ 1073741824 → ∃ r, ZeroB (a = b) r ∧ (K A).call 162 [tyV a, tyV b] [] = some r := by
  intro n
  induction n with
  | zero =>
    intro a b ha
    have := a.size_pos
    omega
  | succ n ih =>
    intro a b ha hn
    have hal := a.args_lt
    refine fn_ofE _ (vf := v162) (by kernel_rfl) rfl (by simp) ?_
    have c1 := compare67 (A := A) a.kind b.kind
    obtain ⟨_, ⟨k2, h2, b2, rfl⟩, c2⟩ := compare215 (A := A) a.name b.name
    have c3 := compare67 (A := A) a.id b.id
    have c4 := compare67 (A := A) a.home b.home
    have c5 := compare67 (A := A) a.args.length b.args.length
    have c6 := or70 (A := A) [cmpI a.kind b.kind, k2, cmpI a.id b.id, cmpI a.home b.home, cmpI a.args.length b.args.length] (by simp)
    have h0 : orI [cmpI a.kind b.kind, k2, cmpI a.id b.id, cmpI a.home b.home, cmpI a.args.length b.args.length] = 0 ↔ a.kind = b.kind ∧ a.name = b.name ∧ a.id = b.id ∧ a.home = b.home ∧ a.args.length = b.args.length := by
      rw [orI_eq_zero]
      simp only [List.forall_mem_cons, cmpI_zero, h2, List.not_mem_nil, false_imp_iff, implies_true, and_true, Int.natCast_inj]
    have ho : one3 (orI [cmpI a.kind b.kind, k2, cmpI a.id b.id, cmpI a.home b.home, cmpI a.args.length b.args.length]) := by
      refine orI_one3 fun x hx => ?_
      simp only [List.mem_cons, List.not_mem_nil, or_false] at hx
      rcases hx with rfl | rfl | rfl | rfl | rfl
      · exact cmpI_one3 _ _
      · exact b2
      · exact cmpI_one3 _ _
      · exact cmpI_one3 _ _
      · exact cmpI_one3 _ _
    have hr : intRows [cmpI a.kind b.kind, k2, cmpI a.id b.id, cmpI a.home b.home, cmpI a.args.length b.args.length] = [[.int .i64 (cmpI a.kind b.kind)], [.int .i64 k2], [.int .i64 (cmpI a.id b.id)], [.int .i64 (cmpI a.home b.home)], [.int .i64 (cmpI a.args.length b.args.length)]] := rfl
    simp only [intsV, hr] at c6
    generalize orI [cmpI a.kind b.kind, k2, cmpI a.id b.id, cmpI a.home b.home, cmpI a.args.length b.args.length] = z at c6 h0 ho
    unfold v162
    by_cases hz : z = 0
    · obtain ⟨e1, e2, e3, e4, e5⟩ := h0.1 hz
      subst hz
      obtain ⟨_, ⟨q, hq, hb, rfl⟩, c7⟩ := tcmp216 (A := A) a.args b.args (by omega) (fun x hx b => ih x b (by have := Ty.arg_lt hx; omega) (by omega))
      simp (disch := first | omega | (simp; done) | (simp; omega)) [c1, c2, c3, c4, c5, c6, c7]
      exact ⟨q, hq.trans ⟨fun h => Ty.ext e1 e2 e3 e4 h, fun h => by rw [h]⟩, hb, rfl⟩
    · simp (disch := first | omega | (simp; done) | (simp; omega)) [c1, c2, c3, c4, c5, c6, hz]
      exact ⟨z, ⟨fun h => absurd h hz, fun h => absurd (h0.2 ⟨by rw [h], by rw [h], by rw [h], by rw [h], by rw [h]⟩) hz⟩, ho, rfl⟩

theorem tequal114 (a b : Ty) (ha : a.size ≤ 1073741824) : ∃ r, IffB (a = b) r ∧ (K A).call 114 [tyV a, tyV b] [] = some r := by
  refine fn_ofE _ (vf := v114) (by kernel_rfl) rfl (by simp) ?_
  obtain ⟨_, ⟨q, hq, _, rfl⟩, hc⟩ := tcmp162 (A := A) 1073741824 a b ha (by omega)
  unfold v114
  by_cases h0 : q = 0
  · simp (disch := first | omega | (simp; done) | (simp; omega)) [hc, h0]
    exact IffB.yes (hq.1 h0)
  · simp (disch := first | omega | (simp; done) | (simp; omega)) [hc, h0]
    exact IffB.no fun h => h0 (hq.2 h)
end Go.Vs.Tryz

/- Two terms compare as equal exactly if they are alpha-equal; comparisons chain (plain). -/
namespace Go.Vs.Tryz
open Go Go.Vs

def Heady (e : Exp) : Prop := e.kind = 1 ∨ e.kind = 2 ∨ e.kind = 5

end Go.Vs.Tryz

/- Two terms compare as equal exactly if they are alpha-equal; comparisons chain: the induction (plain). -/
namespace Go.Vs.Tryz
open Go Go.Vs

theorem good.app {e : Exp} (g : good e) (h : e.kind = 5) : ∃ f x, e.kids = [f, x] ∧ Heady f ∧ good f ∧ good x ∧ e.arms = [] := by
  rcases g.cases with h1 | h1 | h1 | ⟨_, _, ⟨f, x, h2, h3, h4, h5⟩, h6⟩ | h1
  · omega
  · omega
  · omega
  · exact ⟨f, x, h2, h3, h4, h5, h6⟩
  · omega
theorem good.case {e : Exp} (g : good e) (h : e.kind = 8) : ∃ x, e.kids = [x] ∧ x.kind = 1 ∧ good x ∧ e.arms ≠ [] ∧ ∀ a ∈ e.arms, good a.2 := by
  rcases g.cases with h1 | h1 | h1 | h1 | ⟨_, _, ⟨x, h2, h3, h4⟩, h5, h6⟩
  · omega
  · omega
  · omega
  · omega
  · exact ⟨x, h2, h3, h4, h5, fun a ha => (h6 a ha).2.2.2.2⟩

/-- The parts of an analysis that count. -/
structure CaseP (ds : List DataD) (N : List Str) (e x : Exp) (d : DataD) : Prop where
  kids : e.kids = [x]
  kind : x.kind = 1
  good : Go.Vs.Tryz.good x
  sc : inScope ds x N
  ne : e.arms ≠ []
  mem : d ∈ ds
  cons : (e.arms.map fun a => a.1.con) = cnames d
  vars : (e.arms.map fun a => a.1.vars.length) = d.cons.map fun c => c.fields.length
  arms : ∀ (i : Nat) a, e.arms[i]? = some a → Go.Vs.Tryz.good a.2 ∧ inScope ds a.2 (N ++ a.1.vars) ∧ a.2.weight < e.weight
theorem CaseP.con0 {ds : List DataD} {N : List Str} {e x : Exp} {d : DataD} (h : CaseP ds N e x d) : ∃ s, (cnames d)[0]? = some s ∧ Go.Vs.Tryz.con0 e = conExp s := by
  cases ha : e.arms with
  | nil => exact absurd ha h.ne
  | cons a r =>
    refine ⟨a.1.con, ?_, ?_⟩
    · rw [← h.cons, ha]; rfl
    · unfold Go.Vs.Tryz.con0
      rw [ha]; rfl
/-- Analyses whose first arms have constructors of the same rank have the same arms. -/
theorem CaseP.same {ds : List DataD} {S N l m : List Str} {a b x y : Exp} {d d' : DataD} (hu : uniq ds) (hlm : l.length = m.length) (ha : CaseP ds (N ++ l) a x d) (hb : CaseP ds (N ++ m) b y d') : rankM ds S l (Go.Vs.Tryz.con0 a) = rankM ds S m (Go.Vs.Tryz.con0 b) ↔ d = d' := by
  obtain ⟨s, h1, h2⟩ := ha.con0
  obtain ⟨t, h3, h4⟩ := hb.con0
  have m1 : s ∈ cnames d := List.mem_of_getElem? h1
  have m2 : t ∈ cnames d' := List.mem_of_getElem? h3
  rw [h2, h4, con_rank (a := conExp s) (b := conExp t) hlm rfl rfl ⟨d, ha.mem, m1⟩ ⟨d', hb.mem, m2⟩]
  show s = t ↔ _
  constructor
  · rintro rfl
    exact hu d ha.mem d' hb.mem s m1 m2
  · rintro rfl
    rw [h1] at h3
    exact Option.some.inj h3
theorem CaseP.len {ds : List DataD} {N : List Str} {e x : Exp} {d : DataD} (h : CaseP ds N e x d) : e.arms.length = d.cons.length := by
  have := congrArg List.length h.vars
  simpa using this

end Go.Vs.Tryz

/- The canonical form of a well-made term is well made, and its names are visible (plain). -/
namespace Go.Vs.Tryz
open Go Go.Vs

theorem good.wf {e : Exp} : good e → e.wf := by
  induction e using Exp.ind with
  | h e ih =>
    intro g
    rw [Exp.wf_eq]
    refine ⟨?_, fun x hx => ih x hx (g.child hx)⟩
    rcases g.cases with ⟨k, _, h, h2⟩ | ⟨k, _, h, h2⟩ | ⟨k, _, ⟨x, h, _⟩, h2⟩ | ⟨k, _, ⟨f, x, h, _⟩, h2⟩ | ⟨k, _, ⟨x, h, _⟩, _⟩
    all_goals refine ⟨fun h8 => ?_, fun h8 => ?_, fun h1 => ?_⟩ <;> first | omega | assumption | (rw [h]; rfl)

theorem zip_left {α β γ : Type} {f : α → γ} : ∀ {l : List α} {m : List β}, l.length = m.length → List.zipWith (fun a _ => f a) l m = l.map f
  | [], m, _ => by simp
  | a :: l, [], h => by simp at h
  | a :: l, b :: m, h => by
    simp only [List.zipWith_cons_cons, List.map_cons]
    rw [zip_left (by simpa using h)]

theorem canon_weight (taken : List Str) (e : Exp) : ∀ old names, e.wf → (canonM taken e old names).weight = e.weight := by
  induction e using Exp.ind with
  | h e ih =>
    intro old names hw
    by_cases h : e.kind = 1
    · rw [canonM_var h]
      split
      · rw [Exp.weight_eq, e.weight_eq]
        rfl
      · rfl
    · obtain ⟨_, hc, _⟩ := canon_parts (taken := taken) (old := old) (names := names) h hw.one
      rw [Exp.weight_eq, e.weight_eq, hc]
      have ha : ((canonM taken e old names).arms.map fun a => a.1.vars.length) = e.arms.map fun a => a.1.vars.length := by
        rw [canonM_no h, arms_mk, List.map_zipWith]
        simp only [news_len]
        exact zip_left (f := fun a : ArmH × Exp => a.1.vars.length) (by rw [List.length_drop, canonC_len]; omega)
      have hcw : (canonC taken e old names).map Exp.weight = e.children.map Exp.weight := by
        refine List.ext_getElem? fun i => ?_
        rw [List.getElem?_map, List.getElem?_map]
        cases hx : e.children[i]? with
        | none =>
          rw [List.getElem?_eq_none (by rw [canonC_len, ← e.children_len]; exact List.getElem?_eq_none_iff.1 hx)]
        | some x =>
          rw [canonC_get hx, Option.map_some, Option.map_some, ih x (List.mem_of_getElem? hx) _ _ (hw.child (List.mem_of_getElem? hx))]
      rw [ha, hcw]
end Go.Vs.Tryz
