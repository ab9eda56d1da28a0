/- NamesAlpha, walked: it says true. -/
import Derived.Test.YtchkkbbchpnabaaGreatDoorRBc
import Derived.Test.YtchkkbbchpnabaaGreatDoorRDc
import Derived.Test.YtchkkbbchpnabaaGreatDoorR6c
import Derived.Test.YtchkkbbchpnabaaGreatDoorR4c
import Derived.Test.YtchkkbbchpnabaaGreatDoorRCc
import Derived.Test.YtchkkbbchpnabaaGreatDoorR1c
set_option linter.unusedSimpArgs false
set_option linter.unusedVariables false
set_option linter.deprecated false

/- NamesAlpha, walked: it says true. -/
namespace Go.Vs.Tryz
open Go Go.Vs
variable {A : Oracle}

/- ## Shapes stay (plain) -/
theorem rawE1.shp1 {ds : List DataD} {e : Exp} (h : rawE1 ds e) : shp1 e := by
  refine ⟨h.wf1, ?_, ?_⟩
  · intro hk
    exact ⟨h.2.2.2.2.1 (by omega), h.2.2.2.1 (by omega)⟩
  · obtain ⟨_, _, _, _, _, h⟩ := h
    unfold kidsN
    rcases h with ⟨k, _, hk, ha⟩ | ⟨k, _, hk, ha⟩ | ⟨k, _, hk, ha⟩ | ⟨k, _, ⟨x, hk⟩, ha⟩ | ⟨k, _, ⟨x, y, hk⟩, ha⟩ | ⟨k, _, ⟨x, y, hk⟩, ha⟩ | ⟨k, _, ⟨x, hk⟩, ha⟩ | ⟨k, _, x, hk⟩
    · rw [hk, if_neg (by omega), if_neg (by omega)]; rfl
    · rw [hk, if_neg (by omega), if_neg (by omega)]; rfl
    · rw [hk, if_neg (by omega), if_neg (by omega)]; rfl
    · rw [hk, if_neg (by omega), if_pos (by omega)]; rfl
    · rw [hk, if_pos (by omega)]; rfl
    · rw [hk, if_pos (by omega)]; rfl
    · rw [hk, if_neg (by omega), if_pos (by omega)]; rfl
    · rw [hk, if_neg (by omega), if_pos (by omega)]; rfl
theorem rawE.shp {ds : List DataD} {e : Exp} : rawE ds e → shp e := by
  induction e using Exp.ind with
  | h e ih =>
    intro h
    rw [shp_eq]
    exact ⟨h.one.shp1, fun x hx => ih x hx (h.child hx)⟩

theorem headEq.shp1 {e c : Exp} (h : headEq e c) (hk : e.kind ≠ 1) (hs : shp1 e) : shp1 c := by
  obtain ⟨h1, h2, h3, h4, h5⟩ := h
  obtain ⟨⟨w1, w2, w3⟩, _, w5⟩ := hs
  refine ⟨⟨fun h8 => ?_, fun h8 => ?_, fun h8 => absurd (h1.trans h8) hk⟩, fun h8 => absurd (h1.trans h8) hk, ?_⟩
  · rw [← h4]; exact w1 (h1.trans h8)
  · have := w2 (by rw [h1]; exact h8)
    rw [this] at h5
    exact List.length_eq_zero_iff.1 h5.symm
  · rw [← h4, w5, h1]
theorem canon_shp (taken : List Str) (e : Exp) : ∀ old names, shp e → shp (canonM taken e old names) := by
  induction e using Exp.ind with
  | h e ih =>
    intro old names h
    by_cases hk : e.kind = 1
    · rw [canonM_var hk]
      split
      · rw [shp_eq]
        exact ⟨h.one, fun x hx => h.child hx⟩
      · exact h
    · obtain ⟨p1, p2, _⟩ := canon_parts (taken := taken) (old := old) (names := names) hk h.one.1
      rw [shp_eq]
      refine ⟨p1.shp1 hk h.one, fun y hy => ?_⟩
      rw [p2] at hy
      obtain ⟨i, hi⟩ := List.mem_iff_getElem?.1 hy
      have hlt : i < e.children.length := by
        rcases Nat.lt_or_ge i (canonC taken e old names).length with h2 | h2
        · rwa [canonC_len, ← e.children_len] at h2
        · rw [List.getElem?_eq_none h2] at hi; cases hi
      obtain ⟨x, hx⟩ := get_of_lt hlt
      rw [canonC_get hx] at hi
      cases hi
      exact ih x (List.mem_of_getElem? hx) _ _ (h.child (List.mem_of_getElem? hx))
theorem canon_tyBd (taken : List Str) (e : Exp) : ∀ old names, e.wf → tyBd e → tyBd (canonM taken e old names) := by
  induction e using Exp.ind with
  | h e ih =>
    intro old names hw h
    by_cases hk : e.kind = 1
    · rw [canonM_var hk]
      split
      · rw [tyBd_eq]
        exact ⟨h.one, fun x hx => h.child hx⟩
      · exact h
    · obtain ⟨p1, p2, _⟩ := canon_parts (taken := taken) (old := old) (names := names) hk hw.one
      rw [tyBd_eq]
      refine ⟨by rw [← p1.2.2.1]; exact h.one, fun y hy => ?_⟩
      rw [p2] at hy
      obtain ⟨i, hi⟩ := List.mem_iff_getElem?.1 hy
      have hlt : i < e.children.length := by
        rcases Nat.lt_or_ge i (canonC taken e old names).length with h2 | h2
        · rwa [canonC_len, ← e.children_len] at h2
        · rw [List.getElem?_eq_none h2] at hi; cases hi
      obtain ⟨x, hx⟩ := get_of_lt hlt
      rw [canonC_get hx] at hi
      cases hi
      exact ih x (List.mem_of_getElem? hx) _ _ (hw.child (List.mem_of_getElem? hx)) (h.child (List.mem_of_getElem? hx))
theorem strip_shp (e : Exp) : shp e → shp (stripM e) := by
  induction e using Exp.ind with
  | h e ih =>
    intro h
    obtain ⟨h1, h2, h3, h4, h5, h6, h7, h8⟩ := strip_parts e
    obtain ⟨⟨w1, w2, w3⟩, w4, w5⟩ := h.one
    rw [shp_eq]
    refine ⟨⟨⟨fun k => by rw [h5]; exact w1 (h1 ▸ k), fun k => ?_, fun k => ?_⟩, fun k => by rw [h3, h4]; exact w4 (h1 ▸ k), by rw [h5, h1]; exact w5⟩, fun y hy => ?_⟩
    · have := w2 (h1 ▸ k)
      rw [this] at h6
      exact List.length_eq_zero_iff.1 h6
    · have := w3 (h1 ▸ k)
      rw [this] at h5
      exact List.length_eq_zero_iff.1 h5
    · rw [h7] at hy
      obtain ⟨x, hx, rfl⟩ := List.mem_map.1 hy
      exact ih x hx (h.child hx)
theorem strip_tyBd (e : Exp) : tyBd e → tyBd (stripM e) := by
  induction e using Exp.ind with
  | h e ih =>
    intro h
    obtain ⟨h1, h2, h3, h4, h5, h6, h7, h8⟩ := strip_parts e
    rw [tyBd_eq]
    refine ⟨by rw [h4]; exact h.one, fun y hy => ?_⟩
    rw [h7] at hy
    obtain ⟨x, hx, rfl⟩ := List.mem_map.1 hy
    exact ih x hx (h.child hx)
theorem canonT_shp {e : Exp} (taken : List Str) (h : shp e) : shp (canonT e taken) := canon_shp _ _ _ _ (strip_shp e h)
theorem canonT_tyBd {e : Exp} (taken : List Str) (hw : e.wf) (h : tyBd e) : tyBd (canonT e taken) := canon_tyBd _ _ _ _ (strip_wf e hw) (strip_tyBd e h)
theorem canonT_weight {e : Exp} (taken : List Str) (hw : e.wf) : (canonT e taken).weight = e.weight := by
  unfold canonT
  rw [canon_weight _ _ _ _ (strip_wf e hw), strip_weight]

/-- What is true is answered true. -/
theorem IffB.get {P : Prop} {r : V × List Obj} (h : IffB P r) (hp : P) : r = (boolV true, []) := by
  obtain ⟨v, hv, rfl⟩ := h
  rw [hv.2 hp]
theorem IffB.eq {P : Prop} {r r' : V × List Obj} (h : IffB P r) (h' : IffB P r') : ∃ v, r = (boolV v, []) ∧ r' = (boolV v, []) := by
  obtain ⟨v, hv, rfl⟩ := h
  obtain ⟨v', hv', rfl⟩ := h'
  refine ⟨v, rfl, ?_⟩
  cases v <;> cases v' <;> simp_all

end Go.Vs.Tryz

/- Proper expressions, a part put in another's place, what covers what: walked. -/
namespace Go.Vs.Tryz
open Go Go.Vs
variable {A : Oracle}

theorem setRow_eq {α : Type} : ∀ (l : List α) (i : Nat) (a : α), setRow l i a = l.set i a
  | [], _, _ => by simp [setRow]
  | _ :: _, 0, _ => by simp [setRow]
  | _ :: r, n + 1, a => by simp [setRow, setRow_eq r n a]
theorem wr_setRow (rows : List (List Cell)) (i : Nat) (c : List Cell) : setRow (wr rows) i (wc c) = wr (rows.set i c) := by
  rw [setRow_eq]
  simp [wr, List.map_set]

def ImpB (P : Prop) (r : V × List Obj) : Prop := ∃ v : Bool, (v = true → P) ∧ r = (boolV v, [])
def inj (l : List Str) : Prop := ∀ (i j : Nat) s, l[i]? = some s → l[j]? = some s → i = j
/-- No arm has the same variable twice. -/
def properP (e : Exp) : Prop := e.fold fun e l => (∀ a ∈ e.arms, inj a.1.vars) ∧ ∀ p ∈ l, p
theorem properP_eq (e : Exp) : properP e = ((∀ a ∈ e.arms, inj a.1.vars) ∧ ∀ x ∈ e.children, properP x) := by
  have := Exp.fold_eq (fun e (l : List Prop) => (∀ a ∈ e.arms, inj a.1.vars) ∧ ∀ p ∈ l, p) e
  unfold properP
  rw [this]
  simp only [List.forall_mem_map]

set_option maxHeartbeats 4000000 in
theorem proper14 (e : Exp) : e.weight ≤ 687194767360 → ∃ r, ImpB (properP e) r ∧ (K A).call 10 [expV e] [] = some r := by
  induction e using Exp.ind with
  | h e ih =>
  intro hl
  refine fn_ofE _ (vf := v10) (by kernel_rfl) rfl (by simp) ?_
  have hle := e.children_le
  rw [e.children_len] at hle
  have hc := children50 (A := A) e (by omega)
  have no : ImpB (properP e) (boolV false, []) := ⟨false, (by simp), rfl⟩
  have yes : (∀ a ∈ e.arms, inj a.1.vars) → (∀ x ∈ e.children, properP x) → ImpB (properP e) (boolV true, []) := fun h1 h2 => ⟨true, fun _ => by rw [properP_eq]; exact ⟨h1, h2⟩, rfl⟩
  generalize properP e = P at no yes ⊢
  unfold v10
  simp (disch := first | omega | (simp; done) | (simp; omega))
  refine wp_loopI (fun i s => (∀ (j : Nat) a, j < i → e.arms[j]? = some a → inj a.1.vars) ∧ s = ⟨[(1, .sc (.ptr 64 0)), (3, intV i)], [(64, some (.box (wc e.row)))]⟩) e.arms.length ⟨by omega, by simp⟩ ?_ ?_
  · rintro i s hi ⟨hJ, rfl⟩
    obtain ⟨a, ha⟩ := get_of_lt hi
    have hv := Exp.vars_le (List.mem_of_getElem? ha)
    unfold l10_2
    simp (disch := first | omega | (simp; done) | (simp; omega)) [hi, ha, -getElem?_pos]
    refine wp_loopI (fun k s => (∀ (p q : Nat) u, q < k → p < q → a.1.vars[p]? = some u → a.1.vars[q]? = some u → False) ∧ s = ⟨[(1, .sc (.ptr 64 0)), (3, intV i), (4, strsV a.1.vars), (5, intV k)], [(64, some (.box (wc e.row)))]⟩) a.1.vars.length ⟨fun p q u h => by omega, by simp⟩ ?_ ?_
    · rintro k s hk ⟨hK, rfl⟩
      obtain ⟨x, hx⟩ := get_of_lt hk
      unfold l10_1
      simp (disch := first | omega | (simp; done) | (simp; omega)) [hi, ha, hk, -getElem?_pos]
      refine wp_loopI (fun j s => (∀ (p : Nat), p < j → a.1.vars[p]? ≠ some x) ∧ s = ⟨[(1, .sc (.ptr 64 0)), (3, intV i), (4, strsV a.1.vars), (5, intV k), (6, intV j)], [(64, some (.box (wc e.row)))]⟩) k ⟨fun p h => by omega, by simp⟩ ?_ ?_
      · rintro j s hj ⟨hQ, rfl⟩
        obtain ⟨y, hy⟩ := get_of_lt (l := a.1.vars) (i := j) (by omega)
        unfold l10_0
        by_cases hxy : y = x
        · simp (disch := first | omega | (simp; done) | (simp; omega)) [hj, hx, hy, hxy, -getElem?_pos]
          exact no
        · have hQ' : ∀ (p : Nat), p < j + 1 → a.1.vars[p]? ≠ some x := by
            intro p hp
            rcases Nat.lt_or_eq_of_le (Nat.le_of_lt_succ hp) with h | rfl
            · exact hQ p h
            · rw [hy]
              exact fun q => hxy (Option.some.inj q)
          simp (disch := first | omega | (simp; done) | (simp; omega)) [hj, hx, hy, hxy, -getElem?_pos]
          simpa using hQ'
      · rintro s ⟨hQ, rfl⟩
        have hK' : ∀ (p q : Nat) u, q < k + 1 → p < q → a.1.vars[p]? = some u → a.1.vars[q]? = some u → False := by
          intro p q u hq hpq h1 h2
          rcases Nat.lt_or_eq_of_le (Nat.le_of_lt_succ hq) with h | rfl
          · exact hK p q u h hpq h1 h2
          · rw [hx] at h2
            cases h2
            exact hQ p hpq h1
        unfold l10_0
        simp (disch := first | omega | (simp; done) | (simp; omega))
        exact hK'
    · rintro s ⟨hK, rfl⟩
      have hJ' : ∀ (j : Nat) b, j < i + 1 → e.arms[j]? = some b → inj b.1.vars := by
        intro j b hj hb
        rcases Nat.lt_or_eq_of_le (Nat.le_of_lt_succ hj) with h | rfl
        · exact hJ j b h hb
        · rw [ha] at hb
          cases hb
          intro p q u hp hq
          rcases Nat.lt_trichotomy p q with h | h | h
          · exact (hK p q u (List.getElem?_eq_some_iff.1 hq).1 h hp hq).elim
          · exact h
          · exact (hK q p u (List.getElem?_eq_some_iff.1 hp).1 h hq hp).elim
      unfold l10_1
      simp (disch := first | omega | (simp; done) | (simp; omega))
      intro j b1 b2 hj hb
      exact hJ' j (b1, b2) hj hb
  · rintro s ⟨hJ, rfl⟩
    have hA : ∀ a ∈ e.arms, inj a.1.vars := fun a ha => by
      obtain ⟨j, hj⟩ := List.mem_iff_getElem?.1 ha
      exact hJ j a (List.getElem?_eq_some_iff.1 hj).1 hj
    unfold l10_2
    simp (disch := first | omega | (simp; done) | (simp; omega)) [hc]
    refine wp_loopI (fun i s => (∀ (j : Nat) x, j < i → e.children[j]? = some x → properP x) ∧ s = ⟨[(7, .sc (.arr 2912 e.children.length)), (8, intV i)], [(2912, some (.arr 11 (wr (Exp.rows e.children)) 0))]⟩) e.children.length ⟨by omega, by simp⟩ ?_ ?_
    · rintro i s hi ⟨hX, rfl⟩
      obtain ⟨x, hx⟩ := get_of_lt hi
      have hmem := List.mem_of_getElem? hx
      obtain ⟨_, ⟨b, hb, rfl⟩, h17⟩ := ih x hmem (by have := Exp.child_lt hmem; omega)
      rw [e.children_len] at hi
      have hi' : (i : Int) < (e.kids.length : Int) + e.arms.length := by omega
      unfold l10_3
      cases b with
      | true =>
        simp (disch := first | omega | (simp; done) | (simp; omega)) [hi', hx, h17, -getElem?_pos]
        intro j y hj hy
        rcases Nat.lt_or_eq_of_le (Nat.le_of_lt_succ hj) with h | rfl
        · exact hX j y h hy
        · rw [hx] at hy
          cases hy
          exact hb rfl
      | false =>
        simp (disch := first | omega | (simp; done) | (simp; omega)) [hi', hx, h17, -getElem?_pos]
        exact no
    · rintro s ⟨hX, rfl⟩
      unfold l10_3
      simp (disch := first | omega | (simp; done) | (simp; omega))
      exact yes hA fun x hx => by
        obtain ⟨j, hj⟩ := List.mem_iff_getElem?.1 hx
        exact hX j x (List.getElem?_eq_some_iff.1 hj).1 hj


theorem sum_set_le {l : List Exp} {i : Nat} {x y : Exp} (hx : l[i]? = some x) : ((l.set i y).map Exp.weight).sum + x.weight = (l.map Exp.weight).sum + y.weight := by
  induction l generalizing i with
  | nil => cases hx
  | cons a r ih =>
    cases i with
    | zero =>
      simp only [List.getElem?_cons_zero, Option.some.injEq] at hx
      subst hx
      simp only [List.set_cons_zero, List.map_cons, List.sum_cons]
      omega
    | succ i =>
      have := ih (i := i) (by simpa using hx)
      simp only [List.set_cons_succ, List.map_cons, List.sum_cons]
      omega
theorem withset_weight {e x y : Exp} {i : Nat} (hx : e.children[i]? = some x) : (withM e (e.children.set i y)).weight + x.weight = e.weight + y.weight := by
  have hl : (e.children.set i y).length = e.kids.length + e.arms.length := by rw [List.length_set, e.children_len]
  have := sum_set_le (y := y) hx
  rw [with_weight hl, e.weight_eq]
  omega

/-- Made of e by putting holes: it covers what e is alpha-equal to. -/
def Cov (e m : Exp) : Prop := ∀ c l r, alphaP e c l r → covP true m c l r
theorem Cov.refl (e : Exp) : Cov e e := fun c l r h => alpha_cov true e c l r h
theorem Cov.set {e y z : Exp} {k : Nat} (hk : e.children[k]? = some y) (hz : Cov y z) : Cov e (withM e (e.children.set k z)) := by
  intro c l r h
  have hl : (e.children.set k z).length = e.kids.length + e.arms.length := by rw [List.length_set, e.children_len]
  obtain ⟨p1, p2, p3, p4⟩ := with_parts hl
  rw [alphaP_eq] at h
  obtain ⟨hh, h1, h2, h3⟩ := h
  rw [covP_eq]
  refine .inr ⟨⟨hh.1, hh.2.1, hh.2.2.1, by rw [p1]; exact hh.2.2.2.1, by rw [p2]; exact hh.2.2.2.2⟩, h1, h2, fun k1 k2 => ?_⟩
  obtain ⟨ha, hc⟩ := h3 k1 k2
  refine ⟨fun i q s hq hs => ?_, fun i u v hu hv => ?_⟩
  · have e1 := p4 i
    rw [hq] at e1
    cases h5 : e.arms[i]? with
    | none => rw [h5] at e1; simp at e1
    | some a =>
      rw [h5] at e1
      simp only [Option.map_some, Option.some.injEq] at e1
      rw [e1]
      exact ha i a s h5 hs
  · rw [p3] at hu
    rw [with_bound hl]
    by_cases hik : i = k
    · subst hik
      rw [List.getElem?_set_self (List.getElem?_eq_some_iff.1 hk).1] at hu
      cases hu
      exact hz v _ _ (hc i y v hk hv)
    · rw [List.getElem?_set_ne (fun q => hik q.symm)] at hu
      exact alpha_cov true u v _ _ (hc i u v hu hv)
theorem with_shp2 {e : Exp} {cs : List Exp} (h : cs.length = e.kids.length + e.arms.length) (he : shp e) (hne : e.children ≠ []) (hc : ∀ c ∈ cs, shp c) : shp (withM e cs) := by
  obtain ⟨p1, p2, p3, p4⟩ := with_parts h
  have hk : e.kind ≠ 1 := fun hk => hne (by rw [Exp.children, he.one.1.2.2 hk, he.one.1.2.1 (by rw [hk]; decide)]; rfl)
  rw [shp_eq, p3]
  exact ⟨(with_head h).1.shp1 hk he.one, hc⟩
theorem with_tyBd2 {e : Exp} {cs : List Exp} (h : cs.length = e.kids.length + e.arms.length) (he : tyBd e) (hc : ∀ c ∈ cs, tyBd c) : tyBd (withM e cs) := by
  obtain ⟨p1, p2, p3, p4⟩ := with_parts h
  rw [tyBd_eq, p3]
  exact ⟨he.one, hc⟩
/-- Of the shape that is asked for. -/
def okX (e : Exp) : Prop := shp e ∧ tyBd e
theorem okX.child {e x : Exp} (h : okX e) (hx : x ∈ e.children) : okX x := ⟨h.1.child hx, h.2.child hx⟩
def PutR (e0 : Exp) (B : Nat) (r : V × List Obj) : Prop := ∃ e b, okX e ∧ Cov e0 e ∧ e.weight ≤ B ∧ r = (.tu [expV e, boolV b], [])
set_option maxHeartbeats 8000000 in
theorem put11 (x : Exp) (hx : okX x) (hx10 : x.kind = 10) (hxw : x.weight ≤ 1000000) : ∀ (path : List Int) (e : Exp), okX e → e.weight ≤ 1000000 → path.length ≤ 1000000 →
    ∃ r, PutR e (e.weight + x.weight) r ∧ (K A).call 11 [expV e, intsV path, expV x] [] = some r := by
  intro path
  induction path with
  | nil =>
    intro e he hw _
    have hn : intRows [] = [] := rfl
    refine fn_ofE _ (vf := v11) (by kernel_rfl) rfl (by simp) ?_
    unfold v11
    simp (disch := first | omega | (simp; done) | (simp; omega)) [hn]
    exact ⟨x, true, hx, fun c l r _ => by rw [covP_eq]; exact .inl ⟨rfl, hx10⟩, by omega, rfl⟩
  | cons k path ih =>
    intro e he hw hpl
    have hpl' : path.length + 1 ≤ 1000000 := by simpa using hpl
    have hp0 : ¬ (path.length : Int) + 1 = 0 := by omega
    have hle := e.children_le
    have hcl := e.children_len
    have hc := children50 (A := A) e (by omega)
    have hir : intRows (k :: path) = intRow k :: intRows path := rfl
    have hir0 : ∀ k, ([Cell.int .i64 k] :: intRows path)[0]? = some [Cell.int .i64 k] := fun _ => rfl
    have hirk : ∀ k, intRow k = [.int .i64 k] := fun _ => rfl
    have bad : PutR e (e.weight + x.weight) (.tu [expV e, boolV false], []) := ⟨e, false, he, Cov.refl e, by omega, rfl⟩
    refine fn_ofE _ (vf := v11) (by kernel_rfl) rfl (by simp) ?_
    unfold v11
    by_cases hk0 : k < 0
    · simp (disch := first | omega | (simp; done) | (simp; omega)) [hir, hir0, hirk, hp0, hc, hk0]
      exact bad
    · by_cases hk1 : (e.kids.length : Int) + e.arms.length ≤ k
      · simp (disch := first | omega | (simp; done) | (simp; omega)) [hir, hir0, hirk, hp0, hc, hk0, hk1, -getElem?_pos]
        exact bad
      · obtain ⟨j, rfl⟩ : ∃ j : Nat, k = j := ⟨k.toNat, by omega⟩
        obtain ⟨y, hy⟩ := get_of_lt (l := e.children) (i := j) (by omega)
        have hym := List.mem_of_getElem? hy
        have hyw := Exp.child_lt hym
        obtain ⟨_, ⟨z, b, z1, zc, z2, rfl⟩, hz⟩ := ih y (he.child hym) (by omega) (by omega)
        have hsl1 : ∀ L, slice1 L 1 (.sc (.c (.sl ([.int .i64 j] :: intRows path)))) (some (.sc (.c (.int .i64 1)))) none none = some (intsV path, []) := fun L => by
          have hfit : rowsFit 1 ([Cell.int .i64 (j : Int)] :: intRows path) = true := fit_map (f := intRow) (fun _ => rfl) ((j : Int) :: path)
          have := slice_from (L := L) (s := 1) (n := 1) (k := .i64) (rows := [Cell.int .i64 (j : Int)] :: intRows path) (by simp)
          rw [hfit] at this
          simpa using this
        have hk1' : ¬ (e.children.length ≤ j) := by omega
        have hk2' : ¬ (e.kids.length + e.arms.length ≤ j) := by omega
        cases b with
        | false =>
          simp (disch := first | omega | (simp; done) | (simp; omega)) [hir, hir0, hirk, hp0, hc, hk0, hk1, hk1', hk2', hsl1, hy, hz, -getElem?_pos]
          exact bad
        | true =>
          have hsl : (e.children.set j z).length = e.kids.length + e.arms.length := by rw [List.length_set, hcl]
          have hwi := with92 (A := A) e (e.children.set j z) hsl (by omega)
          have hset : (Exp.rows e.children).set j z.row = Exp.rows (e.children.set j z) := by simp [Exp.rows_map]
          have hres : PutR e (e.weight + x.weight) (.tu [expV (withM e (e.children.set j z)), boolV true], []) := ⟨_, true, ⟨with_shp2 hsl he.1 (fun h => by rw [h] at hy; cases hy) fun c hcm => by
            rcases List.mem_or_eq_of_mem_set hcm with hcm | hcm
            · exact he.1.child hcm
            · exact hcm ▸ z1.1, with_tyBd2 hsl he.2 fun c hcm => by
            rcases List.mem_or_eq_of_mem_set hcm with hcm | hcm
            · exact he.2.child hcm
            · exact hcm ▸ z1.2⟩, Cov.set hy zc, by have := withset_weight (y := z) hy; omega, rfl⟩
          simp (disch := first | omega | (simp; done) | (simp; omega)) [hir, hir0, hirk, hp0, hc, hk0, hk1, hk1', hk2', hsl1, hy, hz, hwi, wr_setRow, hset, -getElem?_pos]
          exact hres
end Go.Vs.Tryz

/- RefineCovers, walked: it says true. -/
namespace Go.Vs.Tryz
open Go Go.Vs
variable {A : Oracle}

def holeE : Exp := .mk 10 0 [] 0 [] [] tz
theorem holeE_row : wc holeE.row = [.c (.int .i64 10), zi, zs, zi, .c (.sl []), .c (.sl []), zi, zs, zi, zi, .c (.sl [])] := by
  simp [holeE, Exp.row, tz, Ty.kind, Ty.name, Ty.id, Ty.home, Ty.args, wc]
theorem holeE_weight : holeE.weight = 1 := by rw [holeE, weight_mk]; rfl
theorem holeE_ok : okX holeE := by
  refine ⟨?_, ?_⟩
  · rw [shp_eq]
    refine ⟨⟨⟨fun h => ?_, fun h => ?_, fun h => ?_⟩, fun h => ?_, rfl⟩, fun x hx => ?_⟩
    all_goals first | rfl | (simp [holeE, Exp.kind] at h; done) | skip
    simp [holeE, Exp.children, Exp.kids, Exp.arms] at hx
  · rw [tyBd_eq]
    refine ⟨by decide, fun x hx => ?_⟩
    simp [holeE, Exp.children, Exp.kids, Exp.arms] at hx

theorem covers12 (a b : Exp) (ha : okX a) (hb : shp b) (hla : a.weight ≤ 1073741824) (hlb : b.weight ≤ 1073741824) : ∃ x, IffB (covP true a b [] []) x ∧ (K A).call 12 [expV a, expV b] [] = some x := by
  obtain ⟨x, hx, hc⟩ := covers24 (A := A) true a b ha.1 hb ha.2 hla hlb
  obtain ⟨v, hv, rfl⟩ := hx
  have h25 : (K A).call 25 [expV a, expV b] [] = some (boolV v, []) := by
    refine fn_of (vf := v25) (by kernel_rfl) rfl (by simp) ?_
    have hc' : (K A).call 49 [.sc (.c (.sl [])), expV a, expV b, boolV true] [] = some (boolV v, []) := hc
    unfold v25
    simp (disch := first | omega | (simp; done) | (simp; omega)) [hc']
  refine ⟨_, ⟨v, hv, rfl⟩, ?_⟩
  refine fn_of (vf := v12) (by kernel_rfl) rfl (by simp) ?_
  unfold v12
  simp (disch := first | omega | (simp; done) | (simp; omega)) [h25]
theorem covers14 (a b : Exp) (ha : okX a) (hb : shp b) (hla : a.weight ≤ 1073741824) (hlb : b.weight ≤ 1073741824) : ∃ x, IffB (covP true a b [] []) x ∧ (K A).call 14 [expV a, expV b] [] = some x := by
  obtain ⟨x, hx, hc⟩ := cov33 (A := A) a b [] [] ha.1 hb ha.2 (by simp; omega) (by simp; omega)
  obtain ⟨v, hv, rfl⟩ := hx
  refine ⟨_, ⟨v, hv, rfl⟩, ?_⟩
  refine fn_of (vf := v14) (by kernel_rfl) rfl (by simp) ?_
  have hc' : (K A).call 29 [expV a, expV b, .sc (.c (.sl [])), .sc (.c (.sl []))] [] = some (boolV v, []) := hc
  unfold v14
  simp (disch := first | omega | (simp; done) | (simp; omega)) [hc']

set_option maxRecDepth 10000 in
set_option maxHeartbeats 64000000 in
theorem lawCovers (bits : Int) (L1 L2 at' : List Int) (ds7 : List DataD) (h7 : ds7.length = 7) (hg : ∀ d ∈ ds7, goodD d) (h55 : (K A).call 23 [] [] = some (datasV ds7, [])) (hf : (K A).call 4 [] [] = some (boolV true, [])) :
    (K A).call 3 [intV bits, .sc (.c (.sl (intRows L1))), .sc (.c (.sl (intRows L2))), .sc (.c (.sl (intRows at')))] [] = some (boolV true, []) := by
  refine fn_of (vf := v3) (by kernel_rfl) rfl (by simp) ?_
  have hf1 : (K A).call 5 [.sc (.c (.sl (intRows L1)))] [] = some (boolV (decide (L1.length ≤ 60)), []) := few8 L1
  have hf2 : (K A).call 5 [.sc (.c (.sl (intRows L2)))] [] = some (boolV (decide (L2.length ≤ 60)), []) := few8 L2
  unfold v3
  by_cases hL1 : L1.length ≤ 60
  case neg => simp (disch := first | omega | (simp; done) | (simp; omega)) [hf, hf1, hL1]
  by_cases hL2 : L2.length ≤ 60
  case neg => simp (disch := first | omega | (simp; done) | (simp; omega)) [hf, hf1, hL1, hf2, hL2]
  by_cases hat : at'.length ≤ 6
  case neg =>
    have hat' : 6 < (at'.length : Int) := by omega
    simp (disch := first | omega | (simp; done) | (simp; omega)) [hf, hf1, hL1, hf2, hL2, hat']
  have hat' : ¬ 6 < (at'.length : Int) := by omega
  have hw4 : wB 4 = 131072 := rfl
  have hw3 : wB 3 = 16384 := rfl
  obtain ⟨_, ⟨ds, _, hds, rfl⟩, h23⟩ := datas21 (A := A) bits ds7 h7 hg h55
  obtain ⟨_, ⟨e, J, he, hew, hJ, rfl⟩, hr1⟩ := raw22 (A := A) L1 ds (by omega) hds 4 0 (by omega) (by omega)
  obtain ⟨_, ⟨x, J2, hx, hxw, hJ2, rfl⟩, hr2⟩ := raw22 (A := A) L2 ds (by omega) hds 3 0 (by omega) (by omega)
  have oe : okX e := ⟨he.shp, he.tyBd⟩
  have ox : okX x := ⟨hx.shp, hx.tyBd⟩
  simp [tapeO, intV, datasV] at hr1 hr2 h23
  simp (maxSteps := 4000000) (disch := first | omega | (simp; done) | (simp; omega)) [hf, hf1, hL1, hf2, hL2, hat', h23, hr1, hr2, -getElem?_pos]
  obtain ⟨_, ⟨pe, _, rfl⟩, hpe⟩ := proper14 (A := A) e (by omega)
  obtain ⟨_, ⟨px, _, rfl⟩, hpx⟩ := proper14 (A := A) x (by omega)
  have hcan : (K A).call 13 [expV e, .sc (.c (.sl []))] [] = some (expV (canonT e []), []) := canonical40 (A := A) e [] he.wf (by simp; omega)
  have hcw := canonT_weight (e := e) [] he.wf
  obtain ⟨x1, i1, c1⟩ := covers12 (A := A) x e ox oe.1 (by omega) (by omega)
  obtain ⟨x2, i2, c2⟩ := covers14 (A := A) x e ox oe.1 (by omega) (by omega)
  obtain ⟨x3, i3, c3⟩ := covers12 (A := A) e x oe ox.1 (by omega) (by omega)
  obtain ⟨x4, i4, c4⟩ := covers14 (A := A) e x oe ox.1 (by omega) (by omega)
  obtain ⟨v1, rfl, rfl⟩ := i1.eq i2
  obtain ⟨v2, rfl, rfl⟩ := i3.eq i4
  have hput : ∀ path : List Int, path.length ≤ 6 → ∃ m b v3, (K A).call 11 [expV e, .sc (.c (.sl (intRows path))), .ag [.c (.int .i64 10), zi, zs, zi, .c (.sl []), .c (.sl []), zi, zs, zi, zi, .c (.sl [])]] [] = some (.tu [expV m, boolV b], []) ∧
      (K A).call 12 [expV m, expV (canonT e [])] [] = some (boolV true, []) ∧ (K A).call 12 [expV e, expV m] [] = some (boolV v3, []) ∧ (K A).call 14 [expV e, expV m] [] = some (boolV v3, []) := by
    intro path hp
    obtain ⟨_, ⟨m, b, om, hcov, hmw, rfl⟩, h11⟩ := put11 (A := A) holeE holeE_ok rfl (by rw [holeE_weight]; omega) path e oe (by omega) (by omega)
    rw [holeE_weight] at hmw
    obtain ⟨x5, i5, c5⟩ := covers12 (A := A) m (canonT e []) om (canonT_shp [] oe.1) (by omega) (by omega)
    obtain ⟨x6, i6, c6⟩ := covers12 (A := A) e m oe om.1 (by omega) (by omega)
    obtain ⟨x7, i7, c7⟩ := covers14 (A := A) e m oe om.1 (by omega) (by omega)
    obtain ⟨v3, rfl, rfl⟩ := i6.eq i7
    rw [i5.get (hcov _ _ _ (canonT_alpha e [] he.wf))] at c5
    refine ⟨m, b, v3, ?_, c5, c6, c7⟩
    rw [← holeE_row]
    exact h11
  generalize canonT e [] = ce at hcan hput
  refine wp_loopI (fun i s => ∃ (path : List Int) (y : Exp), path.length = i ∧ okX y ∧ y.weight ≤ e.weight ∧ s = ⟨[(3, .sc (.c (.sl (intRows at')))), (11, .sc (.ptr 1984 0)), (12, .sc (.ptr 2368 0)), (13, .sc (.arr 2497 i)), (14, .sc (.ptr 2624 0)), (15, intV i)],
      [(1344, some (.box [.c (.sl (intRows L1)), .c (.int .i64 J)])), (1536, some (.box [.c (.sl (intRows L2)), .c (.int .i64 J2)])), (1984, some (.box (wc e.row))), (2368, some (.box (wc x.row))), (2497, some (.arr 1 (wr (intRows path)) 0)), (2624, some (.box (wc y.row)))]⟩) at'.length
      ⟨[], e, rfl, oe, Nat.le_refl _, by simp [intRows, wr]⟩ ?_ ?_
  · rintro i s hi ⟨path, y, hpl, oy, hyw, rfl⟩
    obtain ⟨k0, hk0⟩ := get_of_lt (l := at') (i := i) hi
    have hle := y.children_le
    have hcl := y.children_len
    have hc := children50 (A := A) y (by omega)
    have hi' : (i : Int) < at'.length := by omega
    by_cases hn : y.kids.length + y.arms.length = 0
    · have hn0 : (y.kids.length : Int) + y.arms.length = 0 := by omega
      obtain ⟨m, b, v3, p1, p2, p3, p4⟩ := hput path (by omega)
      unfold l3_0
      cases pe with
      | false => simp (maxSteps := 4000000) (disch := first | omega | (simp; done) | (simp; omega)) [hi', hc, hn0, hpe, -getElem?_pos]
      | true =>
        cases px with
        | false => simp (maxSteps := 4000000) (disch := first | omega | (simp; done) | (simp; omega)) [hi', hc, hn0, hpe, hpx, -getElem?_pos]
        | true => simp (maxSteps := 4000000) (disch := first | omega | (simp; done) | (simp; omega)) [hi', hc, hn0, hpe, hpx, hpl, p1, p2, p3, p4, hcan, c1, c2, c3, c4, -getElem?_pos]
    · have hn0 : ¬ (y.kids.length : Int) + y.arms.length = 0 := by omega
      obtain ⟨k, hk, hmod⟩ := mod10 (A := A) k0 ((y.kids.length : Int) + y.arms.length) (by omega) (by omega)
      obtain ⟨z, hz⟩ := get_of_lt (l := y.children) (i := k) (by omega)
      have hzm := List.mem_of_getElem? hz
      have hzw := Exp.child_lt hzm
      unfold l3_0
      simp (maxSteps := 4000000) (disch := first | omega | (simp; done) | (simp; omega)) [hi', hc, hn0, hk0, hk, hmod, hz, hpl, -getElem?_pos]
      exact ⟨path ++ [(k : Int)], by simp [hpl], z, oy.child hzm, by omega, by simp [intRows, wr, intRow, wc]⟩
  · rintro s ⟨path, y, hpl, oy, hyw, rfl⟩
    obtain ⟨m, b, v3, p1, p2, p3, p4⟩ := hput path (by omega)
    unfold l3_0
    cases pe with
    | false => simp (maxSteps := 4000000) (disch := first | omega | (simp; done) | (simp; omega)) [hpe, -getElem?_pos]
    | true =>
      cases px with
      | false => simp (maxSteps := 4000000) (disch := first | omega | (simp; done) | (simp; omega)) [hpe, hpx, -getElem?_pos]
      | true => simp (maxSteps := 4000000) (disch := first | omega | (simp; done) | (simp; omega)) [hpe, hpx, hpl, p1, p2, p3, p4, hcan, c1, c2, c3, c4, -getElem?_pos]
end Go.Vs.Tryz
