/- Alpha-equal expressions and canonical forms (plain): an expression is alpha-equal to its canonical form. -/
import Derived.Test.YtchkkbbchpnabaaGreatDoorR2c
set_option linter.unusedSimpArgs false
set_option linter.unusedVariables false
set_option linter.deprecated false

/- Alpha-equal expressions and canonical forms (plain): an expression is alpha-equal to its canonical form. -/
namespace Go.Vs.Tryz
open Go Go.Vs

/-- What two alpha-equal expressions share at their heads. -/
def headEq (a b : Exp) : Prop := a.kind = b.kind ∧ a.num = b.num ∧ a.ty = b.ty ∧ a.kids.length = b.kids.length ∧ a.arms.length = b.arms.length
def armsEq (a b : Exp) : Prop := ∀ (i : Nat) p q, a.arms[i]? = some p → b.arms[i]? = some q → p.1.con = q.1.con ∧ p.1.vars.length = q.1.vars.length
/-- Two variables that refer to the same. -/
def varEq (left right : List Str) (s t : Str) : Prop := rlast left s = rlast right t ∧ (0 ≤ rlast left s ∨ s = t)
def alphaF (a : Exp) (l : List (Exp → List Str → List Str → Prop)) (b : Exp) (left right : List Str) : Prop :=
  headEq a b ∧ (a.kind = 1 → varEq left right a.name b.name) ∧ (a.kind = 2 → a.name = b.name) ∧
    (a.kind ≠ 1 → a.kind ≠ 2 → armsEq a b ∧ ∀ (i : Nat) f y, l[i]? = some f → b.children[i]? = some y → f y (left ++ a.bound i) (right ++ b.bound i))
/-- Alpha-equal under binders. -/
def alphaP (a : Exp) : Exp → List Str → List Str → Prop := a.fold alphaF
theorem alphaP_eq (a b : Exp) (left right : List Str) : alphaP a b left right = (headEq a b ∧ (a.kind = 1 → varEq left right a.name b.name) ∧ (a.kind = 2 → a.name = b.name) ∧
    (a.kind ≠ 1 → a.kind ≠ 2 → armsEq a b ∧ ∀ (i : Nat) x y, a.children[i]? = some x → b.children[i]? = some y → alphaP x y (left ++ a.bound i) (right ++ b.bound i))) := by
  unfold alphaP
  rw [Exp.fold_eq]
  unfold alphaF
  simp only [List.getElem?_map, Option.map_eq_some_iff]
  apply propext
  refine and_congr_right fun _ => and_congr_right fun _ => and_congr_right fun _ => forall_congr' fun _ => forall_congr' fun _ => and_congr_right fun _ => forall_congr' fun i => ?_
  constructor
  simp_all
  · rintro h f y ⟨x, hx, rfl⟩ hy
    grind

/-- New names behind so many. -/
def news (taken : List Str) (n k : Nat) : List Str := (List.range k).map fun j => freshS (n + j) taken
@[simp] theorem news_len (taken : List Str) (n k : Nat) : (news taken n k).length = k := by simp [news]
theorem news_get {taken : List Str} {n k j : Nat} (h : j < k) : (news taken n k)[j]? = some (freshS (n + j) taken) := by simp [news, h]
theorem news_add (taken : List Str) (n k : Nat) : news taken 0 (n + k) = news taken 0 n ++ news taken n k := by
  refine List.ext_getElem? fun j => ?_
  grind [news_get, news_len]

def canonF (taken : List Str) (e : Exp) (l : List (List Str → List Str → Exp)) (old names : List Str) : Exp :=
  if e.kind = 1 then (if 0 ≤ rlast old e.name then .mk e.kind e.pos ((names[(rlast old e.name).toNat]?).getD []) e.num e.kids e.arms e.ty else e)
  else
    let cs := l.zipIdx.map fun p => p.1 (old ++ e.bound p.2) (names ++ news taken old.length (e.bound p.2).length)
    .mk e.kind e.pos (if e.kind = 4 ∨ e.kind = 6 ∨ e.kind = 7 then freshS old.length taken else e.name) e.num (cs.take e.kids.length)
      (List.zipWith (fun a c => (⟨a.1.pos, a.1.con, news taken old.length a.1.vars.length⟩, c)) e.arms (cs.drop e.kids.length)) e.ty
/-- The canonical form under binders. -/
def canonM (taken : List Str) (e : Exp) : List Str → List Str → Exp := e.fold (canonF taken)
theorem canonM_var {taken : List Str} {e : Exp} {old names : List Str} (h : e.kind = 1) : canonM taken e old names = if 0 ≤ rlast old e.name then .mk e.kind e.pos ((names[(rlast old e.name).toNat]?).getD []) e.num e.kids e.arms e.ty else e := by
  unfold canonM
  rw [Exp.fold_eq]
  grind [canonF]
/-- The new children. -/
def canonC (taken : List Str) (e : Exp) (old names : List Str) : List Exp := e.children.zipIdx.map fun p => canonM taken p.1 (old ++ e.bound p.2) (names ++ news taken old.length (e.bound p.2).length)
@[simp] theorem canonC_len (taken : List Str) (e : Exp) (old names : List Str) : (canonC taken e old names).length = e.kids.length + e.arms.length := by simp [canonC]
theorem canonC_get {taken : List Str} {e x : Exp} {old names : List Str} {i : Nat} (h : e.children[i]? = some x) : (canonC taken e old names)[i]? = some (canonM taken x (old ++ e.bound i) (names ++ news taken old.length (e.bound i).length)) := by
  simp [canonC, h]
theorem canonM_no {taken : List Str} {e : Exp} {old names : List Str} (h : e.kind ≠ 1) : canonM taken e old names = .mk e.kind e.pos (if e.kind = 4 ∨ e.kind = 6 ∨ e.kind = 7 then freshS old.length taken else e.name) e.num ((canonC taken e old names).take e.kids.length)
      (List.zipWith (fun a c => (⟨a.1.pos, a.1.con, news taken old.length a.1.vars.length⟩, c)) e.arms ((canonC taken e old names).drop e.kids.length)) e.ty := by
  unfold canonM
  rw [Exp.fold_eq]
  simp only [canonF, if_neg h]
  have : ((e.children.map (Exp.fold (canonF taken))).zipIdx.map fun p => p.1 (old ++ e.bound p.2) (names ++ news taken old.length (e.bound p.2).length)) = canonC taken e old names := by
    unfold canonC canonM
    refine List.ext_getElem? fun j => ?_
    simp only [List.getElem?_map, List.getElem?_zipIdx]
    grind
  grind

theorem free_child {e x : Exp} {i : Nat} (hk : e.kind ≠ 1) (hx : e.children[i]? = some x) {s : Str} (hs : s ∈ freeP x) : s ∈ e.bound i ∨ s ∈ freeP e := by
  by_cases hb : s ∈ e.bound i
  grind
  · refine .inr ?_
    rw [freeP_eq, if_neg hk, ← outP_end]
    have key : ∀ n, n ≤ e.children.length → i < n → s ∈ outP e n := by
      intro n
      induction n with
      | zero => simp
      | succ n ih =>
        intro hn hi
        obtain ⟨y, hy⟩ := get_of_lt (l := e.children) (i := n) (by omega)
        rw [outP_succ hy, mem_foldNew]
        grind
    grind

theorem bound_some {e : Exp} {i : Nat} : e.bound i = if e.kind = 4 ∨ e.kind = 7 ∨ (e.kind = 6 ∧ i = 1) then [e.name] else if e.kind = 8 ∧ 0 < i then ((e.arms[i - 1]?).map fun a => a.1.vars).getD [] else [] := rfl

section
variable (k p : Int) (n : Str) (m : Int) (ks : List Exp) (l : List (ArmH × Exp)) (t : Ty)
theorem kind_mk : (Exp.mk k p n m ks l t).kind = k := rfl
theorem pos_mk : (Exp.mk k p n m ks l t).pos = p := rfl
theorem name_mk : (Exp.mk k p n m ks l t).name = n := rfl
theorem num_mk : (Exp.mk k p n m ks l t).num = m := rfl
theorem kids_mk : (Exp.mk k p n m ks l t).kids = ks := rfl
theorem arms_mk : (Exp.mk k p n m ks l t).arms = l := rfl
theorem ty_mk : (Exp.mk k p n m ks l t).ty = t := rfl
theorem bound_mk (i : Nat) : (Exp.mk k p n m ks l t).bound i = if k = 4 ∨ k = 7 ∨ (k = 6 ∧ i = 1) then [n] else if k = 8 ∧ 0 < i then ((l[i - 1]?).map fun a => a.1.vars).getD [] else [] := rfl
theorem children_mk : (Exp.mk k p n m ks l t).children = ks ++ l.map (·.2) := rfl
end

/-- The canonical form's children and binders. -/
theorem canon_parts {taken : List Str} {e : Exp} {old names : List Str} (h : e.kind ≠ 1) (hw : e.wf1) :
    headEq e (canonM taken e old names) ∧ (canonM taken e old names).children = canonC taken e old names ∧ armsEq e (canonM taken e old names) ∧ (e.kind = 2 → e.name = (canonM taken e old names).name) ∧
    ∀ i, i < e.children.length → (canonM taken e old names).bound i = news taken old.length (e.bound i).length := by
  have hl := canonC_len taken e old names
  have hal : (List.zipWith (fun (a : ArmH × Exp) c => ((⟨a.1.pos, a.1.con, news taken old.length a.1.vars.length⟩ : ArmH), c)) e.arms ((canonC taken e old names).drop e.kids.length)).length = e.arms.length := by
    simp
  have hkl : ((canonC taken e old names).take e.kids.length).length = e.kids.length := by simp
  rw [canonM_no h]
  refine ⟨⟨rfl, rfl, rfl, by simp only [kids_mk, hkl], by simp only [arms_mk, hal]⟩, ?_, ?_, ?_, ?_⟩
  · simp only [children_mk]
    rw [List.map_zipWith]
    have : List.zipWith (fun (a : ArmH × Exp) (c : Exp) => c) e.arms ((canonC taken e old names).drop e.kids.length) = (canonC taken e old names).drop e.kids.length := by
      refine List.ext_getElem? fun j => ?_
      grind
    simp_all
  · intro i p q hp hq
    simp only [arms_mk, List.getElem?_zipWith, hp] at hq
    cases hc : ((canonC taken e old names).drop e.kids.length)[i]? with
    | none => grind
    | some c =>
      rw [hc] at hq
      simp only [Option.some.injEq] at hq
      subst hq
      simp
  grind [name_mk]
  · intro i hi
    have h1 := bound_some (e := e) (i := i)
    rw [bound_mk]
    grind [news]

theorem varEq_symm {l r : List Str} {s t : Str} (h : varEq l r s t) : varEq r l t s := ⟨h.1.symm, h.2.elim (fun h1 => .inl (h.1 ▸ h1)) fun h1 => .inr h1.symm⟩
theorem headEq.symm {a b : Exp} (h : headEq a b) : headEq b a := ⟨h.1.symm, h.2.1.symm, h.2.2.1.symm, h.2.2.2.1.symm, h.2.2.2.2.symm⟩
theorem headEq.children {a b : Exp} (h : headEq a b) : a.children.length = b.children.length := by
  rw [a.children_len, b.children_len, h.2.2.2.1, h.2.2.2.2]

theorem alphaP_symm (a : Exp) : ∀ b l r, alphaP a b l r → alphaP b a r l := by
  induction a using Exp.ind with
  | h a ih =>
    intro b l r h
    rw [alphaP_eq] at h ⊢
    obtain ⟨h1, h2, h3, h4⟩ := h
    refine ⟨h1.symm, fun hk => varEq_symm (h2 (h1.1.trans hk)), fun hk => (h3 (h1.1.trans hk)).symm, fun k1 k2 => ?_⟩
    obtain ⟨h5, h6⟩ := h4 (by rw [h1.1]; exact k1) (by rw [h1.1]; exact k2)
    exact ⟨fun i p q hp hq => ⟨(h5 i q p hq hp).1.symm, (h5 i q p hq hp).2.symm⟩, fun i x y hx hy => ih y (List.mem_of_getElem? hy) x _ _ (h6 i y x hy hx)⟩
theorem alphaP_refl (a : Exp) : ∀ l, alphaP a a l l := by
  induction a using Exp.ind with
  | h a ih =>
    intro l
    rw [alphaP_eq]
    refine ⟨⟨rfl, rfl, rfl, rfl, rfl⟩, fun _ => ⟨rfl, .inr rfl⟩, fun _ => rfl, fun _ _ => ⟨fun i p q hp hq => ?_, fun i x y hx hy => ?_⟩⟩ <;> grind

/-- An expression is alpha-equal to its canonical form. -/
theorem canon_alpha (taken : List Str) (e : Exp) : e.wf → ∀ old, (∀ s ∈ freeP e, s ∈ old ∨ s ∈ taken) → alphaP e (canonM taken e old (news taken 0 old.length)) old (news taken 0 old.length) := by
  induction e using Exp.ind with
  | h e ih =>
    intro hw old hf
    by_cases hk : e.kind = 1
    · have hch : e.children = [] := by
        have h1 := hw.one.2.2 hk
        have h2 := hw.one.2.1 (by omega)
        grind [Exp.children]
      rw [canonM_var hk]
      by_cases hm : e.name ∈ old
      · have hp := rlast_mem hm
        have hb := rlast_bounds old e.name
        have hlt : (rlast old e.name).toNat < old.length := by
          grind [rlast]
        rw [if_pos hp, news_get hlt, alphaP_eq]
        refine ⟨⟨rfl, rfl, rfl, rfl, rfl⟩, fun _ => ⟨?_, .inl hp⟩, fun h2 => absurd h2 (by omega), fun h1 => absurd hk h1⟩
        grind [news, rlast_eq, freshS_inj, name_mk]
      · have hp : ¬ 0 ≤ rlast old e.name := by rw [rlast_no hm]; omega
        rw [if_neg hp, alphaP_eq]
        refine ⟨⟨rfl, rfl, rfl, rfl, rfl⟩, fun _ => ⟨?_, .inr rfl⟩, fun _ => rfl, fun h1 => absurd hk h1⟩
        have ht : e.name ∈ taken := (hf e.name (by grind [freeP_eq])).resolve_left hm
        rw [rlast_no hm, rlast_no]
        intro hn
        obtain ⟨j, hj⟩ := List.mem_iff_getElem?.1 hn
        have hjl : j < old.length := by
          have := (List.getElem?_eq_some_iff.1 hj).1
          simp_all
        grind [news_get, freshS_not]
    · obtain ⟨p1, p2, p3, p4, p5⟩ := canon_parts (taken := taken) (old := old) (names := news taken 0 old.length) hk hw.one
      rw [alphaP_eq]
      refine ⟨p1, fun h1 => absurd h1 hk, p4, fun _ _ => ⟨p3, fun i x y hx hy => ?_⟩⟩
      have hi := (List.getElem?_eq_some_iff.1 hx).1
      rw [p2, canonC_get hx] at hy
      cases hy
      have hadd : news taken 0 old.length ++ news taken old.length (e.bound i).length = news taken 0 (old ++ e.bound i).length := by grind [news_add]
      rw [p5 i hi, hadd]
      refine ih x (List.mem_of_getElem? hx) (hw.child (List.mem_of_getElem? hx)) _ fun s hs => ?_
      grind [free_child]
end Go.Vs.Tryz

/- Expressions without positions (plain). -/
namespace Go.Vs.Tryz
open Go Go.Vs

def stripF (e : Exp) (cs : List Exp) : Exp := .mk e.kind 0 e.name e.num (cs.take e.kids.length) (List.zipWith (fun (a : ArmH × Exp) c => ((⟨0, a.1.con, a.1.vars⟩ : ArmH), c)) e.arms (cs.drop e.kids.length)) e.ty
/-- Without positions. -/
def stripM (e : Exp) : Exp := e.fold stripF
theorem stripM_eq (e : Exp) : stripM e = stripF e (e.children.map stripM) := Exp.fold_eq _ e

theorem zip_snd {α β γ : Type} {f : α → β → γ} {l : List α} {m : List β} (h : l.length = m.length) (g : γ → β) (hg : ∀ a b, g (f a b) = b) : (List.zipWith f l m).map g = m := by
  refine List.ext_getElem? fun j => ?_
  rw [List.getElem?_map, List.getElem?_zipWith]
  by_cases hj : j < l.length
  · rw [List.getElem?_eq_getElem hj, List.getElem?_eq_getElem (show j < m.length by omega)]
    simp [hg]
  · rw [List.getElem?_eq_none (by omega), List.getElem?_eq_none (by omega)]
    rfl

theorem strip_parts (e : Exp) : (stripM e).kind = e.kind ∧ (stripM e).name = e.name ∧ (stripM e).num = e.num ∧ (stripM e).ty = e.ty ∧ (stripM e).kids.length = e.kids.length ∧ (stripM e).arms.length = e.arms.length ∧
    (stripM e).children = e.children.map stripM ∧ (∀ i : Nat, (stripM e).arms[i]? = (e.arms[i]?).map fun (a : ArmH × Exp) => ((⟨0, a.1.con, a.1.vars⟩ : ArmH), stripM a.2)) := by
  have hl : (e.children.map stripM).length = e.kids.length + e.arms.length := by simp
  have hkl : ((e.children.map stripM).take e.kids.length).length = e.kids.length := by rw [List.length_take, hl]; omega
  have hdl : ((e.children.map stripM).drop e.kids.length).length = e.arms.length := by rw [List.length_drop, hl]; omega
  have hal : (List.zipWith (fun (a : ArmH × Exp) (c : Exp) => ((⟨0, a.1.con, a.1.vars⟩ : ArmH), c)) e.arms ((e.children.map stripM).drop e.kids.length)).length = e.arms.length := by
    rw [List.length_zipWith, hdl]; omega
  rw [stripM_eq]
  refine ⟨rfl, rfl, rfl, rfl, by simp only [stripF, kids_mk, hkl], by simp only [stripF, arms_mk, hal], ?_, ?_⟩
  · simp only [stripF, children_mk]
    rw [zip_snd (g := fun (x : ArmH × Exp) => x.2) (by rw [hdl]) (fun _ _ => rfl), List.take_append_drop]
  · intro i
    simp only [stripF, arms_mk, List.getElem?_zipWith]
    have hd : (e.children.map stripM).drop e.kids.length = e.arms.map fun a => stripM a.2 := by
      simp [Exp.children]
    rw [hd, List.getElem?_map]
    cases e.arms[i]? <;> rfl

theorem strip_bound (e : Exp) (i : Nat) : (stripM e).bound i = e.bound i := by
  obtain ⟨h1, h2, _, _, _, _, _, h8⟩ := strip_parts e
  rw [bound_some, bound_some, h1, h2, h8]
  cases e.arms[i - 1]? <;> rfl

theorem strip_wf (e : Exp) : e.wf → (stripM e).wf := by
  induction e using Exp.ind with
  | h e ih =>
    intro hw
    obtain ⟨h1, h2, h3, h4, h5, h6, h7, h8⟩ := strip_parts e
    rw [Exp.wf_eq]
    obtain ⟨w1, w2, w3⟩ := hw.one
    refine ⟨⟨fun hk => by rw [h5]; exact w1 (h1 ▸ hk), fun hk => ?_, fun hk => ?_⟩, ?_⟩
    · have := w2 (h1 ▸ hk)
      rw [this] at h6
      exact List.length_eq_zero_iff.1 h6
    · have := w3 (h1 ▸ hk)
      rw [this] at h5
      exact List.length_eq_zero_iff.1 h5
    · intro x hx
      rw [h7] at hx
      obtain ⟨y, hy, rfl⟩ := List.mem_map.1 hx
      exact ih y hy (hw.child hy)

theorem strip_weight (e : Exp) : (stripM e).weight = e.weight := by
  induction e using Exp.ind with
  | h e ih =>
    obtain ⟨h1, h2, h3, h4, h5, h6, h7, h8⟩ := strip_parts e
    rw [Exp.weight_eq, e.weight_eq, h7, List.map_map]
    have ha : ((stripM e).arms.map fun a => a.1.vars.length) = e.arms.map fun a => a.1.vars.length := by
      refine List.ext_getElem? fun i => ?_
      rw [List.getElem?_map, List.getElem?_map, h8]
      cases e.arms[i]? <;> rfl
    have hc : e.children.map (Exp.weight ∘ stripM) = e.children.map Exp.weight := List.map_congr_left fun x hx => ih x hx
    rw [ha, hc]

theorem strip_free (e : Exp) : freeP (stripM e) = freeP e := by
  induction e using Exp.ind with
  | h e ih =>
    obtain ⟨h1, h2, h3, h4, h5, h6, h7, h8⟩ := strip_parts e
    rw [freeP_eq, freeP_eq, h1, h2, h7, List.map_map]
    have hc : e.children.map (freeP ∘ stripM) = e.children.map freeP := List.map_congr_left fun x hx => ih x hx
    rw [hc]
    have hb : addAll (stripM e) = addAll e := by
      funext out p
      simp only [addAll, strip_bound]
    rw [hb]

theorem alphaP_strip (a : Exp) : ∀ b l r, alphaP (stripM a) b l r → alphaP a b l r := by
  induction a using Exp.ind with
  | h a ih =>
    intro b l r h
    obtain ⟨h1, h2, h3, h4, h5, h6, h7, h8⟩ := strip_parts a
    rw [alphaP_eq] at h ⊢
    obtain ⟨g1, g2, g3, g4⟩ := h
    rw [h1, h2] at g2
    rw [h1, h2] at g3
    rw [h1] at g4
    unfold headEq at g1
    rw [h1, h3, h4, h5, h6] at g1
    refine ⟨g1, g2, g3, fun k1 k2 => ?_⟩
    obtain ⟨g5, g6⟩ := g4 k1 k2
    refine ⟨fun i p q hp hq => g5 i (⟨0, p.1.con, p.1.vars⟩, stripM p.2) q (by rw [h8, hp]; rfl) hq, fun i x y hx hy => ?_⟩
    have := g6 i (stripM x) y (by rw [h7, List.getElem?_map, hx]; rfl) hy
    rw [strip_bound] at this
    exact ih x (List.mem_of_getElem? hx) _ _ _ this

/-- The whole canonical form. -/
def canonT (e : Exp) (taken : List Str) : Exp := canonM (taken ++ freeP e) (stripM e) [] []
theorem canonT_alpha (e : Exp) (taken : List Str) (hw : e.wf) : alphaP e (canonT e taken) [] [] := by
  refine alphaP_strip _ _ _ _ ?_
  have := canon_alpha (taken ++ freeP e) (stripM e) (strip_wf e hw) [] (fun s hs => by rw [strip_free] at hs; exact .inr (List.mem_append_right _ hs))
  simpa [news, canonT] using this
end Go.Vs.Tryz

/- The program's rank is the reference's. -/
namespace Go.Vs.Tryz
open Go Go.Vs
variable {A : Oracle}

theorem rlast_none {l : List Str} {s : Str} (h : ∀ j x, 0 ≤ j → l[j]? = some x → ¬ x = s) : s ∉ l := by
  intro hm
  obtain ⟨j, hj, e⟩ := List.getElem_of_mem hm
  exact h j _ (by omega) (by rw [List.getElem?_eq_getElem hj, e]) rfl

end Go.Vs.Tryz

/- Types' sizes, assignments, and the small functions of contexts, walked. -/
namespace Go.Vs
open Go
mutual
def Ty.size : Ty → Nat
  | .mk _ _ _ _ a => 1 + Ty.sizes a
def Ty.sizes : List Ty → Nat
  | [] => 0
  | t :: r => t.size + Ty.sizes r
end
theorem Ty.sizes_map : ∀ l : List Ty, Ty.sizes l = (l.map Ty.size).sum
  | [] => by simp [Ty.sizes]
  | t :: r => by simp [Ty.sizes, Ty.sizes_map r]
theorem Ty.size_eq (t : Ty) : t.size = 1 + (t.args.map Ty.size).sum := by
  cases t
  simp [Ty.size, Ty.args, Ty.sizes_map]
theorem Ty.size_pos (t : Ty) : 1 ≤ t.size := by
  rw [Ty.size_eq]
  omega
theorem le_sum_of_mem {l : List Nat} {n : Nat} (h : n ∈ l) : n ≤ l.sum := by
  induction l with
  | nil => cases h
  | cons a r ih =>
    simp only [List.sum_cons]
    rcases List.mem_cons.1 h with rfl | h
    · omega
    · have := ih h
      omega
theorem Ty.arg_lt {t x : Ty} (h : x ∈ t.args) : x.size < t.size := by
  have := le_sum_of_mem (List.mem_map_of_mem (f := Ty.size) h)
  rw [t.size_eq]
  omega
theorem Ty.len_le (l : List Ty) : l.length ≤ (l.map Ty.size).sum := by
  induction l with
  | nil => simp
  | cons a r ih =>
    have := a.size_pos
    simp only [List.length_cons, List.map_cons, List.sum_cons]
    omega
theorem Ty.args_lt (t : Ty) : t.args.length < t.size := by
  have := Ty.len_le t.args
  rw [t.size_eq]
  omega
theorem Ty.size_leaf {k : Int} {n : Str} {i h : Int} : (Ty.mk k n i h []).size = 1 := by simp [Ty.size, Ty.sizes]

structure AssD where
  id : Int
  ty : Ty
def assRow (a : AssD) : List Cell := .int .i64 a.id :: a.ty.row
def assRows (l : List AssD) : List (List Cell) := l.map assRow
@[simp] theorem assRow_len (a : AssD) : (assRow a).length = 6 := by simp [assRow]
@[simp] theorem assRows_len (l : List AssD) : (assRows l).length = l.length := by simp [assRows]
@[simp] theorem assRows_get (l : List AssD) (i : Nat) : (assRows l)[i]? = (l[i]?).map assRow := by simp [assRows]
@[simp] theorem okRows_ass (l : List AssD) : okRows 6 (wr (assRows l)) = true := okRows_of l assRow_len
@[simp] theorem assRows_snoc (l : List AssD) (x : AssD) : wr (assRows l) ++ [wc (assRow x)] = wr (assRows (l ++ [x])) := by simp [assRows, wr]
@[simp] theorem assRows0 : assRows [] = [] := rfl
section
variable (a : AssD)
@[simp] theorem cut_as0 : cut (assRow a) 0 1 = some [.int .i64 a.id] := by rw [assRow, Ty.row_eq]; rfl
@[simp] theorem cut_as1 : cut (assRow a) 1 5 = some a.ty.row := by rw [assRow, Ty.row_eq]; rfl
@[simp] theorem cut_as : cut (assRow a) 0 6 = some (assRow a) := by rw [assRow, Ty.row_eq]; rfl
@[simp] theorem cutw_as0 : cut (wc (assRow a)) 0 1 = some [.c (.int .i64 a.id)] := by rw [assRow, Ty.row_eq]; rfl
@[simp] theorem cutw_as1 : cut (wc (assRow a)) 1 5 = some (wc a.ty.row) := by rw [assRow, Ty.row_eq]; rfl
@[simp] theorem cutw_as : cut (wc (assRow a)) 0 6 = some (wc (assRow a)) := by rw [assRow, Ty.row_eq]; rfl
@[simp] theorem flat_ass : (wc (assRow a)).all flatW = false := by rw [assRow, Ty.row_eq]; simp [wc, flatW]
end
end Go.Vs

namespace Go.Vs.Tryz
open Go Go.Vs
variable {A : Oracle}

abbrev intsV (l : List Int) : V := .sc (.c (.sl (intRows l)))
abbrev tysV (l : List Ty) : V := .sc (.c (.sl (Ty.rows l)))
abbrev asssV (l : List AssD) : V := .sc (.c (.sl (assRows l)))
abbrev schV (c : Int) (t : Ty) : V := .ag (wc (schRow c t))

def IntsB (r : V × List Obj) : Prop := ∃ b, r = (boolV b, [])
end Go.Vs.Tryz

/- Comparing numbers, the first that differs, and the kinds of terms, walked. -/
namespace Go.Vs.Tryz
open Go Go.Vs
variable {A : Oracle}

/-- How two numbers compare. -/
def cmpI (a b : Int) : Int := if a < b then -1 else if b < a then 1 else 0
theorem isNaN106 (a : Int) : (K A).call 337 [intV a] [] = some (boolV false, []) := by
  refine fn_of (vf := v337) (by kernel_rfl) rfl (by simp) ?_
  unfold v337
  simp (disch := first | omega | (simp; done) | (simp; omega))
theorem compare67 (a b : Int) : (K A).call 300 [intV a, intV b] [] = some (intV (cmpI a b), []) := by
  refine fn_of (vf := v300) (by kernel_rfl) rfl (by simp) ?_
  have h1 := isNaN106 (A := A) a
  have h2 := isNaN106 (A := A) b
  unfold v300 cmpI
  by_cases hl : a < b
  · simp (disch := first | omega | (simp; done) | (simp; omega)) [h1, h2, hl]
  · by_cases hg : b < a
    · simp (disch := first | omega | (simp; done) | (simp; omega)) [h1, h2, hl, hg]
    · simp (disch := first | omega | (simp; done) | (simp; omega)) [h1, h2, hl, hg]

/-- The first that is not 0. -/
def orI : List Int → Int
  | [] => 0
  | a :: r => if a = 0 then orI r else a
theorem orI_zero : ∀ {l : List Int}, (∀ x ∈ l, x = 0) → orI l = 0
  | [], _ => rfl
  | a :: r, h => by
    have ha := h a (by simp)
    simp only [orI, if_pos ha]
    exact orI_zero fun x hx => h x (by simp [hx])
theorem orI_at : ∀ {l : List Int} {i : Nat} {x : Int}, l[i]? = some x → x ≠ 0 → (∀ y ∈ l.take i, y = 0) → orI l = x
  | [], i, x, h, _, _ => by simp at h
  | a :: r, 0, x, h, hx, _ => by
    simp only [List.getElem?_cons_zero, Option.some.injEq] at h
    subst h
    simp only [orI, if_neg hx]
  | a :: r, i + 1, x, h, hx, hz => by
    have ha := hz a (by simp)
    simp only [orI, if_pos ha]
    exact orI_at (i := i) (by simpa using h) hx fun y hy => hz y (by simp [hy])

theorem or70 (l : List Int) (h : l.length ≤ 687194767360) : (K A).call 299 [intsV l] [] = some (intV (orI l), []) := by
  refine fn_of (vf := v299) (by kernel_rfl) rfl (by simp) ?_
  unfold v299
  simp (disch := first | omega | (simp; done) | (simp; omega))
  refine wp_loopI (fun i s => (∀ y ∈ l.take i, y = 0) ∧ s = ⟨[(3, intV 0), (6, intsV l), (7, intV l.length), (8, intV i)], []⟩) l.length ⟨by simp, by simp⟩ ?_ ?_
  · rintro i s hi ⟨hz, rfl⟩
    obtain ⟨x, hx⟩ := get_of_lt hi
    unfold l299_0
    by_cases hx0 : x = 0
    · simp (disch := first | omega | (simp; done) | (simp; omega)) [hi, hx, hx0, -getElem?_pos]
      intro y hy
      rw [take_next hx] at hy
      rcases List.mem_append.1 hy with hy | hy
      · exact hz y hy
      · simp only [List.mem_singleton] at hy
        exact hy.trans hx0
    · have ho := orI_at hx hx0 hz
      simp (disch := first | omega | (simp; done) | (simp; omega)) [hi, hx, hx0, ho, -getElem?_pos]
  · rintro s ⟨hz, rfl⟩
    have ho := orI_zero (l := l) (fun x hx => hz x (by rw [List.take_of_length_le (Nat.le_refl _)]; exact hx))
    unfold l299_0
    simp (disch := first | omega | (simp; done) | (simp; omega)) [ho]

/-- The place of a kind of term in the order. -/
def kindM (e : Exp) : Int := if e.kind = 4 then 0 else if e.kind = 8 then 2 else 1
end Go.Vs.Tryz

/- The program's comparison of ranks (a closure over the declarations and the context), walked. -/
namespace Go.Vs
open Go
section
variable {call : FuncId → List V → List Obj → Option (V × List Obj)} {L : Nat → Option Obj} {oid : Nat}
@[simp] theorem call1_clo2 {f : FuncId} {w0 w1 : W} {args : List (Bool × V)} : call1 call L oid (.sc (.clo f [true, true] [[w0], [w1]])) args = callA call L oid f (argsOf L (args ++ [(true, .sc w0), (true, .sc w1)])) := by
  rw [call1_eq]
  rfl
@[simp] theorem call1_clo3 {f : FuncId} {w0 w1 w2 : W} {args : List (Bool × V)} : call1 call L oid (.sc (.clo f [true, true, true] [[w0], [w1], [w2]])) args = callA call L oid f (argsOf L (args ++ [(true, .sc w0), (true, .sc w1), (true, .sc w2)])) := by
  rw [call1_eq]
  rfl
end
end Go.Vs
namespace Go.Vs.Tryz
open Go Go.Vs
variable {A : Oracle}

end Go.Vs.Tryz

/- slices.Reverse, walked. -/
namespace Go.Vs.Tryz
open Go Go.Vs
variable {A : Oracle}

/-- After so many swaps. -/
def swapTo (l : List Exp) : Nat → List Exp
  | 0 => l
  | i + 1 => match (swapTo l i)[i]?, (swapTo l i)[l.length - 1 - i]? with
    | some x, some y => ((swapTo l i).set i y).set (l.length - 1 - i) x
    | _, _ => swapTo l i
@[simp] theorem swapTo_len (l : List Exp) : ∀ i, (swapTo l i).length = l.length
  | 0 => rfl
  | i + 1 => by
    have := swapTo_len l i
    simp only [swapTo]
    split
    · simp [this]
    · exact this
theorem setRow_set {α : Type} : ∀ (l : List α) (i : Nat) (a : α), setRow l i a = l.set i a
  | [], _, _ => rfl
  | _ :: _, 0, _ => rfl
  | b :: r, n + 1, a => by simp only [setRow, List.set_cons_succ, setRow_set r n a]
theorem rows_set (l : List Exp) (i : Nat) (x : Exp) : setRow (wr (Exp.rows l)) i (wc x.row) = wr (Exp.rows (l.set i x)) := by
  rw [setRow_set]
  simp [Exp.rows_map, wr, List.map_set]

theorem swapTo_get (l : List Exp) : ∀ i, 2 * i ≤ l.length → ∀ j, j < l.length → (swapTo l i)[j]? = if j < i ∨ l.length ≤ j + i then l[l.length - 1 - j]? else l[j]?
  | 0, _, j, hj => by
    have : ¬ (j < 0 ∨ l.length ≤ j + 0) := by omega
    simp only [swapTo, if_neg this]
  | i + 1, hi, j, hj => by
    have h1 := swapTo_get l i (by omega) i (by omega)
    have h2 := swapTo_get l i (by omega) (l.length - 1 - i) (by omega)
    have h3 := swapTo_get l i (by omega) j hj
    rw [if_neg (by omega)] at h1
    rw [if_neg (by omega)] at h2
    obtain ⟨x, hx⟩ := get_of_lt (l := l) (i := i) (by omega)
    obtain ⟨y, hy⟩ := get_of_lt (l := l) (i := l.length - 1 - i) (by omega)
    rw [hx] at h1
    rw [hy] at h2
    simp only [swapTo, h1, h2]
    by_cases e2 : j = l.length - 1 - i
    · subst e2
      rw [List.getElem?_set_self (by simp; omega), if_pos (by omega), show l.length - 1 - (l.length - 1 - i) = i by omega, hx]
    · rw [List.getElem?_set_ne (by omega)]
      by_cases e1 : j = i
      · subst e1
        rw [List.getElem?_set_self (by simp; omega), if_pos (by omega), hy]
      · rw [List.getElem?_set_ne (by omega), h3]
        by_cases hc : j < i ∨ l.length ≤ j + i
        · rw [if_pos hc, if_pos (by omega)]
        · rw [if_neg hc, if_neg (by omega)]
theorem swapTo_rev (l : List Exp) : swapTo l (l.length / 2) = l.reverse := by
  apply List.ext_getElem?
  intro j
  by_cases hj : j < l.length
  · rw [swapTo_get l _ (by omega) j hj, List.getElem?_reverse hj]
    by_cases hc : j < l.length / 2 ∨ l.length ≤ j + l.length / 2
    · rw [if_pos hc]
    · rw [if_neg hc, show l.length - 1 - j = j by omega]
  · rw [List.getElem?_eq_none (by simp; omega), List.getElem?_eq_none (by simp; omega)]

end Go.Vs.Tryz
