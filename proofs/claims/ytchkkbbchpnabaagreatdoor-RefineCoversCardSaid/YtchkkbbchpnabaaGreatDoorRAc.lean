/- Substitution as the program does it: renaming by a name that does not occur (plain). -/
import Derived.Test.YtchkkbbchpnabaaGreatDoorR4c
import Derived.Test.YtchkkbbchpnabaaGreatDoorR3c
set_option linter.unusedSimpArgs false
set_option linter.unusedVariables false
set_option linter.deprecated false

/- Substitution as the program does it: renaming by a name that does not occur (plain). -/
namespace Go.Vs.Tryz
open Go Go.Vs

/-- An expression with other children. -/
def withM (e : Exp) (cs : List Exp) : Exp := .mk e.kind e.pos e.name e.num (cs.take e.kids.length) (armsW e.arms (cs.drop e.kids.length)) e.ty
theorem with_parts {e : Exp} {cs : List Exp} (h : cs.length = e.kids.length + e.arms.length) :
    (withM e cs).kids.length = e.kids.length ∧ (withM e cs).arms.length = e.arms.length ∧ (withM e cs).children = cs ∧ (∀ i : Nat, ((withM e cs).arms[i]?).map (·.1) = (e.arms[i]?).map (·.1)) := by
  have hal : (armsW e.arms (cs.drop e.kids.length)).length = e.arms.length := by simp_all
  refine ⟨?_, hal, ?_, fun i => ?_⟩
  · show (cs.take e.kids.length).length = _
    grind
  · show cs.take e.kids.length ++ (armsW e.arms (cs.drop e.kids.length)).map (·.2) = cs
    have : (armsW e.arms (cs.drop e.kids.length)).map (·.2) = cs.drop e.kids.length := by
      grind [armsW, zip_snd]
    simp_all
  · show ((armsW e.arms (cs.drop e.kids.length))[i]?).map (·.1) = _
    grind [armsW]
theorem with_bound {e : Exp} {cs : List Exp} (h : cs.length = e.kids.length + e.arms.length) (i : Nat) : (withM e cs).bound i = e.bound i := by
  have h4 := (with_parts h).2.2.2 (i - 1)
  rw [bound_some, bound_some]
  have k : (withM e cs).kind = e.kind := rfl
  have n : (withM e cs).name = e.name := rfl
  grind
theorem with_head {e : Exp} {cs : List Exp} (h : cs.length = e.kids.length + e.arms.length) : headEq e (withM e cs) ∧ armsEq e (withM e cs) := by
  obtain ⟨h1, h2, h3, h4⟩ := with_parts h
  refine ⟨⟨rfl, rfl, rfl, h1.symm, h2.symm⟩, fun i p q hp hq => ?_⟩
  grind
theorem with_weight {e : Exp} {cs : List Exp} (h : cs.length = e.kids.length + e.arms.length) : (withM e cs).weight = 1 + (e.arms.map fun a => a.1.vars.length).sum + (cs.map Exp.weight).sum := by
  obtain ⟨h1, h2, h3, h4⟩ := with_parts h
  rw [Exp.weight_eq, h3]
  congr 2
  congr 1
  refine List.ext_getElem? fun i => ?_
  grind
end Go.Vs.Tryz

/- When an expression arises from another one by filling its holes (plain). -/
namespace Go.Vs.Tryz
open Go Go.Vs

def covF (w : Bool) (a : Exp) (l : List (Exp → List Str → List Str → Prop)) (b : Exp) (left right : List Str) : Prop :=
  (w = true ∧ a.kind = 10) ∨ (headEq a b ∧ (a.kind = 1 → varEq left right a.name b.name) ∧ (a.kind = 2 → a.name = b.name) ∧
    (a.kind ≠ 1 → a.kind ≠ 2 → armsEq a b ∧ ∀ (i : Nat) f y, l[i]? = some f → b.children[i]? = some y → f y (left ++ a.bound i) (right ++ b.bound i)))
/-- Alpha-equal under binders; with w, a hole of the first stands for anything. -/
def covP (w : Bool) (a : Exp) : Exp → List Str → List Str → Prop := a.fold (covF w)
theorem covP_eq (w : Bool) (a b : Exp) (left right : List Str) : covP w a b left right = ((w = true ∧ a.kind = 10) ∨ (headEq a b ∧ (a.kind = 1 → varEq left right a.name b.name) ∧ (a.kind = 2 → a.name = b.name) ∧
    (a.kind ≠ 1 → a.kind ≠ 2 → armsEq a b ∧ ∀ (i : Nat) x y, a.children[i]? = some x → b.children[i]? = some y → covP w x y (left ++ a.bound i) (right ++ b.bound i)))) := by
  unfold covP
  rw [Exp.fold_eq]
  unfold covF
  simp only [List.getElem?_map, Option.map_eq_some_iff]
  apply propext
  refine or_congr Iff.rfl (and_congr_right fun _ => and_congr_right fun _ => and_congr_right fun _ => forall_congr' fun _ => forall_congr' fun _ => and_congr_right fun _ => forall_congr' fun i => ?_)
  constructor
  · exact fun h x y hx hy => h _ y ⟨x, hx, rfl⟩ hy
  · rintro h f y ⟨x, hx, rfl⟩ hy
    exact h x y hx hy
theorem alpha_cov (w : Bool) (a : Exp) : ∀ b l r, alphaP a b l r → covP w a b l r := by
  induction a using Exp.ind with
  | h a ih =>
    intro b l r h
    rw [alphaP_eq] at h
    rw [covP_eq]
    exact .inr ⟨h.1, h.2.1, h.2.2.1, fun k1 k2 => ⟨(h.2.2.2 k1 k2).1, fun i x y hx hy => ih x (List.mem_of_getElem? hx) y _ _ ((h.2.2.2 k1 k2).2 i x y hx hy)⟩⟩
theorem cov_alpha (a : Exp) : ∀ b l r, covP false a b l r ↔ alphaP a b l r := by
  induction a using Exp.ind with
  | h a ih =>
    intro b l r
    refine ⟨fun h => ?_, alpha_cov false a b l r⟩
    rw [covP_eq] at h
    rw [alphaP_eq]
    rcases h with ⟨h, _⟩ | h
    · cases h
    · exact ⟨h.1, h.2.1, h.2.2.1, fun k1 k2 => ⟨(h.2.2.2 k1 k2).1, fun i x y hx hy => (ih x (List.mem_of_getElem? hx) y _ _).1 ((h.2.2.2 k1 k2).2 i x y hx hy)⟩⟩
/-- A part put in another's place. -/
def putE (x : Exp) : List Nat → Exp → Exp
  | [], _ => x
  | k :: p, e => match e.children[k]? with
    | none => e
    | some y => withM e (e.children.set k (putE x p y))
theorem put_cov {x : Exp} (hx : x.kind = 10) : ∀ (p : List Nat) (e c : Exp) (l r : List Str), alphaP e c l r → covP true (putE x p e) c l r
  | [], e, c, l, r, _ => by
    rw [covP_eq]
    exact .inl ⟨rfl, hx⟩
  | k :: p, e, c, l, r, h => by
    unfold putE
    cases hk : e.children[k]? with
    | none => exact alpha_cov true e c l r h
    | some y =>
      simp only
      have hl : (e.children.set k (putE x p y)).length = e.kids.length + e.arms.length := by rw [List.length_set, e.children_len]
      obtain ⟨p1, p2, p3, p4⟩ := with_parts hl
      have hw := with_head hl
      rw [alphaP_eq] at h
      obtain ⟨hh, h1, h2, h3⟩ := h
      rw [covP_eq]
      refine .inr ⟨⟨hh.1, hh.2.1, hh.2.2.1, by rw [p1]; exact hh.2.2.2.1, by rw [p2]; exact hh.2.2.2.2⟩, h1, h2, fun k1 k2 => ?_⟩
      obtain ⟨ha, hc⟩ := h3 k1 k2
      refine ⟨fun i q s hq hs => ?_, fun i u v hu hv => ?_⟩
      · have e1 := p4 i
        rw [hq] at e1
        cases h5 : e.arms[i]? with
        | none => rw [h5] at e1; simp at e1
        | some a =>
          rw [h5] at e1
          simp only [Option.map_some, Option.some.injEq] at e1
          rw [e1]
          exact ha i a s h5 hs
      · rw [p3] at hu
        rw [with_bound hl]
        by_cases hik : i = k
        · subst hik
          rw [List.getElem?_set_self (List.getElem?_eq_some_iff.1 hk).1] at hu
          cases hu
          exact put_cov hx p y v _ _ (hc i y v hk hv)
        · rw [List.getElem?_set_ne (fun q => hik q.symm)] at hu
          exact alpha_cov true u v _ _ (hc i u v hu hv)
end Go.Vs.Tryz
