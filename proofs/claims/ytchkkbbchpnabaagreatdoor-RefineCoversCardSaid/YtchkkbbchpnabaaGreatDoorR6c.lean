/- Comparing names and types by the program, walked: 0 exactly for the same. -/
import Derived.Test.YtchkkbbchpnabaaGreatDoorR5c
import Derived.Test.YtchkkbbchpnabaaGreatDoorR3c
set_option linter.unusedSimpArgs false
set_option linter.unusedVariables false
set_option linter.deprecated false

/- Comparing names and types by the program, walked: 0 exactly for the same. -/
namespace Go.Vs.Tryz
open Go Go.Vs
variable {A : Oracle}

/-- A number that is 0 exactly if P, and small. -/
def ZeroB (P : Prop) (r : V × List Obj) : Prop := ∃ n : Int, (n = 0 ↔ P) ∧ one3 n ∧ r = (intV n, [])

theorem isNaN248 (a : Str) : (K A).call 338 [strV a] [] = some (boolV false, []) := by
  refine fn_of (vf := v338) (by kernel_rfl) rfl (by simp) ?_
  unfold v338
  simp (disch := first | omega | (simp; done) | (simp; omega))

@[simp] theorem b_slss {a b : Str} : binV .lss 0 (.sc (.c (.str a))) (.sc (.c (.str b))) = some (.sc (.c (.bool (Op.bytesLess a b))), []) := by simp [binV, binW, isShift, strBin]
@[simp] theorem b_sgtr {a b : Str} : binV .gtr 0 (.sc (.c (.str a))) (.sc (.c (.str b))) = some (.sc (.c (.bool !(Op.bytesLess a b || a == b))), []) := by simp [binV, binW, isShift, strBin]
theorem less_self : ∀ a : Str, Op.bytesLess a a = false
  | [] => rfl
  | c :: r => by
    have ih := less_self r
    simp [Op.bytesLess, ih]

theorem compare215 (a b : Str) : ∃ r, ZeroB (a = b) r ∧ (K A).call 301 [strV a, strV b] [] = some r := by
  refine fn_ofE _ (vf := v301) (by kernel_rfl) rfl (by simp) ?_
  have h1 := isNaN248 (A := A) a
  have h2 := isNaN248 (A := A) b
  unfold v301
  by_cases he : a = b
  · subst he
    simp (disch := first | omega | (simp; done) | (simp; omega)) [h1, h2, less_self]
    exact ⟨0, by simp, ⟨by decide, by decide⟩, rfl⟩
  · cases hl : Op.bytesLess a b with
    | true =>
      simp (disch := first | omega | (simp; done) | (simp; omega)) [h1, h2, hl]
      exact ⟨-1, by simp [he], ⟨by decide, by decide⟩, rfl⟩
    | false =>
      have hb : (a == b) = false := beq_eq_false_iff_ne.2 he
      simp (disch := first | omega | (simp; done) | (simp; omega)) [h1, h2, hl, hb]
      exact ⟨1, by simp [he], ⟨by decide, by decide⟩, rfl⟩

set_option maxHeartbeats 2000000 in
theorem tcmp216 (l m : List Ty) (hl : l.length ≤ 687194767360) (ih : ∀ x ∈ l, ∀ b, ∃ r, ZeroB (x = b) r ∧ (K A).call 243 [tyV x, tyV b] [] = some r) :
    ∃ r, ZeroB (l = m) r ∧ (K A).call 302 [tysV l, tysV m, .sc (.c (.fn 243 [] []))] [] = some r := by
  refine fn_ofE _ (vf := v302) (by kernel_rfl) rfl (by simp) ?_
  unfold v302
  simp (disch := first | omega | (simp; done) | (simp; omega))
  refine wp_loopI (fun i s => (i ≤ m.length ∧ ∀ (j : Nat) x y, j < i → l[j]? = some x → m[j]? = some y → x = y) ∧ s = ⟨[(0, tysV l), (1, tysV m), (2, .sc (.c (.fn 243 [] []))), (11, tysV l), (12, intV l.length), (13, intV i)], []⟩) l.length ⟨by simp, by simp⟩ ?_ ?_
  · rintro i s hi ⟨⟨him, hs⟩, rfl⟩
    obtain ⟨x, hx⟩ := get_of_lt hi
    unfold l302_0
    by_cases hlt : i < m.length
    · obtain ⟨y, hy⟩ := get_of_lt (l := m) (i := i) hlt
      obtain ⟨_, ⟨n, hn, hb, rfl⟩, hc⟩ := ih x (List.mem_of_getElem? hx) y
      have hlt2 : ¬ (m.length : Int) ≤ i := by omega
      by_cases h0 : n = 0
      · have hxy := hn.1 h0
        subst h0
        simp (disch := first | omega | (simp; done) | (simp; omega)) [hi, hx, hy, hc, hlt, hlt2, -getElem?_pos]
        refine ⟨hlt, ?_⟩
        intro j x' y' hj hx' hy'
        by_cases hji : j = i
        · subst hji
          rw [hx] at hx'
          rw [hy] at hy'
          cases hx'
          cases hy'
          exact hxy
        · exact hs j x' y' (by omega) hx' hy'
      · simp (disch := first | omega | (simp; done) | (simp; omega)) [hi, hx, hy, hc, hlt, hlt2, h0, -getElem?_pos]
        refine ⟨n, ⟨fun h => absurd h h0, fun h => ?_⟩, hb, rfl⟩
        subst h
        rw [hx] at hy
        cases hy
        exact hn.2 rfl
    · have hlt2 : (m.length : Int) ≤ i := by omega
      simp (disch := first | omega | (simp; done) | (simp; omega)) [hi, hx, hlt, hlt2, -getElem?_pos]
      exact ⟨1, ⟨fun h => by omega, fun h => absurd (h ▸ hi) hlt⟩, ⟨by decide, by decide⟩, rfl⟩
  · rintro s ⟨⟨him, hs⟩, rfl⟩
    unfold l302_0
    by_cases hlt : l.length < m.length
    · simp (disch := first | omega | (simp; done) | (simp; omega)) [hlt]
      exact ⟨-1, ⟨fun h => by omega, fun h => by rw [h] at hlt; omega⟩, ⟨by decide, by decide⟩, rfl⟩
    · simp (disch := first | omega | (simp; done) | (simp; omega)) [hlt]
      exact ⟨0, ⟨fun _ => list_eq (by omega) fun i x y hx hy => hs i x y (List.getElem?_eq_some_iff.1 hx).1 hx hy, fun _ => rfl⟩, ⟨by decide, by decide⟩, rfl⟩

set_option maxRecDepth 10000 in
set_option maxHeartbeats 4000000 in
theorem tcmp162 : ∀ (n : Nat) (a b : Ty), a.size ≤ n → n ≤ 687194767360 → ∃ r, ZeroB (a = b) r ∧ (K A).call 243 [tyV a, tyV b] [] = some r := by
  intro n
  induction n with
  | zero =>
    intro a b ha
    have := a.size_pos
    omega
  | succ n ih =>
    intro a b ha hn
    have hal := a.args_lt
    refine fn_ofE _ (vf := v243) (by kernel_rfl) rfl (by simp) ?_
    have c1 := compare67 (A := A) a.kind b.kind
    obtain ⟨_, ⟨k2, h2, b2, rfl⟩, c2⟩ := compare215 (A := A) a.name b.name
    have c3 := compare67 (A := A) a.id b.id
    have c4 := compare67 (A := A) a.home b.home
    have c5 := compare67 (A := A) a.args.length b.args.length
    have c6 := or70 (A := A) [cmpI a.kind b.kind, k2, cmpI a.id b.id, cmpI a.home b.home, cmpI a.args.length b.args.length] (by simp)
    have h0 : orI [cmpI a.kind b.kind, k2, cmpI a.id b.id, cmpI a.home b.home, cmpI a.args.length b.args.length] = 0 ↔ a.kind = b.kind ∧ a.name = b.name ∧ a.id = b.id ∧ a.home = b.home ∧ a.args.length = b.args.length := by
      rw [orI_eq_zero]
      simp only [List.forall_mem_cons, cmpI_zero, h2, List.not_mem_nil, false_imp_iff, implies_true, and_true, Int.natCast_inj]
    have ho : one3 (orI [cmpI a.kind b.kind, k2, cmpI a.id b.id, cmpI a.home b.home, cmpI a.args.length b.args.length]) := by
      refine orI_one3 fun x hx => ?_
      simp only [List.mem_cons, List.not_mem_nil, or_false] at hx
      rcases hx with rfl | rfl | rfl | rfl | rfl
      · exact cmpI_one3 _ _
      · exact b2
      · exact cmpI_one3 _ _
      · exact cmpI_one3 _ _
      · exact cmpI_one3 _ _
    have hr : intRows [cmpI a.kind b.kind, k2, cmpI a.id b.id, cmpI a.home b.home, cmpI a.args.length b.args.length] = [[.int .i64 (cmpI a.kind b.kind)], [.int .i64 k2], [.int .i64 (cmpI a.id b.id)], [.int .i64 (cmpI a.home b.home)], [.int .i64 (cmpI a.args.length b.args.length)]] := rfl
    simp only [intsV, hr] at c6
    generalize orI [cmpI a.kind b.kind, k2, cmpI a.id b.id, cmpI a.home b.home, cmpI a.args.length b.args.length] = z at c6 h0 ho
    unfold v243
    by_cases hz : z = 0
    · obtain ⟨e1, e2, e3, e4, e5⟩ := h0.1 hz
      subst hz
      obtain ⟨_, ⟨q, hq, hb, rfl⟩, c7⟩ := tcmp216 (A := A) a.args b.args (by omega) (fun x hx b => ih x b (by have := Ty.arg_lt hx; omega) (by omega))
      simp (disch := first | omega | (simp; done) | (simp; omega)) [c1, c2, c3, c4, c5, c6, c7]
      exact ⟨q, hq.trans ⟨fun h => Ty.ext e1 e2 e3 e4 h, fun h => by rw [h]⟩, hb, rfl⟩
    · simp (disch := first | omega | (simp; done) | (simp; omega)) [c1, c2, c3, c4, c5, c6, hz]
      exact ⟨z, ⟨fun h => absurd h hz, fun h => absurd (h0.2 ⟨by rw [h], by rw [h], by rw [h], by rw [h], by rw [h]⟩) hz⟩, ho, rfl⟩

theorem tequal114 (a b : Ty) (ha : a.size ≤ 687194767360) : ∃ r, IffB (a = b) r ∧ (K A).call 157 [tyV a, tyV b] [] = some r := by
  refine fn_ofE _ (vf := v157) (by kernel_rfl) rfl (by simp) ?_
  obtain ⟨_, ⟨q, hq, _, rfl⟩, hc⟩ := tcmp162 (A := A) 687194767360 a b ha (by omega)
  unfold v157
  by_cases h0 : q = 0
  · simp (disch := first | omega | (simp; done) | (simp; omega)) [hc, h0]
    exact IffB.yes (hq.1 h0)
  · simp (disch := first | omega | (simp; done) | (simp; omega)) [hc, h0]
    exact IffB.no fun h => h0 (hq.2 h)
end Go.Vs.Tryz

/- Two terms compare as equal exactly if they are alpha-equal; comparisons chain (plain). -/
namespace Go.Vs.Tryz
open Go Go.Vs

theorem good_num {a b : Exp} (ga : good a) (gb : good b) : a.num = b.num ∧ a.ty = b.ty := by
  obtain ⟨_, na, ya, _⟩ := ga.one
  obtain ⟨_, nb, yb, _⟩ := gb.one
  exact ⟨by rw [na, nb], by rw [ya, yb]⟩

theorem bound_none {e : Exp} (h : e.kind = 1 ∨ e.kind = 2 ∨ e.kind = 5) (i : Nat) : e.bound i = [] := by
  rw [bound_some, if_neg (by omega), if_neg (by omega)]

/-- Alpha-equal functions and arguments. -/
theorem alpha_app {a b f x g y : Exp} {l m : List Str} (ga : good a) (gb : good b) (ha : a.kind = 5) (hb : b.kind = 5) (ka : a.kids = [f, x]) (kb : b.kids = [g, y]) (ra : a.arms = []) (rb : b.arms = []) :
    alphaP a b l m ↔ alphaP f g l m ∧ alphaP x y l m := by
  have ca : a.children = [f, x] := by simp [Exp.children, ka, ra]
  have cb : b.children = [g, y] := by simp [Exp.children, kb, rb]
  have na := good_num ga gb
  rw [alphaP_eq]
  constructor
  · rintro ⟨_, _, _, h⟩
    obtain ⟨_, h⟩ := h (by omega) (by omega)
    have h1 := h 0 f g (by rw [ca]; rfl) (by rw [cb]; rfl)
    have h2 := h 1 x y (by rw [ca]; rfl) (by rw [cb]; rfl)
    rw [bound_none (by omega), bound_none (by omega), List.append_nil, List.append_nil] at h1 h2
    exact ⟨h1, h2⟩
  · rintro ⟨h1, h2⟩
    refine ⟨⟨by omega, na.1, na.2, by rw [ka, kb]; rfl, by rw [ra, rb]⟩, fun h => by omega, fun h => by omega, fun _ _ => ⟨fun i p q hp => by rw [ra] at hp; simp at hp, fun i u v hu hv => ?_⟩⟩
    rw [bound_none (by omega), bound_none (by omega), List.append_nil, List.append_nil]
    rw [ca] at hu
    rw [cb] at hv
    match i with
    | 0 => cases hu; cases hv; exact h1
    | 1 => cases hu; cases hv; exact h2
    | i + 2 => simp at hu

def Heady (e : Exp) : Prop := e.kind = 1 ∨ e.kind = 2 ∨ e.kind = 5

theorem alpha_spine (a : Exp) : ∀ (b : Exp) (l m : List Str), good a → good b → Heady a → Heady b →
    (alphaP a b l m ↔ alphaP (spine a).1 (spine b).1 l m ∧ (spine a).2.length = (spine b).2.length ∧ ∀ (i : Nat) x y, (spine a).2[i]? = some x → (spine b).2[i]? = some y → alphaP x y l m) := by
  induction a using Exp.ind with
  | h a ih =>
    intro b l m ga gb ka kb
    by_cases ha : a.kind = 5
    · obtain ⟨_, _, ⟨f, x, hfx, hf, gf, gx⟩, hra⟩ : a.kind = 5 ∧ a.name = [] ∧ (∃ f x, a.kids = [f, x] ∧ (f.kind = 1 ∨ f.kind = 2 ∨ f.kind = 5) ∧ good f ∧ good x) ∧ a.arms = [] := by
        rcases ga.cases with h | h | h | h | h
        · omega
        · omega
        · omega
        · exact h
        · omega
      have ca : a.children = [f, x] := by simp [Exp.children, hfx, hra]
      by_cases hb : b.kind = 5
      · obtain ⟨_, _, ⟨g, y, hgy, hg, gg, gy⟩, hrb⟩ : b.kind = 5 ∧ b.name = [] ∧ (∃ f x, b.kids = [f, x] ∧ (f.kind = 1 ∨ f.kind = 2 ∨ f.kind = 5) ∧ good f ∧ good x) ∧ b.arms = [] := by
          rcases gb.cases with h | h | h | h | h
          · omega
          · omega
          · omega
          · exact h
          · omega
        rw [alpha_app ga gb ha hb hfx hgy hra hrb, spine_app ha hfx, spine_app hb hgy, ih f (by simp [ca]) g l m gf gg hf hg]
        simp only [List.length_append, List.length_singleton]
        constructor
        · rintro ⟨⟨h1, h2, h3⟩, h4⟩
          refine ⟨h1, by omega, fun i u v hu hv => ?_⟩
          by_cases hi : i < (spine f).2.length
          · rw [List.getElem?_append_left hi] at hu
            rw [List.getElem?_append_left (by omega)] at hv
            exact h3 i u v hu hv
          · rw [List.getElem?_append_right (by omega)] at hu
            rw [List.getElem?_append_right (by omega)] at hv
            have hi0 : i - (spine f).2.length = 0 := by
              have := (List.getElem?_eq_some_iff.1 hu).1
              simp at this
              omega
            have hi1 : i - (spine g).2.length = 0 := by omega
            rw [hi0] at hu
            rw [hi1] at hv
            cases hu
            cases hv
            exact h4
        · rintro ⟨h1, h2, h3⟩
          have h2' : (spine f).2.length = (spine g).2.length := by omega
          refine ⟨⟨h1, h2', fun i u v hu hv => ?_⟩, ?_⟩
          · have hi := (List.getElem?_eq_some_iff.1 hu).1
            exact h3 i u v (by rw [List.getElem?_append_left hi]; exact hu) (by rw [List.getElem?_append_left (by omega)]; exact hv)
          · exact h3 (spine f).2.length x y (by simp) (by rw [h2']; simp)
      · rw [spine_app ha hfx, spine_no hb]
        constructor
        · intro h
          rw [alphaP_eq] at h
          have := h.1.1
          omega
        · rintro ⟨_, h, _⟩
          simp at h
    · by_cases hb : b.kind = 5
      · obtain ⟨_, _, ⟨g, y, hgy, hg, gg, gy⟩, hrb⟩ : b.kind = 5 ∧ b.name = [] ∧ (∃ f x, b.kids = [f, x] ∧ (f.kind = 1 ∨ f.kind = 2 ∨ f.kind = 5) ∧ good f ∧ good x) ∧ b.arms = [] := by
          rcases gb.cases with h | h | h | h | h
          · omega
          · omega
          · omega
          · exact h
          · omega
        rw [spine_app hb hgy, spine_no ha]
        constructor
        · intro h
          rw [alphaP_eq] at h
          have := h.1.1
          omega
        · rintro ⟨_, h, _⟩
          simp at h
      · rw [spine_no ha, spine_no hb]
        simp

theorem alpha_size (a : Exp) : ∀ (b : Exp) (l m : List Str), alphaP a b l m → (a.kind = 1 ∨ a.kind = 2 → a.children = [] ∧ b.children = []) → good a → good b → sizeM a = sizeM b := by
  induction a using Exp.ind with
  | h a ih =>
    intro b l m h _ ga gb
    have leaf : ∀ {e : Exp}, good e → e.kind = 1 ∨ e.kind = 2 → e.children = [] := by
      intro e g k
      rcases g.cases with h | h | h | h | h
      · simp [Exp.children, h.2.2.1, h.2.2.2]
      · simp [Exp.children, h.2.2.1, h.2.2.2]
      · omega
      · omega
      · omega
    rw [alphaP_eq] at h
    obtain ⟨h1, h2, h3, h4⟩ := h
    rw [sizeM_eq, sizeM_eq, h1.1]
    have hc : a.children.map sizeM = b.children.map sizeM := by
      by_cases k : a.kind = 1 ∨ a.kind = 2
      · rw [leaf ga k, leaf gb (by rw [← h1.1]; exact k)]
      · obtain ⟨_, h6⟩ := h4 (by omega) (by omega)
        refine List.ext_getElem? fun i => ?_
        rw [List.getElem?_map, List.getElem?_map]
        by_cases hi : i < a.children.length
        · obtain ⟨x, hx⟩ := get_of_lt hi
          obtain ⟨y, hy⟩ := get_of_lt (l := b.children) (i := i) (by rw [← h1.children]; exact hi)
          have gx := ga.child (List.mem_of_getElem? hx)
          have gy := gb.child (List.mem_of_getElem? hy)
          have hxy := h6 i x y hx hy
          have := ih x (List.mem_of_getElem? hx) y _ _ hxy (fun k => ⟨leaf gx k, leaf gy (by rw [alphaP_eq] at hxy; rw [← hxy.1.1]; exact k)⟩) gx gy
          rw [hx, hy]
          simp [this]
        · rw [List.getElem?_eq_none (by omega), List.getElem?_eq_none (by rw [← h1.children]; omega)]
    rw [hc]
theorem alpha_size' {a b : Exp} {l m : List Str} (h : alphaP a b l m) (ga : good a) (gb : good b) : sizeM a = sizeM b := by
  have leaf : ∀ {e : Exp}, good e → e.kind = 1 ∨ e.kind = 2 → e.children = [] := by
    intro e g k
    rcases g.cases with h | h | h | h | h
    · simp [Exp.children, h.2.2.1, h.2.2.2]
    · simp [Exp.children, h.2.2.1, h.2.2.2]
    · omega
    · omega
    · omega
  exact alpha_size a b l m h (fun k => ⟨leaf ga k, leaf gb (by rw [alphaP_eq] at h; rw [← h.1.1]; exact k)⟩) ga gb

theorem zip_zero {α : Type} {f : α → α → Int} : ∀ {l m : List α}, (∀ x ∈ List.zipWith f l m, x = 0) ↔ ∀ (i : Nat) p q, l[i]? = some p → m[i]? = some q → f p q = 0
  | [], m => by simp
  | _ :: _, [] => by simp
  | a :: l, b :: m => by
    simp only [List.zipWith_cons_cons, List.mem_cons, forall_eq_or_imp, zip_zero (f := f) (l := l) (m := m)]
    constructor
    · rintro ⟨h1, h2⟩ i p q hp hq
      cases i with
      | zero => cases hp; cases hq; exact h1
      | succ i => exact h2 i p q (by simpa using hp) (by simpa using hq)
    · intro h
      exact ⟨h 0 a b rfl rfl, fun i p q hp hq => h (i + 1) p q (by simpa using hp) (by simpa using hq)⟩
theorem Tri_zip {α : Type} {f g h : α → α → Int} {p q r : Int} (ht : Tri p q r) : ∀ {la lb lc : List α}, la.length = lb.length → lb.length = lc.length → (∀ (i : Nat) x y z, la[i]? = some x → lb[i]? = some y → lc[i]? = some z → Tri (f x y) (g y z) (h x z)) →
    Tri (orI (List.zipWith f la lb ++ [p])) (orI (List.zipWith g lb lc ++ [q])) (orI (List.zipWith h la lc ++ [r]))
  | [], [], [], _, _, _ => by simpa [orI_one] using ht
  | a :: la, b :: lb, c :: lc, h1, h2, h3 => by
    simp only [List.zipWith_cons_cons, List.cons_append]
    exact Tri_cons (h3 0 a b c rfl rfl rfl) fun _ _ _ => Tri_zip ht (by simpa using h1) (by simpa using h2) fun i x y z hx hy hz => h3 (i + 1) x y z (by simpa using hx) (by simpa using hy) (by simpa using hz)
theorem zip_tail (l : List Int) : orI l = orI (l ++ [0]) := by
  induction l with
  | nil => rfl
  | cons a r ih => rw [List.cons_append, orI_cons, orI_cons, ih]
end Go.Vs.Tryz

/- Two terms compare as equal exactly if they are alpha-equal; comparisons chain: the induction (plain). -/
namespace Go.Vs.Tryz
open Go Go.Vs

theorem inScope_child {ds : List DataD} {e x : Exp} {N : List Str} {i : Nat} (h : inScope ds e N) (hx : e.children[i]? = some x) : inScope ds x (N ++ e.bound i) := by
  rw [inScope_eq] at h
  exact h.2 i x hx
theorem good.app {e : Exp} (g : good e) (h : e.kind = 5) : ∃ f x, e.kids = [f, x] ∧ Heady f ∧ good f ∧ good x ∧ e.arms = [] := by
  rcases g.cases with h1 | h1 | h1 | ⟨_, _, ⟨f, x, h2, h3, h4, h5⟩, h6⟩ | h1
  · omega
  · omega
  · omega
  · exact ⟨f, x, h2, h3, h4, h5, h6⟩
  · omega
theorem good.lam {e : Exp} (g : good e) (h : e.kind = 4) : ∃ x, e.kids = [x] ∧ good x ∧ e.arms = [] := by
  rcases g.cases with h1 | h1 | ⟨_, _, ⟨x, h2, h3⟩, h4⟩ | h1 | h1
  · omega
  · omega
  · exact ⟨x, h2, h3, h4⟩
  · omega
  · omega
theorem good.case {e : Exp} (g : good e) (h : e.kind = 8) : ∃ x, e.kids = [x] ∧ x.kind = 1 ∧ good x ∧ e.arms ≠ [] ∧ ∀ a ∈ e.arms, good a.2 := by
  rcases g.cases with h1 | h1 | h1 | h1 | ⟨_, _, ⟨x, h2, h3, h4⟩, h5, h6⟩
  · omega
  · omega
  · omega
  · omega
  · exact ⟨x, h2, h3, h4, h5, fun a ha => (h6 a ha).2.2.2.2⟩
theorem good.heady {e : Exp} (g : good e) (h4 : e.kind ≠ 4) (h8 : e.kind ≠ 8) : Heady e := by
  rcases g.cases with h1 | h1 | h1 | h1 | h1
  · exact .inl h1.1
  · exact .inr (.inl h1.1)
  · exact absurd h1.1 h4
  · exact .inr (.inr h1.1)
  · exact absurd h1.1 h8

theorem inScope_spine {ds : List DataD} {N : List Str} (e : Exp) : good e → Heady e → inScope ds e N → inScope ds (spine e).1 N ∧ ∀ x ∈ (spine e).2, inScope ds x N := by
  induction e using Exp.ind with
  | h e ih =>
    intro g k s
    by_cases h5 : e.kind = 5
    · obtain ⟨f, x, hk, hf, gf, gx, ha⟩ := g.app h5
      have hc : e.children = [f, x] := by simp [Exp.children, hk, ha]
      have s1 := inScope_child (i := 0) (x := f) s (by rw [hc]; rfl)
      have s2 := inScope_child (i := 1) (x := x) s (by rw [hc]; rfl)
      rw [bound_none (by omega), List.append_nil] at s1 s2
      obtain ⟨t1, t2⟩ := ih f (by simp [hc]) gf hf s1
      rw [spine_app h5 hk]
      refine ⟨t1, fun y hy => ?_⟩
      rcases List.mem_append.1 hy with hy | hy
      · exact t2 y hy
      · simp only [List.mem_singleton] at hy
        exact hy ▸ s2
    · rw [spine_no h5]
      exact ⟨s, by simp⟩

/-- The parts of an analysis that count. -/
structure CaseP (ds : List DataD) (N : List Str) (e x : Exp) (d : DataD) : Prop where
  kids : e.kids = [x]
  kind : x.kind = 1
  good : Go.Vs.Tryz.good x
  sc : inScope ds x N
  ne : e.arms ≠ []
  mem : d ∈ ds
  cons : (e.arms.map fun a => a.1.con) = cnames d
  vars : (e.arms.map fun a => a.1.vars.length) = d.cons.map fun c => c.fields.length
  arms : ∀ (i : Nat) a, e.arms[i]? = some a → Go.Vs.Tryz.good a.2 ∧ inScope ds a.2 (N ++ a.1.vars) ∧ a.2.weight < e.weight
theorem caseP {ds : List DataD} {N : List Str} {e : Exp} (g : good e) (h : e.kind = 8) (s : inScope ds e N) : ∃ x d, CaseP ds N e x d := by
  obtain ⟨x, hk, hx, gx, hne, hall⟩ := g.case h
  have s' := s
  rw [inScope_eq] at s'
  obtain ⟨d, hd, h1, h2⟩ := s'.1.2.2 h
  refine ⟨x, d, hk, hx, gx, ?_, hne, hd, h1, h2, fun i a ha => ⟨hall a (List.mem_of_getElem? ha), ?_, Exp.child_lt (arm_mem (List.mem_of_getElem? ha))⟩⟩
  · have := inScope_child (i := 0) (x := x) s (by simp [Exp.children, hk])
    rw [bound_some, if_neg (by omega), if_neg (by omega), List.append_nil] at this
    exact this
  · have := inScope_child (i := i + 1) (x := a.2) s (by simp [Exp.children, hk, ha])
    rw [bound_some, if_neg (by omega), if_pos (by omega), Nat.add_sub_cancel, ha] at this
    exact this
theorem CaseP.con0 {ds : List DataD} {N : List Str} {e x : Exp} {d : DataD} (h : CaseP ds N e x d) : ∃ s, (cnames d)[0]? = some s ∧ Go.Vs.Tryz.con0 e = conExp s := by
  cases ha : e.arms with
  | nil => exact absurd ha h.ne
  | cons a r =>
    refine ⟨a.1.con, ?_, ?_⟩
    · rw [← h.cons, ha]; rfl
    · unfold Go.Vs.Tryz.con0
      rw [ha]; rfl
/-- Analyses whose first arms have constructors of the same rank have the same arms. -/
theorem CaseP.same {ds : List DataD} {S N l m : List Str} {a b x y : Exp} {d d' : DataD} (hu : uniq ds) (hlm : l.length = m.length) (ha : CaseP ds (N ++ l) a x d) (hb : CaseP ds (N ++ m) b y d') : rankM ds S l (Go.Vs.Tryz.con0 a) = rankM ds S m (Go.Vs.Tryz.con0 b) ↔ d = d' := by
  obtain ⟨s, h1, h2⟩ := ha.con0
  obtain ⟨t, h3, h4⟩ := hb.con0
  have m1 : s ∈ cnames d := List.mem_of_getElem? h1
  have m2 : t ∈ cnames d' := List.mem_of_getElem? h3
  rw [h2, h4, con_rank (a := conExp s) (b := conExp t) hlm rfl rfl ⟨d, ha.mem, m1⟩ ⟨d', hb.mem, m2⟩]
  show s = t ↔ _
  constructor
  · rintro rfl
    exact hu d ha.mem d' hb.mem s m1 m2
  · rintro rfl
    rw [h1] at h3
    exact Option.some.inj h3
theorem CaseP.len {ds : List DataD} {N : List Str} {e x : Exp} {d : DataD} (h : CaseP ds N e x d) : e.arms.length = d.cons.length := by
  have := congrArg List.length h.vars
  simpa using this
theorem CaseP.vlen {ds : List DataD} {N M : List Str} {a b x y : Exp} {d : DataD} (h : CaseP ds N a x d) (h' : CaseP ds M b y d) {i : Nat} {p q : ArmH × Exp} (hp : a.arms[i]? = some p) (hq : b.arms[i]? = some q) : p.1.con = q.1.con ∧ p.1.vars.length = q.1.vars.length := by
  have e1 : (a.arms.map fun a => a.1.con)[i]? = (b.arms.map fun a => a.1.con)[i]? := by rw [h.cons, h'.cons]
  have e2 : (a.arms.map fun a => a.1.vars.length)[i]? = (b.arms.map fun a => a.1.vars.length)[i]? := by rw [h.vars, h'.vars]
  rw [List.getElem?_map, List.getElem?_map, hp, hq] at e1 e2
  exact ⟨Option.some.inj e1, Option.some.inj e2⟩

theorem kid0_of {e x : Exp} {r : List Exp} (h : e.kids = x :: r) : kid0 e = x := by unfold kid0; rw [h]; rfl

theorem orI3 {a b c : Int} : orI [a, b, c] = 0 ↔ a = 0 ∧ b = 0 ∧ c = 0 := by
  rw [orI_eq_zero]
  simp

theorem cmp_zero {ds : List DataD} {S N : List Str} (hu : uniq ds) (hS : ∀ s ∈ N, s ∈ S) : ∀ (n : Nat) (a b : Exp) (l m : List Str), a.weight ≤ n → good a → good b → l.length = m.length → inScope ds a (N ++ l) → inScope ds b (N ++ m) →
    (cmpF (rankM ds S) n l m a b = 0 ↔ alphaP a b l m) := by
  intro n
  induction n with
  | zero => intro a b l m h; have := a.weight_pos; omega
  | succ n ih =>
    intro a b l m hw ga gb hlm sa sb
    have hn := good_num ga gb
    have main : kindM a = kindM b → (cmpR (rankM ds S) n l m a b = 0 ↔ alphaP a b l m) := by
      intro hk
      obtain ⟨k4, k8⟩ := kind_of hk
      unfold cmpR
      by_cases h4 : a.kind = 4
      · obtain ⟨x, hx, gx, ra⟩ := ga.lam h4
        obtain ⟨y, hy, gy, rb⟩ := gb.lam (k4.1 h4)
        have ca : a.children = [x] := by simp [Exp.children, hx, ra]
        have cb : b.children = [y] := by simp [Exp.children, hy, rb]
        have ba : ∀ i, a.bound i = [a.name] := fun i => by rw [bound_some, if_pos (.inl h4)]
        have bb : ∀ i, b.bound i = [b.name] := fun i => by rw [bound_some, if_pos (.inl (k4.1 h4))]
        have s1 := inScope_child (i := 0) (x := x) sa (by rw [ca]; rfl)
        have s2 := inScope_child (i := 0) (x := y) sb (by rw [cb]; rfl)
        rw [ba, List.append_assoc] at s1
        rw [bb, List.append_assoc] at s2
        have hxw := Exp.child_lt (e := a) (x := x) (by rw [ca]; simp)
        rw [if_pos h4, kid0_of hx, kid0_of hy, ih x y (l ++ [a.name]) (m ++ [b.name]) (by omega) gx gy (by simp [hlm]) s1 s2, alphaP_eq a b]
        constructor
        · intro h
          refine ⟨⟨by rw [h4, k4.1 h4], hn.1, hn.2, by rw [hx, hy]; rfl, by rw [ra, rb]⟩, fun h => by omega, fun h => by omega, fun _ _ => ⟨fun i p q hp => by rw [ra] at hp; simp at hp, fun i u v hu hv => ?_⟩⟩
          rw [ca] at hu
          rw [cb] at hv
          rw [ba, bb]
          match i with
          | 0 => cases hu; cases hv; exact h
          | i + 1 => simp at hu
        · rintro ⟨_, _, _, h⟩
          have := (h (by omega) (by omega)).2 0 x y (by rw [ca]; rfl) (by rw [cb]; rfl)
          rw [ba, bb] at this
          exact this
      · rw [if_neg h4]
        by_cases h8 : a.kind = 8
        · obtain ⟨x, d, ha⟩ := caseP ga h8 sa
          obtain ⟨y, d', hb⟩ := caseP gb (k8.1 h8) sb
          have hsame := CaseP.same (S := S) hu hlm ha hb
          have hhead := head_rank (ds := ds) hS hlm ha.good hb.good (.inl ha.kind) (.inl hb.kind) ha.sc hb.sc
          rw [if_pos h8, kid0_of ha.kids, kid0_of hb.kids, orI_eq_zero]
          simp only [List.mem_cons, List.mem_append, List.mem_singleton, List.not_mem_nil, or_false, forall_eq_or_imp, cmpI_zero]
          have hz : (∀ z, z ∈ List.zipWith (fun p q => cmpF (rankM ds S) n (l ++ p.1.vars) (m ++ q.1.vars) p.2 q.2) a.arms b.arms ∨ z = cmpI a.arms.length b.arms.length → z = 0) ↔ a.arms.length = b.arms.length ∧ ∀ (i : Nat) p q, a.arms[i]? = some p → b.arms[i]? = some q → cmpF (rankM ds S) n (l ++ p.1.vars) (m ++ q.1.vars) p.2 q.2 = 0 := by
            have hzz := zip_zero (f := fun (p q : ArmH × Exp) => cmpF (rankM ds S) n (l ++ p.1.vars) (m ++ q.1.vars) p.2 q.2) (l := a.arms) (m := b.arms)
            rw [← hzz]
            constructor
            · intro h
              exact ⟨by have := cmpI_zero.1 (h _ (.inr rfl)); omega, fun z hz => h z (.inl hz)⟩
            · rintro ⟨h1, h2⟩ z (hz | rfl)
              · exact h2 z hz
              · exact cmpI_zero.2 (by omega)
          rw [hz, hhead, hsame, alphaP_eq a b]
          have arm : d = d' → ∀ (i : Nat) p q, a.arms[i]? = some p → b.arms[i]? = some q → (cmpF (rankM ds S) n (l ++ p.1.vars) (m ++ q.1.vars) p.2 q.2 = 0 ↔ alphaP p.2 q.2 (l ++ p.1.vars) (m ++ q.1.vars)) := by
            rintro rfl i p q hp hq
            obtain ⟨g1, s1, w1⟩ := ha.arms i p hp
            obtain ⟨g2, s2, _⟩ := hb.arms i q hq
            rw [List.append_assoc] at s1 s2
            exact ih p.2 q.2 _ _ (by omega) g1 g2 (by have := (CaseP.vlen ha hb hp hq).2; simp; omega) s1 s2
          have bnd : ∀ {e : Exp} {i : Nat} {p : ArmH × Exp}, e.kind = 8 → e.arms[i]? = some p → e.bound (i + 1) = p.1.vars := by
            intro e i p he hp
            rw [bound_some, if_neg (by omega), if_pos (by omega), Nat.add_sub_cancel, hp]
            rfl
          have bnd0 : ∀ {e : Exp}, e.kind = 8 → e.bound 0 = [] := by
            intro e he
            rw [bound_some, if_neg (by omega), if_neg (by omega)]
          constructor
          · rintro ⟨h1, h2, h3, h5⟩
            subst h2
            refine ⟨⟨by rw [h8, k8.1 h8], hn.1, hn.2, by rw [ha.kids, hb.kids]; rfl, h3⟩, fun h => by omega, fun h => by omega, fun _ _ => ⟨fun i p q hp hq => CaseP.vlen ha hb hp hq, fun i u v hu hv => ?_⟩⟩
            cases i with
            | zero =>
              rw [bnd0 h8, bnd0 (k8.1 h8), List.append_nil, List.append_nil]
              simp [Exp.children, ha.kids] at hu
              simp [Exp.children, hb.kids] at hv
              subst hu hv
              exact h1
            | succ i =>
              simp [Exp.children, ha.kids] at hu
              simp [Exp.children, hb.kids] at hv
              obtain ⟨p1, hp⟩ := hu
              obtain ⟨q1, hq⟩ := hv
              rw [bnd h8 hp, bnd (k8.1 h8) hq]
              exact (arm rfl i _ _ hp hq).1 (h5 i _ _ hp hq)
          · rintro ⟨⟨_, _, _, _, h3⟩, _, _, h6⟩
            obtain ⟨h6, h7⟩ := h6 (by omega) (by omega)
            have hd : d = d' := by
              obtain ⟨s, q1, q2⟩ := ha.con0
              obtain ⟨t, q3, q4⟩ := hb.con0
              have hst : s = t := by
                rw [← ha.cons, List.getElem?_map] at q1
                rw [← hb.cons, List.getElem?_map] at q3
                obtain ⟨p, hp, rfl⟩ := Option.map_eq_some_iff.1 q1
                obtain ⟨q, hq, rfl⟩ := Option.map_eq_some_iff.1 q3
                exact (h6 0 p q hp hq).1
              subst hst
              exact hu d ha.mem d' hb.mem s (List.mem_of_getElem? q1) (List.mem_of_getElem? q3)
            refine ⟨?_, hd, h3, fun i p q hp hq => (arm hd i p q hp hq).2 ?_⟩
            · have := h7 0 x y (by simp [Exp.children, ha.kids]) (by simp [Exp.children, hb.kids])
              rw [bnd0 h8, bnd0 (k8.1 h8), List.append_nil, List.append_nil] at this
              exact this
            · have := h7 (i + 1) p.2 q.2 (by simp [Exp.children, ha.kids, hp]) (by simp [Exp.children, hb.kids, hq])
              rw [bnd h8 hp, bnd (k8.1 h8) hq] at this
              exact this
        · have ka := ga.heady h4 h8
          have kb := gb.heady (fun h => h4 (k4.2 h)) (fun h => h8 (k8.2 h))
          obtain ⟨p1, p2, p3, _, p5⟩ := spine_good a ga ka
          obtain ⟨q1, q2, q3, _, _⟩ := spine_good b gb kb
          obtain ⟨s1, s2⟩ := inScope_spine a ga ka sa
          obtain ⟨t1, t2⟩ := inScope_spine b gb kb sb
          rw [if_neg h8, orI3, cmpI_zero, cmpI_zero, orI_eq_zero, zip_zero, head_rank hS hlm p2 q2 p1 q1 s1 t1, alpha_spine a b l m ga gb ka kb]
          refine and_congr_right fun _ => ?_
          constructor
          · rintro ⟨h1, h2⟩
            refine ⟨by omega, fun i x y hx hy => ?_⟩
            have mx := List.mem_of_getElem? hx
            have my := List.mem_of_getElem? hy
            have := sum_mem (f := Exp.weight) mx
            exact (ih x y l m (by omega) (p3 x mx) (q3 y my) hlm (s2 x mx) (t2 y my)).1 (h2 i x y hx hy)
          · rintro ⟨h1, h2⟩
            refine ⟨by omega, fun i x y hx hy => ?_⟩
            have mx := List.mem_of_getElem? hx
            have my := List.mem_of_getElem? hy
            have := sum_mem (f := Exp.weight) mx
            exact (ih x y l m (by omega) (p3 x mx) (q3 y my) hlm (s2 x mx) (t2 y my)).2 (h2 i x y hx hy)
    rw [cmpF_succ, orI3, cmpI_zero, cmpI_zero]
    constructor
    · rintro ⟨_, h2, h3⟩
      exact (main h2).1 h3
    · intro h
      have hk : kindM a = kindM b := by
        have h' := h
        rw [alphaP_eq] at h'
        unfold kindM
        rw [h'.1.1]
      exact ⟨by rw [alpha_size' h ga gb], hk, (main hk).2 h⟩

theorem cmp_Tri {ds : List DataD} {S N : List Str} (hu : uniq ds) (hS : ∀ s ∈ N, s ∈ S) : ∀ (n : Nat) (a b c : Exp) (l m k : List Str), good a → good b → good c → l.length = m.length → m.length = k.length → inScope ds a (N ++ l) → inScope ds b (N ++ m) → inScope ds c (N ++ k) →
    Tri (cmpF (rankM ds S) n l m a b) (cmpF (rankM ds S) n m k b c) (cmpF (rankM ds S) n l k a c) := by
  intro n
  induction n with
  | zero => intros; exact Tri_zero
  | succ n ih =>
    intro a b c l m k ga gb gc hlm hmk sa sb sc
    rw [cmpF_succ, cmpF_succ, cmpF_succ]
    refine Tri_cons (Tri_cmpI _ _ _) fun _ _ _ => Tri_cons (Tri_cmpI _ _ _) fun e1 e2 _ => ?_
    rw [orI_one, orI_one, orI_one]
    obtain ⟨k4, k8⟩ := kind_of (cmpI_zero.1 e1)
    obtain ⟨j4, j8⟩ := kind_of (cmpI_zero.1 e2)
    unfold cmpR
    by_cases h4 : a.kind = 4
    · obtain ⟨x, hx, gx, ra⟩ := ga.lam h4
      obtain ⟨y, hy, gy, rb⟩ := gb.lam (k4.1 h4)
      obtain ⟨z, hz, gz, rc⟩ := gc.lam (j4.1 (k4.1 h4))
      have sub : ∀ {e x : Exp} {l : List Str}, e.kind = 4 → e.kids = [x] → inScope ds e (N ++ l) → inScope ds x (N ++ (l ++ [e.name])) := by
        intro e x l he hk s
        have := inScope_child (i := 0) (x := x) s (by simp [Exp.children, hk])
        rwa [bound_some, if_pos (.inl he), List.append_assoc] at this
      rw [if_pos h4, if_pos (k4.1 h4), if_pos h4, kid0_of hx, kid0_of hy, kid0_of hz]
      exact ih x y z _ _ _ gx gy gz (by simp [hlm]) (by simp [hmk]) (sub h4 hx sa) (sub (k4.1 h4) hy sb) (sub (j4.1 (k4.1 h4)) hz sc)
    · have b4 : b.kind ≠ 4 := fun h => h4 (k4.2 h)
      have c4 : c.kind ≠ 4 := fun h => b4 (j4.2 h)
      rw [if_neg h4, if_neg b4, if_neg h4]
      by_cases h8 : a.kind = 8
      · obtain ⟨x, d, ha⟩ := caseP ga h8 sa
        obtain ⟨y, d', hb⟩ := caseP gb (k8.1 h8) sb
        obtain ⟨z, d'', hc⟩ := caseP gc (j8.1 (k8.1 h8)) sc
        rw [if_pos h8, if_pos (k8.1 h8), if_pos h8]
        refine Tri_cons (Tri_cmpI _ _ _) fun _ _ _ => Tri_cons (Tri_cmpI _ _ _) fun f1 f2 _ => ?_
        have hd := (CaseP.same hu hlm ha hb).1 (cmpI_zero.1 f1)
        have hd' := (CaseP.same hu hmk hb hc).1 (cmpI_zero.1 f2)
        subst hd hd'
        refine Tri_zip (Tri_cmpI _ _ _) (by rw [ha.len, hb.len]) (by rw [hb.len, hc.len]) fun i p q r hp hq hr => ?_
        obtain ⟨g1, s1, _⟩ := ha.arms i p hp
        obtain ⟨g2, s2, _⟩ := hb.arms i q hq
        obtain ⟨g3, s3, _⟩ := hc.arms i r hr
        rw [List.append_assoc] at s1 s2 s3
        have v1 := (CaseP.vlen ha hb hp hq).2
        have v2 := (CaseP.vlen hb hc hq hr).2
        exact ih _ _ _ _ _ _ g1 g2 g3 (by simp; omega) (by simp; omega) s1 s2 s3
      · have b8 : b.kind ≠ 8 := fun h => h8 (k8.2 h)
        have c8 : c.kind ≠ 8 := fun h => b8 (j8.2 h)
        have ka := ga.heady h4 h8
        have kb := gb.heady b4 b8
        have kc := gc.heady c4 c8
        obtain ⟨_, _, p3, _, _⟩ := spine_good a ga ka
        obtain ⟨_, _, q3, _, _⟩ := spine_good b gb kb
        obtain ⟨_, _, r3, _, _⟩ := spine_good c gc kc
        obtain ⟨_, s2⟩ := inScope_spine a ga ka sa
        obtain ⟨_, t2⟩ := inScope_spine b gb kb sb
        obtain ⟨_, u2⟩ := inScope_spine c gc kc sc
        rw [if_neg h8, if_neg b8, if_neg h8]
        refine Tri_cons (Tri_cmpI _ _ _) fun _ _ _ => Tri_cons (Tri_cmpI _ _ _) fun f1 f2 _ => ?_
        rw [orI_one, orI_one, orI_one, zip_tail, zip_tail (List.zipWith _ (spine b).2 _), zip_tail (List.zipWith _ (spine a).2 (spine c).2)]
        have l1 := cmpI_zero.1 f1
        have l2 := cmpI_zero.1 f2
        refine Tri_zip Tri_zero (by omega) (by omega) fun i x y z hx hy hz => ?_
        have mx := List.mem_of_getElem? hx
        have my := List.mem_of_getElem? hy
        have mz := List.mem_of_getElem? hz
        exact ih x y z l m k (p3 x mx) (q3 y my) (r3 z mz) hlm hmk (s2 x mx) (t2 y my) (u2 z mz)
end Go.Vs.Tryz

/- The canonical form of a well-made term is well made, and its names are visible (plain). -/
namespace Go.Vs.Tryz
open Go Go.Vs

theorem good.wf {e : Exp} : good e → e.wf := by
  induction e using Exp.ind with
  | h e ih =>
    intro g
    rw [Exp.wf_eq]
    refine ⟨?_, fun x hx => ih x hx (g.child hx)⟩
    rcases g.cases with ⟨k, _, h, h2⟩ | ⟨k, _, h, h2⟩ | ⟨k, _, ⟨x, h, _⟩, h2⟩ | ⟨k, _, ⟨f, x, h, _⟩, h2⟩ | ⟨k, _, ⟨x, h, _⟩, _⟩
    all_goals refine ⟨fun h8 => ?_, fun h8 => ?_, fun h1 => ?_⟩ <;> first | omega | assumption | (rw [h]; rfl)

theorem zip_self {α β : Type} {f : α × β → β → α × β} : ∀ {l : List (α × β)}, (∀ a ∈ l, f a a.2 = a) → List.zipWith f l (l.map (·.2)) = l
  | [], _ => rfl
  | a :: l, h => by
    simp only [List.map_cons, List.zipWith_cons_cons]
    rw [h a List.mem_cons_self, zip_self fun b hb => h b (List.mem_cons_of_mem _ hb)]
theorem good_pos {e : Exp} (g : good e) : e.pos = 0 ∧ ∀ a ∈ e.arms, a.1.pos = 0 := by
  refine ⟨g.one.1, fun a ha => ?_⟩
  rcases g.cases with ⟨_, _, _, h2⟩ | ⟨_, _, _, h2⟩ | ⟨_, _, _, h2⟩ | ⟨_, _, _, h2⟩ | ⟨_, _, _, _, h2⟩ <;> grind
theorem strip_good {e : Exp} : good e → stripM e = e := by
  induction e using Exp.ind with
  | h e ih =>
    intro g
    rw [stripM_eq]
    have hm : e.children.map stripM = e.children := by
      conv => rhs; rw [← List.map_id e.children]
      exact List.map_congr_left fun x hx => ih x hx (g.child hx)
    rw [hm]
    obtain ⟨hp, ha⟩ := good_pos g
    cases e with
    | mk k p n m ks l t =>
    simp only [pos_mk, arms_mk] at hp ha
    subst hp
    simp only [stripF, kind_mk, name_mk, num_mk, kids_mk, arms_mk, ty_mk, children_mk]
    rw [List.take_left' rfl, List.drop_left' rfl, zip_self]
    intro a ha2
    have := ha a ha2
    obtain ⟨⟨p, c, v⟩, x⟩ := a
    grind

theorem vName_ok {k : Nat} (h : k < 10000000) : nameOk 97 122 (vName k) := by
  refine ⟨?_, ⟨118, rfl, by decide, by decide⟩, ?_, ?_⟩
  · have := numS_len k 7 (by omega) (by omega)
    grind [vName]
  · intro c hc
    have hd : ∀ c : UInt8, 48 ≤ c.toNat ∧ c.toNat ≤ 57 → charOk c = true := by
      grind [charOk]
    rcases List.mem_cons.1 hc with rfl | hc
    rfl
    grind [numS_digit]
  · intro hk
    have key : ∀ w ∈ keyWords, ∀ c ∈ w, ¬ (48 ≤ c.toNat ∧ c.toNat ≤ 57) := by decide
    grind [numS, numS_digit, List.mem_cons_self, vName]
theorem freshS_ok {n : Nat} {taken : List Str} (h : n + taken.length < 9000000) : nameOk 97 122 (freshS n taken) :=
  vName_ok (by grind [freshK_le])

theorem canon_kind (taken : List Str) (e : Exp) (old names : List Str) : (canonM taken e old names).kind = e.kind := by
  by_cases h : e.kind = 1
  · rw [canonM_var h]
    split <;> rfl
  · rw [canonM_no h]
    rfl

theorem zip_left {α β γ : Type} {f : α → γ} : ∀ {l : List α} {m : List β}, l.length = m.length → List.zipWith (fun a _ => f a) l m = l.map f
  | [], m, _ => by simp
  | a :: l, [], h => by grind
  | a :: l, b :: m, h => by
    simp only [List.zipWith_cons_cons, List.map_cons]
    rw [zip_left (by grind)]

theorem canon_weight (taken : List Str) (e : Exp) : ∀ old names, e.wf → (canonM taken e old names).weight = e.weight := by
  induction e using Exp.ind with
  | h e ih =>
    intro old names hw
    by_cases h : e.kind = 1
    · rw [canonM_var h]
      split
      · rw [Exp.weight_eq, e.weight_eq]
        rfl
      · rfl
    · obtain ⟨_, hc, _⟩ := canon_parts (taken := taken) (old := old) (names := names) h hw.one
      rw [Exp.weight_eq, e.weight_eq, hc]
      have ha : ((canonM taken e old names).arms.map fun a => a.1.vars.length) = e.arms.map fun a => a.1.vars.length := by
        grind [canonM_no, arms_mk, news_len, zip_left, canonC_len]
      have hcw : (canonC taken e old names).map Exp.weight = e.children.map Exp.weight := by
        refine List.ext_getElem? fun i => ?_
        rw [List.getElem?_map, List.getElem?_map]
        cases hx : e.children[i]? with
        | none =>
          simp_all
        | some x =>
          rw [canonC_get hx, Option.map_some, Option.map_some, ih x (List.mem_of_getElem? hx) _ _ (hw.child (List.mem_of_getElem? hx))]
      grind
end Go.Vs.Tryz
