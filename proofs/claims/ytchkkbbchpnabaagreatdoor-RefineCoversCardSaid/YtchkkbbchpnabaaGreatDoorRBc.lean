/- Alpha equality by the program, walked. -/
import Derived.Test.YtchkkbbchpnabaaGreatDoorR5c
import Derived.Test.YtchkkbbchpnabaaGreatDoorR9c
import Derived.Test.YtchkkbbchpnabaaGreatDoorRAc
set_option linter.unusedSimpArgs false
set_option linter.unusedVariables false
set_option linter.deprecated false

/- Alpha equality by the program, walked. -/
namespace Go.Vs
open Go
@[simp] theorem ownV_arr {oid k n : Nat} {own : List (Nat × Nat)} {L : Nat → Option Obj} {u : Upd} : ownV oid own L (.sc (.arr k n), u) = some (.sc (.arr k n), u) := by
  cases own with
  | nil => rfl
  | cons p own => simp [ownV]
end Go.Vs
namespace Go.Vs.Tryz
open Go Go.Vs
variable {A : Oracle}

/- ## Shapes (plain) -/
def kidsN (k : Int) : Nat := if k = 5 ∨ k = 6 ∨ k = 7 then 2 else if k = 4 ∨ k = 8 ∨ k = 9 ∨ k = 11 then 1 else 0
def shp1 (e : Exp) : Prop := e.wf1 ∧ (e.kind = 1 → e.num = 0 ∧ e.ty = tz) ∧ e.kids.length = kidsN e.kind
/-- As many children as the kinds ask for. -/
def shp (e : Exp) : Prop := e.fold fun e l => shp1 e ∧ ∀ p ∈ l, p
theorem shp_eq (e : Exp) : shp e = (shp1 e ∧ ∀ x ∈ e.children, shp x) := by
  have := Exp.fold_eq (fun e (l : List Prop) => shp1 e ∧ ∀ p ∈ l, p) e
  unfold shp
  rw [this]
  simp only [List.forall_mem_map]
theorem shp.one {e : Exp} (h : shp e) : shp1 e := by rw [shp_eq] at h; exact h.1
theorem shp.child {e x : Exp} (h : shp e) (hx : x ∈ e.children) : shp x := by rw [shp_eq] at h; exact h.2 x hx
theorem shp.wf {e : Exp} : shp e → e.wf := by
  induction e using Exp.ind with
  | h e ih =>
    intro h
    rw [Exp.wf_eq]
    exact ⟨h.one.1, fun x hx => ih x hx (h.child hx)⟩

/-- The expression without anything. -/
def zeroE : Exp := .mk 0 0 [] 0 [] [] tz
theorem zeroE_row : wc zeroE.row = [zi, zi, zs, zi, .c (.sl []), .c (.sl []), zi, zs, zi, zi, .c (.sl [])] := by
  simp [zeroE, Exp.row, tz, Ty.kind, Ty.name, Ty.id, Ty.home, Ty.args, wc]
theorem zeroE_weight : zeroE.weight = 1 := by rw [zeroE, weight_mk]; rfl
theorem zeroE_tyBd : tyBd zeroE := by
  rw [tyBd_eq]
  refine ⟨by decide, fun x hx => ?_⟩
  simp [zeroE, Exp.children, Exp.kids, Exp.arms] at hx

/-- No children but empty ones. -/
def zerosM (e : Exp) : List Exp := List.replicate e.children.length zeroE
@[simp] theorem zerosM_len (e : Exp) : (zerosM e).length = e.kids.length + e.arms.length := by rw [zerosM, List.length_replicate, e.children_len]
theorem bare_parts (e : Exp) : (bareM e (zerosM e)).kids.length = e.kids.length ∧ (bareM e (zerosM e)).arms.length = e.arms.length ∧
    (∀ i : Nat, (bareM e (zerosM e)).arms[i]? = (e.arms[i]?).map fun a => ((⟨a.1.pos, a.1.con, List.replicate a.1.vars.length []⟩ : ArmH), zeroE)) ∧ ∀ x ∈ (bareM e (zerosM e)).children, x = zeroE := by
  have h1 : (bareM e (zerosM e)).kids = (zerosM e).take e.kids.length := rfl
  have h2 : (bareM e (zerosM e)).arms = armsB (armsW e.arms ((zerosM e).drop e.kids.length)) := rfl
  have h3 : (zerosM e).drop e.kids.length = List.replicate e.arms.length zeroE := by
    rw [zerosM, List.drop_replicate, e.children_len]
    congr 1
    omega
  have h4 : ∀ i : Nat, (bareM e (zerosM e)).arms[i]? = (e.arms[i]?).map fun a => ((⟨a.1.pos, a.1.con, List.replicate a.1.vars.length []⟩ : ArmH), zeroE) := by
    intro i
    rw [h2, h3]
    unfold armsB armsW
    rw [List.getElem?_map, List.getElem?_zipWith]
    cases ha : e.arms[i]? with
    | none => rfl
    | some a =>
      have hi := (List.getElem?_eq_some_iff.1 ha).1
      rw [List.getElem?_replicate, if_pos hi]
      rfl
  have h5 : (bareM e (zerosM e)).arms.length = e.arms.length := by
    rw [h2, h3, armsB_len, armsW_len, List.length_replicate, Nat.min_self]
  refine ⟨?_, h5, h4, ?_⟩
  · rw [h1, List.length_take, zerosM_len]
    omega
  · intro x hx
    rw [Exp.children, List.mem_append] at hx
    rcases hx with hx | hx
    · rw [h1] at hx
      exact (List.mem_replicate.1 (show x ∈ List.replicate e.children.length zeroE from List.mem_of_mem_take hx)).2
    · obtain ⟨p, hp, rfl⟩ := List.mem_map.1 hx
      obtain ⟨i, hi⟩ := List.mem_iff_getElem?.1 hp
      rw [h4] at hi
      obtain ⟨a, _, rfl⟩ := Option.map_eq_some_iff.1 hi
      rfl

/-- Equal but for names and children. -/
theorem bare_same {a b : Exp} (hk : a.kind = b.kind) (hn : a.kind = 2 → a.name = b.name) : sameP (bareM a (zerosM a)) (bareM b (zerosM b)) ↔ headEq a b ∧ armsEq a b := by
  obtain ⟨a1, a2, a3, a4⟩ := bare_parts a
  obtain ⟨b1, b2, b3, b4⟩ := bare_parts b
  rw [sameP_eq]
  constructor
  · rintro ⟨_, _, h3, h4, h5, h6, h7, _⟩
    refine ⟨⟨hk, h3, h4, by omega, by omega⟩, fun i p q hp hq => ?_⟩
    have := h7 i _ _ (by rw [a3, hp]; rfl) (by rw [b3, hq]; rfl)
    refine ⟨this.1, ?_⟩
    have h8 := congrArg List.length this.2
    simpa using h8
  · rintro ⟨⟨_, h2, h3, h4, h5⟩, h6⟩
    refine ⟨hk, ?_, h2, h3, by omega, by omega, fun i p q hp hq => ?_, fun i x y hx hy => ?_⟩
    · show (if a.kind = 2 then a.name else []) = (if b.kind = 2 then b.name else [])
      by_cases h : a.kind = 2
      · rw [if_pos h, if_pos (hk ▸ h), hn h]
      · rw [if_neg h, if_neg (fun h' => h (hk.trans h'))]
    · rw [a3] at hp
      rw [b3] at hq
      obtain ⟨p0, hp0, rfl⟩ := Option.map_eq_some_iff.1 hp
      obtain ⟨q0, hq0, rfl⟩ := Option.map_eq_some_iff.1 hq
      obtain ⟨g1, g2⟩ := h6 i p0 q0 hp0 hq0
      exact ⟨g1, by simp only [g2]⟩
    · rw [a4 x (List.mem_of_getElem? hx), b4 y (List.mem_of_getElem? hy)]
      exact sameP_refl _

theorem sum_ones {α : Type} {f : α → Nat} : ∀ {l : List α}, (∀ x ∈ l, f x = 1) → (l.map f).sum = l.length
  | [], _ => rfl
  | a :: l, h => by
    rw [List.map_cons, List.sum_cons, h a (by simp), sum_ones fun x hx => h x (by simp [hx]), List.length_cons]
    omega
theorem bare_weight (e : Exp) : (bareM e (zerosM e)).weight ≤ e.weight := by
  obtain ⟨h1, h2, h3, h4⟩ := bare_parts e
  rw [Exp.weight_eq, e.weight_eq]
  have ha : ((bareM e (zerosM e)).arms.map fun a => a.1.vars.length) = e.arms.map fun a => a.1.vars.length := by
    refine List.ext_getElem? fun i => ?_
    rw [List.getElem?_map, List.getElem?_map, h3]
    cases e.arms[i]? <;> simp
  have hc : ((bareM e (zerosM e)).children.map Exp.weight).sum = (bareM e (zerosM e)).children.length := sum_ones fun x hx => by rw [h4 x hx, zeroE_weight]
  have hl := sum_len (f := Exp.weight) (l := e.children) fun x _ => x.weight_pos
  rw [ha, hc, Exp.children_len, h1, h2, ← e.children_len]
  omega
theorem bare_tyBd {e : Exp} (h : tyBd e) : tyBd (bareM e (zerosM e)) := by
  rw [tyBd_eq]
  exact ⟨h.one, fun x hx => by rw [(bare_parts e).2.2.2 x hx]; exact zeroE_tyBd⟩

theorem bound_len {a b : Exp} (h : headEq a b) (ha : armsEq a b) (i : Nat) : (a.bound i).length = (b.bound i).length := by
  rw [bound_some, bound_some, h.1]
  split
  · rfl
  · split
    · cases hp : a.arms[i - 1]? with
      | none =>
        have : b.arms[i - 1]? = none := by
          rw [List.getElem?_eq_none_iff] at hp ⊢
          have := h.2.2.2.2
          omega
        rw [this]
      | some p =>
        have hi := (List.getElem?_eq_some_iff.1 hp).1
        obtain ⟨q, hq⟩ := get_of_lt (l := b.arms) (i := i - 1) (by have := h.2.2.2.2; omega)
        rw [hq]
        exact (ha _ p q hp hq).2
    · rfl

/- ## Walks -/
theorem pairs_cons {l : List (Str × Str)} (h : l ≠ []) : ∃ c rows, pairRows l = c :: rows := by
  cases l with
  | nil => exact absurd rfl h
  | cons e r => exact ⟨pairRow e, pairRows r, rfl⟩
theorem clone133 (l : List (Str × Str)) (hl : l.length ≤ 4294967296) : (K A).call 92 [pairsV l] [] = some (.sc (.arr 0 l.length), [.arr 2 (wr (pairRows l)) 0]) := by
  by_cases h : l = []
  · subst h
    exact clone_own (by kernel_rfl) (by kernel_rfl) (by kernel_rfl) (by kernel_rfl)
  · obtain ⟨c, rows, hr⟩ := pairs_cons h
    have hlen : rows.length + 1 = l.length := by
      have := pairRows_len l
      rw [hr] at this
      simpa using this
    have hok : okRows 2 (wr (c :: rows)) = true := hr ▸ okRows_pair l
    have hp : pairsV l = V.sc (.c (.sl (c :: rows))) := by rw [← hr]
    rw [hr, hp, clone_data (by kernel_rfl) (by kernel_rfl)]
    refine clone_fn (vf := v92) (by kernel_rfl) rfl (by decide) ?_
    unfold v92
    rw [wr_cons] at hok
    simp (disch := first | omega | (simp; done) | (simp; omega)) [hok]
    omega

/-- Some of the children are gone. -/
def zrows (e : Exp) (i : Nat) : List Exp := (zerosM e).take i ++ e.children.drop i
theorem zrows_len (e : Exp) (i : Nat) : (zrows e i).length = e.kids.length + e.arms.length := by rw [← e.children_len]; exact len_step (by simp)
theorem zrows_zero (e : Exp) : zrows e 0 = e.children := by simp [zrows]
theorem zrows_end (e : Exp) : zrows e (e.kids.length + e.arms.length) = zerosM e := by
  unfold zrows
  rw [List.take_of_length_le (by simp), List.drop_of_length_le (by simp), List.append_nil]
theorem zrows_get {e : Exp} {i : Nat} (hi : i < e.children.length) : (zrows e i)[i]? = e.children[i]? := get_step (by simp) hi
theorem zrows_set {e : Exp} {i : Nat} (hi : i < e.children.length) : setRow (wr (Exp.rows (zrows e i))) i [zi, zi, zs, zi, .c (.sl []), .c (.sl []), zi, zs, zi, zi, .c (.sl [])] = wr (Exp.rows (zrows e (i + 1))) := by
  have h := rows_set (zrows e i) i zeroE
  rw [zeroE_row] at h
  rw [h]
  unfold zrows
  rw [set_step (by simp) (by rw [zerosM, List.getElem?_replicate, if_pos hi])]
theorem zrow_splice (x : Exp) : splice (wc x.row) 0 [zi, zi, zs, zi, .c (.sl []), .c (.sl []), zi, zs, zi, zi, .c (.sl [])] = some [zi, zi, zs, zi, .c (.sl []), .c (.sl []), zi, zs, zi, zi, .c (.sl [])] := by
  rw [Exp.row_eq]
  rfl

set_option maxRecDepth 10000 in
set_option maxHeartbeats 16000000 in
theorem alpha72 (w : Bool) (a : Exp) : ∀ (b : Exp) (l : List (Str × Str)), shp a → shp b → tyBd a → l.length + a.weight ≤ 1073741824 → l.length + b.weight ≤ 1073741824 →
    ∃ x, IffB (covP w a b (l.map (·.1)) (l.map (·.2))) x ∧ (K A).call 49 [pairsV l, expV a, expV b, boolV w] [] = some x := by
  induction a using Exp.ind with
  | h a ih =>
  intro b l ha hb ht hla hlb
  have hal := a.children_le
  have hbl := b.children_le
  refine fn_ofE _ (vf := v49) (by kernel_rfl) rfl (by simp) ?_
  by_cases h10 : w = true ∧ a.kind = 10
  · obtain ⟨rfl, k10⟩ := h10
    have hy : IffB (covP true a b (l.map (·.1)) (l.map (·.2))) (boolV true, []) := IffB.yes (by rw [covP_eq]; exact .inl ⟨rfl, k10⟩)
    generalize covP true a b (l.map (·.1)) (l.map (·.2)) = P at hy ⊢
    unfold v49
    simp (maxSteps := 4000000) (disch := first | omega | (simp; done) | (simp; omega)) [k10, -getElem?_pos]
    exact hy
  have hP : covP w a b (l.map (·.1)) (l.map (·.2)) = (headEq a b ∧ (a.kind = 1 → varEq (l.map (·.1)) (l.map (·.2)) a.name b.name) ∧ (a.kind = 2 → a.name = b.name) ∧
      (a.kind ≠ 1 → a.kind ≠ 2 → armsEq a b ∧ ∀ (i : Nat) x y, a.children[i]? = some x → b.children[i]? = some y → covP w x y (l.map (·.1) ++ a.bound i) (l.map (·.2) ++ b.bound i))) := by
    rw [covP_eq]
    exact propext ⟨fun h => h.resolve_left h10, .inr⟩
  have h10 : w = true → ¬ a.kind = 10 := fun h k => h10 ⟨h, k⟩
  have hne : covP w a b (l.map (·.1)) (l.map (·.2)) → headEq a b := fun h => by rw [hP] at h; exact h.1
  unfold v49
  refine wp_seqE ⟨[(0, pairsV l), (3, boolV w), (5, .sc (.ptr 64 0)), (6, .sc (.ptr 128 0))], [(64, some (.box (wc a.row))), (128, some (.box (wc b.row)))]⟩ (by simp) ?_
  refine wp_seqE ⟨[(0, pairsV l), (3, boolV w), (5, .sc (.ptr 64 0)), (6, .sc (.ptr 128 0)), (23, boolV false)], [(64, some (.box (wc a.row))), (128, some (.box (wc b.row)))]⟩ (by cases w <;> simp [h10]) ?_
  by_cases h1 : a.kind = b.kind
  case neg =>
    have hno : IffB (covP w a b (l.map (·.1)) (l.map (·.2))) (boolV false, []) := IffB.no fun h => h1 (hne h).1
    generalize covP w a b (l.map (·.1)) (l.map (·.2)) = P at hno ⊢
    by_cases k1 : a.kind = 1
    · have k2 : ¬ b.kind = 1 := fun h => h1 (k1.trans h.symm)
      have k3 : ¬ (1 : Int) = b.kind := fun h => k2 h.symm
      simp (maxSteps := 4000000) (disch := first | omega | (simp; done) | (simp; omega)) [k1, k2, k3, -getElem?_pos]
      exact hno
    · simp (maxSteps := 4000000) (disch := first | omega | (simp; done) | (simp; omega)) [h1, k1, -getElem?_pos]
      exact hno
  by_cases k1 : b.kind = 1
  · obtain ⟨_, ⟨v, hv, rfl⟩, hc⟩ := refer130 (A := A) l a.name b.name (by omega)
    have ha1 := ha.one.2.1 (h1.trans k1)
    have hb1 := hb.one.2.1 k1
    have hhead : headEq a b := by
      refine ⟨h1, by rw [ha1.1, hb1.1], by rw [ha1.2, hb1.2], by rw [ha.one.2.2, hb.one.2.2, h1], ?_⟩
      rw [ha.one.1.2.1 (by rw [h1, k1]; decide), hb.one.1.2.1 (by rw [k1]; decide)]
    have hres : IffB (covP w a b (l.map (·.1)) (l.map (·.2))) (boolV v, []) := ⟨v, hv.trans ⟨fun h => by
      rw [hP]
      exact ⟨hhead, fun _ => h, fun h2 => by omega, fun h2 => absurd (h1.trans k1) h2⟩, fun h => by
      rw [hP] at h
      exact h.2.1 (h1.trans k1)⟩, rfl⟩
    generalize covP w a b (l.map (·.1)) (l.map (·.2)) = P at hres ⊢
    simp (maxSteps := 4000000) (disch := first | omega | (simp; done) | (simp; omega)) [h1, k1, hc, -getElem?_pos]
    exact hres
  have kn2 : a.kind = 2 → ¬ a.name = b.name → IffB (covP w a b (l.map (·.1)) (l.map (·.2))) (boolV false, []) := fun h2 hn => IffB.no fun h => by
    rw [hP] at h
    exact hn (h.2.2.1 h2)
  by_cases hnm : a.kind = 2 → a.name = b.name
  case neg =>
    have k2 : a.kind = 2 := Classical.byContradiction fun h => hnm fun h' => absurd h' h
    have hn : ¬ a.name = b.name := fun h => hnm fun _ => h
    have hno := kn2 k2 hn
    generalize covP w a b (l.map (·.1)) (l.map (·.2)) = P at hno ⊢
    rw [h1] at k2
    simp (maxSteps := 4000000) (disch := first | omega | (simp; done) | (simp; omega)) [h1, k2, hn, -getElem?_pos]
    exact hno
  obtain ⟨_, ⟨v, hv, rfl⟩, hceq⟩ := equal131 (A := A) (bareM a (zerosM a)) (bareM b (zerosM b)) (bare_tyBd ht) (Nat.le_trans (bare_weight a) (by omega))
  rw [bare_same h1 hnm] at hv
  have cba := bare132 (A := A) a (zerosM a) (by simp) (by omega)
  have cbb := bare132 (A := A) b (zerosM b) (by simp) (by omega)
  have hyes : (headEq a b ∧ armsEq a b) → (∀ (i : Nat) x y, a.children[i]? = some x → b.children[i]? = some y → covP w x y (l.map (·.1) ++ a.bound i) (l.map (·.2) ++ b.bound i)) → IffB (covP w a b (l.map (·.1)) (l.map (·.2))) (boolV true, []) := fun h h' => by
    refine IffB.yes ?_
    rw [hP]
    exact ⟨h.1, fun h2 => absurd (h1.symm.trans h2) k1, hnm, fun _ _ => ⟨h.2, h'⟩⟩
  have hno1 : ¬ (headEq a b ∧ armsEq a b) → IffB (covP w a b (l.map (·.1)) (l.map (·.2))) (boolV false, []) := fun h => IffB.no fun h' => h (by
    refine ⟨hne h', ?_⟩
    rw [hP] at h'
    by_cases k2 : a.kind = 2
    · intro i p q hp _
      rw [ha.one.1.2.1 (by rw [k2]; decide)] at hp
      simp at hp
    · exact (h'.2.2.2 (fun h2 => k1 (h1.symm.trans h2)) k2).1)
  have hno2 : ∀ (i : Nat) x y, a.children[i]? = some x → b.children[i]? = some y → ¬ covP w x y (l.map (·.1) ++ a.bound i) (l.map (·.2) ++ b.bound i) → IffB (covP w a b (l.map (·.1)) (l.map (·.2))) (boolV false, []) := fun i x y hx hy hnot => IffB.no fun h' => hnot (by
    rw [hP] at h'
    by_cases k2 : a.kind = 2
    · have h3 := ha.one.2.2
      rw [k2] at h3
      have h4 := ha.one.1.2.1 (by rw [k2]; decide)
      have h5 : a.kids = [] := List.length_eq_zero_iff.1 h3
      rw [Exp.children, h4, h5] at hx
      simp at hx
    · exact (h'.2.2.2 (fun h2 => k1 (h1.symm.trans h2)) k2).2 i x y hx hy)
  generalize covP w a b (l.map (·.1)) (l.map (·.2)) = P at hyes hno1 hno2 ⊢
  clear hne kn2
  have hkl : a.kids.length = b.kids.length := by rw [ha.one.2.2, hb.one.2.2, h1]
  refine wp_seqE ⟨[(0, pairsV l), (3, boolV w), (5, .sc (.ptr 64 0)), (6, .sc (.ptr 128 0)), (31, boolV false)], [(64, some (.box (wc a.row))), (128, some (.box (wc b.row)))]⟩ (by simp [h1, k1]) ?_
  refine wp_seqE ⟨[(0, pairsV l), (3, boolV w), (5, .sc (.ptr 64 0)), (6, .sc (.ptr 128 0)), (54, boolV false)], [(64, some (.box (wc a.row))), (128, some (.box (wc b.row)))]⟩ (by
    by_cases k2 : b.kind = 2
    · have hn := hnm (h1.trans k2)
      simp [h1, k2, hn]
    · simp [h1, k2]) ?_
  by_cases hkids : a.kids = []
  · have hkb : b.kids = [] := List.length_eq_zero_iff.1 (by rw [← hkl, hkids]; rfl)
    have haa : a.arms = [] := ha.one.1.2.1 fun h8 => by
      have := ha.one.1.1 h8
      rw [hkids] at this
      simp at this
    have hba : b.arms = [] := hb.one.1.2.1 fun h8 => by
      have := hb.one.1.1 h8
      rw [hkb] at this
      simp at this
    have ca := children51_leaf (A := A) a hkids haa
    have cb := children51_leaf (A := A) b hkb hba
    have hac : a.children = [] := by simp [Exp.children, hkids, haa]
    have hbc : b.children = [] := by simp [Exp.children, hkb, hba]
    have za : zerosM a = [] := by simp [zerosM, hac]
    have zb : zerosM b = [] := by simp [zerosM, hbc]
    rw [za] at cba hceq
    rw [zb] at cbb hceq
    simp only [exsV, rows0] at cba cbb
    have hyes := fun h => hyes h (by rw [hac]; simp)
    simp (maxSteps := 4000000) (disch := first | omega | (simp; done) | (simp; omega)) [ca, cb, -getElem?_pos]
    refine wp_loop (fun i => ⟨[(0, pairsV l), (3, boolV w), (5, .sc (.ptr 64 0)), (6, .sc (.ptr 128 0)), (9, .sc (.full [])), (10, .sc (.full [])), (60, intV 0), (61, intV i)], [(64, some (.box (wc a.row))), (128, some (.box (wc b.row)))]⟩) 0 (by simp) (fun i hi => by omega) ?_
    unfold l49_0
    simp (maxSteps := 4000000) (disch := first | omega | (simp; done) | (simp; omega)) [-getElem?_pos]
    refine wp_loop (fun i => ⟨[(0, pairsV l), (3, boolV w), (5, .sc (.ptr 64 0)), (6, .sc (.ptr 128 0)), (9, .sc (.full [])), (10, .sc (.full [])), (70, intV 0), (71, intV i)], [(64, some (.box (wc a.row))), (128, some (.box (wc b.row)))]⟩) 0 (by simp) (fun i hi => by omega) ?_
    unfold l49_1
    cases v with
    | false =>
      simp (maxSteps := 4000000) (disch := first | omega | (simp; done) | (simp; omega)) [cba, cbb, hceq, -getElem?_pos]
      exact hno1 fun h => by have := hv.2 h; cases this
    | true =>
      simp (maxSteps := 4000000) (disch := first | omega | (simp; done) | (simp; omega)) [cba, cbb, hceq, ca, cb, -getElem?_pos]
      refine wp_loop (fun i => ⟨[(0, pairsV l), (3, boolV w), (5, .sc (.ptr 64 0)), (6, .sc (.ptr 128 0)), (9, .sc (.full [])), (10, .sc (.full [])), (92, intV 0), (93, intV i)], [(64, some (.box (wc a.row))), (128, some (.box (wc b.row)))]⟩) 0 (by simp) (fun i hi => by omega) ?_
      unfold l49_3
      simp (maxSteps := 4000000) (disch := first | omega | (simp; done) | (simp; omega)) [-getElem?_pos]
      exact hyes (hv.1 rfl)
  · have hkb : b.kids ≠ [] := fun h => hkids (List.length_eq_zero_iff.1 (by rw [hkl, h]; rfl))
    have ca := children51 (A := A) a hkids (by omega)
    have cb := children51 (A := A) b hkb (by omega)
    rw [a.children_len] at hal ca
    rw [b.children_len] at hbl cb
    have ea := zrows_end a
    have eb := zrows_end b
    have zla := zerosM_len a
    have zlb := zerosM_len b
    generalize zerosM a = za at *
    generalize zerosM b = zb at *
    have e0 := zrows_zero a
    have f0 := zrows_zero b
    simp (maxSteps := 4000000) (disch := first | omega | (simp; done) | (simp; omega)) [ca, cb, -getElem?_pos]
    refine wp_loop (fun i => ⟨[(0, pairsV l), (3, boolV w), (5, .sc (.ptr 64 0)), (6, .sc (.ptr 128 0)), (9, .sc (.arr 2912 (a.kids.length + a.arms.length))), (10, .sc (.arr 3040 (b.kids.length + b.arms.length))), (60, intV ((a.kids.length : Int) + a.arms.length)), (61, intV i)],
      [(64, some (.box (wc a.row))), (128, some (.box (wc b.row))), (2912, some (.arr 11 (wr (Exp.rows (zrows a i))) 0)), (3040, some (.arr 11 (wr (Exp.rows b.children)) 0))]⟩) (a.kids.length + a.arms.length) (by simp [e0]) ?_ ?_
    · intro i hi
      have hi1 : i < a.children.length := by rw [a.children_len]; exact hi
      have hi2 : (i : Int) < (a.kids.length : Int) + a.arms.length := by omega
      obtain ⟨x, hx⟩ := get_of_lt hi1
      have hg := zrows_get hi1
      rw [hx] at hg
      have hl := zrows_len a i
      have hs := zrows_set hi1
      have hsp := zrow_splice x
      unfold l49_0
      simp (maxSteps := 4000000) (disch := first | omega | (simp; done) | (simp; omega)) [hi2, hg, hl, hs, hsp, blt_dec, -getElem?_pos]
      done
    · rw [ea]
      unfold l49_0
      simp (maxSteps := 4000000) (disch := first | omega | (simp; done) | (simp; omega)) [-getElem?_pos]
      refine wp_loop (fun i => ⟨[(0, pairsV l), (3, boolV w), (5, .sc (.ptr 64 0)), (6, .sc (.ptr 128 0)), (9, .sc (.arr 2912 (a.kids.length + a.arms.length))), (10, .sc (.arr 3040 (b.kids.length + b.arms.length))), (70, intV ((b.kids.length : Int) + b.arms.length)), (71, intV i)],
        [(64, some (.box (wc a.row))), (128, some (.box (wc b.row))), (2912, some (.arr 11 (wr (Exp.rows za)) 0)), (3040, some (.arr 11 (wr (Exp.rows (zrows b i))) 0))]⟩) (b.kids.length + b.arms.length) (by simp [f0]) ?_ ?_
      · intro i hi
        have hi1 : i < b.children.length := by rw [b.children_len]; exact hi
        have hi2 : (i : Int) < (b.kids.length : Int) + b.arms.length := by omega
        obtain ⟨x, hx⟩ := get_of_lt hi1
        have hg := zrows_get hi1
        rw [hx] at hg
        have hl := zrows_len b i
        have hs := zrows_set hi1
        have hsp := zrow_splice x
        unfold l49_1
        simp (maxSteps := 4000000) (disch := first | omega | (simp; done) | (simp; omega)) [hi2, hg, hl, hs, hsp, blt_dec, -getElem?_pos]
        done
      · rw [eb]
        unfold l49_1
        cases v with
        | false =>
          simp (maxSteps := 4000000) (disch := first | omega | (simp; done) | (simp; omega)) [zla, zlb, cba, cbb, hceq, -getElem?_pos]
          exact hno1 fun h => by have := hv.2 h; cases this
        | true =>
          obtain ⟨hhead, harms⟩ := hv.1 rfl
          have han : a.arms.length = b.arms.length := hhead.2.2.2.2
          simp (maxSteps := 4000000) (disch := first | omega | (simp; done) | (simp; omega)) [zla, zlb, cba, cbb, hceq, ca, cb, -getElem?_pos]
          refine wp_loopI (fun i s => (∀ (j : Nat) x y, j < i → a.children[j]? = some x → b.children[j]? = some y → covP w x y (l.map (·.1) ++ a.bound j) (l.map (·.2) ++ b.bound j)) ∧
            s = ⟨[(0, pairsV l), (3, boolV w), (5, .sc (.ptr 64 0)), (6, .sc (.ptr 128 0)), (9, .sc (.arr 5536 (a.kids.length + a.arms.length))), (10, .sc (.arr 5664 (b.kids.length + b.arms.length))), (92, intV ((a.kids.length : Int) + a.arms.length)), (93, intV i)],
              [(64, some (.box (wc a.row))), (128, some (.box (wc b.row))), (2912, some (.arr 11 (wr (Exp.rows za)) (a.kids.length + a.arms.length))), (3040, some (.arr 11 (wr (Exp.rows zb)) (b.kids.length + b.arms.length))),
                (5536, some (.arr 11 (wr (Exp.rows a.children)) 0)), (5664, some (.arr 11 (wr (Exp.rows b.children)) 0))]⟩) (a.kids.length + a.arms.length) ⟨by omega, by simp⟩ ?_ ?_
          · rintro i s hi ⟨hs, rfl⟩
            have hi1 : i < a.children.length := by rw [a.children_len]; exact hi
            have hi2 : (i : Int) < (a.kids.length : Int) + a.arms.length := by omega
            have hi3 : i < b.children.length := by rw [b.children_len]; omega
            obtain ⟨x, hx⟩ := get_of_lt hi1
            obtain ⟨y, hy⟩ := get_of_lt hi3
            have mx := List.mem_of_getElem? hx
            have my := List.mem_of_getElem? hy
            have bx := bound_child hx
            have bY := bound_child hy
            have w1 := bound52 (A := A) a i ha.one.1 hi1 (by omega)
            have w2 := bound52 (A := A) b i hb.one.1 hi3 (by omega)
            have hbl2 := bound_len hhead harms i
            have hc := clone133 (A := A) l (by omega)
            have hrec := ih x mx y (l ++ (a.bound i).zip (b.bound i)) (ha.child mx) (hb.child my) (ht.child mx) (by rw [List.length_append, List.length_zip]; omega) (by rw [List.length_append, List.length_zip]; omega)
            rw [List.map_append, List.map_append, List.map_fst_zip (by omega), List.map_snd_zip (by omega)] at hrec
            obtain ⟨_, ⟨q, hq, rfl⟩, hcall⟩ := hrec
            have hneg := fun (h : covP w x y (l.map (·.1) ++ a.bound i) (l.map (·.2) ++ b.bound i) → False) => hno2 i x y hx hy h
            have hstep : covP w x y (l.map (·.1) ++ a.bound i) (l.map (·.2) ++ b.bound i) → ∀ (j : Nat) x' y', j < i + 1 → a.children[j]? = some x' → b.children[j]? = some y' → covP w x' y' (l.map (·.1) ++ a.bound j) (l.map (·.2) ++ b.bound j) := by
              intro hxy j x' y' hj hx' hy'
              by_cases hji : j = i
              · subst hji
                rw [hx] at hx'
                rw [hy] at hy'
                cases hx'
                cases hy'
                exact hxy
              · exact hs j x' y' (by omega) hx' hy'
            generalize covP w x y (l.map (·.1) ++ a.bound i) (l.map (·.2) ++ b.bound i) = PP at hq hneg hstep
            generalize a.bound i = sa at *
            generalize b.bound i = sb at *
            have hzl : (sa.zip sb).length = sa.length := by rw [List.length_zip]; omega
            unfold l49_3
            simp (maxSteps := 4000000) (disch := first | omega | (simp; done) | (simp; omega)) [hi2, hc, w1, w2, -getElem?_pos]
            refine wp_loop (fun k => ⟨[(0, pairsV l), (3, boolV w), (5, .sc (.ptr 64 0)), (6, .sc (.ptr 128 0)), (9, .sc (.arr 5536 (a.kids.length + a.arms.length))), (10, .sc (.arr 5664 (b.kids.length + b.arms.length))), (92, intV ((a.kids.length : Int) + a.arms.length)), (93, intV i),
                (13, intV i), (14, .sc (.arr 6304 (l.length + k))), (15, strsV sa), (16, strsV sb), (105, intV sa.length), (106, intV k)],
              [(64, some (.box (wc a.row))), (128, some (.box (wc b.row))), (2912, some (.arr 11 (wr (Exp.rows za)) (a.kids.length + a.arms.length))), (3040, some (.arr 11 (wr (Exp.rows zb)) (b.kids.length + b.arms.length))),
                (5536, some (.arr 11 (wr (Exp.rows a.children)) 0)), (5664, some (.arr 11 (wr (Exp.rows b.children)) 0)), (6304, some (.arr 2 (wr (pairRows (l ++ (sa.zip sb).take k))) 0))]⟩) sa.length ?_ ?_ ?_
            · simp
            · intro k hk
              obtain ⟨u, hu⟩ := get_of_lt hk
              obtain ⟨w, hw⟩ := get_of_lt (l := sb) (i := k) (by omega)
              have hz : (sa.zip sb)[k]? = some (u, w) := by rw [List.getElem?_zip_eq_some]; exact ⟨hu, hw⟩
              rw [take_next hz]
              have htl : ((sa.zip sb).take k).length = k := by rw [List.length_take]; omega
              generalize (sa.zip sb).take k = zz at htl ⊢
              have hsn := pairRows_snoc (l ++ zz) (u, w)
              rw [List.append_assoc] at hsn
              have hk2 : (k : Int) < sa.length := by omega
              unfold l49_2
              simp (maxSteps := 4000000) (disch := first | omega | (simp; done) | (simp; omega)) [hk2, hu, hw, htl, hsn, Nat.add_assoc, -getElem?_pos]
              done
            · rw [List.take_of_length_le (show (sa.zip sb).length ≤ sa.length by omega)]
              unfold l49_2
              cases q with
              | false =>
                simp (maxSteps := 4000000) (disch := first | omega | (simp; done) | (simp; omega)) [hx, hy, hzl, hcall, -getElem?_pos]
                exact hneg fun h => by have := hq.2 h; cases this
              | true =>
                simp (maxSteps := 4000000) (disch := first | omega | (simp; done) | (simp; omega)) [hx, hy, hzl, hcall, -getElem?_pos]
                exact hstep (hq.1 rfl)
          · rintro s ⟨hs, rfl⟩
            unfold l49_3
            simp (maxSteps := 4000000) (disch := first | omega | (simp; done) | (simp; omega)) [-getElem?_pos]
            exact hyes ⟨hhead, harms⟩ fun i x y hx hy => hs i x y (by have := (List.getElem?_eq_some_iff.1 hx).1; rw [a.children_len] at this; exact this) hx hy

theorem covers24 (w : Bool) (a b : Exp) (ha : shp a) (hb : shp b) (ht : tyBd a) (hla : a.weight ≤ 1073741824) (hlb : b.weight ≤ 1073741824) : ∃ x, IffB (covP w a b [] []) x ∧ (K A).call 49 [pairsV [], expV a, expV b, boolV w] [] = some x :=
  alpha72 (A := A) w a b [] ha hb ht (by simpa using hla) (by simpa using hlb)
end Go.Vs.Tryz
