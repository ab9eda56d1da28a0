/- The canonical form of a well-made term is well made, and its names are visible (plain). (Parts of one proof, put together.) -/
import Derived.Test.YtlcncicmkkelcaaGreatDoorRI
import Derived.Test.YtlcncicmkkelcaaGreatDoorRA
set_option linter.unusedSimpArgs false
set_option linter.unusedVariables false
set_option linter.deprecated false

/- The canonical form of a well-made term is well made, and its names are visible (plain). -/
namespace Go.Vs.Tryz
open Go Go.Vs

theorem good.wf {e : Exp} : good e → e.wf := by
  induction e using Exp.ind with
  | h e ih =>
    intro g
    rw [Exp.wf_eq]
    refine ⟨?_, fun x hx => ih x hx (g.child hx)⟩
    rcases g.cases with ⟨k, _, h, h2⟩ | ⟨k, _, h, h2⟩ | ⟨k, _, ⟨x, h, _⟩, h2⟩ | ⟨k, _, ⟨f, x, h, _⟩, h2⟩ | ⟨k, _, ⟨x, h, _⟩, _⟩
    all_goals refine ⟨fun h8 => ?_, fun h8 => ?_, fun h1 => ?_⟩ <;> first | omega | assumption | (rw [h]; rfl)

theorem zip_self {α β : Type} {f : α × β → β → α × β} : ∀ {l : List (α × β)}, (∀ a ∈ l, f a a.2 = a) → List.zipWith f l (l.map (·.2)) = l
  | [], _ => rfl
  | a :: l, h => by
    simp only [List.map_cons, List.zipWith_cons_cons]
    rw [h a List.mem_cons_self, zip_self fun b hb => h b (List.mem_cons_of_mem _ hb)]
theorem good_pos {e : Exp} (g : good e) : e.pos = 0 ∧ ∀ a ∈ e.arms, a.1.pos = 0 := by
  refine ⟨g.one.1, fun a ha => ?_⟩
  rcases g.cases with ⟨_, _, _, h2⟩ | ⟨_, _, _, h2⟩ | ⟨_, _, _, h2⟩ | ⟨_, _, _, h2⟩ | ⟨_, _, _, _, h2⟩
  · rw [h2] at ha; cases ha
  · rw [h2] at ha; cases ha
  · rw [h2] at ha; cases ha
  · rw [h2] at ha; cases ha
  · exact (h2 a ha).1
theorem strip_good {e : Exp} : good e → stripM e = e := by
  induction e using Exp.ind with
  | h e ih =>
    intro g
    rw [stripM_eq]
    have hm : e.children.map stripM = e.children := by
      conv => rhs; rw [← List.map_id e.children]
      exact List.map_congr_left fun x hx => ih x hx (g.child hx)
    rw [hm]
    obtain ⟨hp, ha⟩ := good_pos g
    cases e with
    | mk k p n m ks l t =>
    simp only [pos_mk, arms_mk] at hp ha
    subst hp
    simp only [stripF, kind_mk, name_mk, num_mk, kids_mk, arms_mk, ty_mk, children_mk]
    rw [List.take_left' rfl, List.drop_left' rfl, zip_self]
    intro a ha2
    have := ha a ha2
    obtain ⟨⟨p, c, v⟩, x⟩ := a
    simp only at this
    subst this
    rfl

theorem vName_ok {k : Nat} (h : k < 10000000) : nameOk 97 122 (vName k) := by
  refine ⟨?_, ⟨118, rfl, by decide, by decide⟩, ?_, ?_⟩
  · have := numS_len k 7 (by omega) (by omega)
    simp only [vName, List.length_cons]
    omega
  · intro c hc
    have hd : ∀ c : UInt8, 48 ≤ c.toNat ∧ c.toNat ≤ 57 → charOk c = true := by
      intro c ⟨h1, h2⟩
      simp only [charOk]
      simp
      omega
    rcases List.mem_cons.1 hc with rfl | hc
    · decide
    · exact hd c (numS_digit k c hc)
  · intro hk
    have key : ∀ w ∈ keyWords, ∀ c ∈ w, ¬ (48 ≤ c.toNat ∧ c.toNat ≤ 57) := by decide
    have h1 := numS_pos k
    cases hn : numS k with
    | nil => rw [hn] at h1; simp at h1
    | cons c r =>
      refine key _ hk c ?_ (numS_digit k c (by rw [hn]; exact List.mem_cons_self))
      simp [vName, hn]
theorem freshS_ok {n : Nat} {taken : List Str} (h : n + taken.length < 9000000) : nameOk 97 122 (freshS n taken) :=
  vName_ok (by have := freshK_le n taken; omega)

theorem canon_kind (taken : List Str) (e : Exp) (old names : List Str) : (canonM taken e old names).kind = e.kind := by
  by_cases h : e.kind = 1
  · rw [canonM_var h]
    split <;> rfl
  · rw [canonM_no h]
    rfl

theorem zip_left {α β γ : Type} {f : α → γ} : ∀ {l : List α} {m : List β}, l.length = m.length → List.zipWith (fun a _ => f a) l m = l.map f
  | [], m, _ => by simp
  | a :: l, [], h => by simp at h
  | a :: l, b :: m, h => by
    simp only [List.zipWith_cons_cons, List.map_cons]
    rw [zip_left (by simpa using h)]

theorem canon_weight (taken : List Str) (e : Exp) : ∀ old names, e.wf → (canonM taken e old names).weight = e.weight := by
  induction e using Exp.ind with
  | h e ih =>
    intro old names hw
    by_cases h : e.kind = 1
    · rw [canonM_var h]
      split
      · rw [Exp.weight_eq, e.weight_eq]
        rfl
      · rfl
    · obtain ⟨_, hc, _⟩ := canon_parts (taken := taken) (old := old) (names := names) h hw.one
      rw [Exp.weight_eq, e.weight_eq, hc]
      have ha : ((canonM taken e old names).arms.map fun a => a.1.vars.length) = e.arms.map fun a => a.1.vars.length := by
        rw [canonM_no h, arms_mk, List.map_zipWith]
        simp only [news_len]
        exact zip_left (f := fun a : ArmH × Exp => a.1.vars.length) (by rw [List.length_drop, canonC_len]; omega)
      have hcw : (canonC taken e old names).map Exp.weight = e.children.map Exp.weight := by
        refine List.ext_getElem? fun i => ?_
        rw [List.getElem?_map, List.getElem?_map]
        cases hx : e.children[i]? with
        | none =>
          rw [List.getElem?_eq_none (by rw [canonC_len, ← e.children_len]; exact List.getElem?_eq_none_iff.1 hx)]
        | some x =>
          rw [canonC_get hx, Option.map_some, Option.map_some, ih x (List.mem_of_getElem? hx) _ _ (hw.child (List.mem_of_getElem? hx))]
      rw [ha, hcw]
end Go.Vs.Tryz

/- The canonical form of a well-made term is well made, and its names are visible (plain). -/
namespace Go.Vs.Tryz
open Go Go.Vs

theorem canon_good (taken : List Str) (e : Exp) : ∀ old names, good e → names.length = old.length → (∀ s ∈ names, nameOk 97 122 s) → old.length + e.weight + taken.length < 9000000 → good (canonM taken e old names) := by
  induction e using Exp.ind with
  | h e ih =>
    intro old names g hl hn hb
    obtain ⟨gp, gn, gt, _⟩ := g.one
    by_cases h : e.kind = 1
    · have h1 := g.cases
      rw [canonM_var h]
      split
      · rename_i h0
        have hm1 : e.name ∈ old := Classical.byContradiction fun hm => by rw [rlast_no hm] at h0; omega
        have hlt := rlast_lt hm1
        obtain ⟨s, hs⟩ := get_of_lt (l := names) (i := (rlast old e.name).toNat) (by omega)
        have hsn := hn s (List.mem_of_getElem? hs)
        rw [hs, Option.getD_some]
        obtain ⟨_, _, hk, ha⟩ : e.kind = 1 ∧ nameOk 97 122 e.name ∧ e.kids = [] ∧ e.arms = [] := by
          rcases h1 with h1 | h1 | h1 | h1 | h1
          · exact h1
          all_goals omega
        rw [good_eq]
        refine ⟨⟨gp, gn, gt, .inl ⟨h, hsn, hk, ha⟩⟩, ?_⟩
        intro x hx
        rw [children_mk, hk, ha] at hx
        cases hx
      · exact g
    · obtain ⟨_, hch, _⟩ := canon_parts (taken := taken) (old := old) (names := names) h g.wf.one
      have hok : ∀ n, n < old.length + e.weight → nameOk 97 122 (freshS n taken) := fun n hn => freshS_ok (by omega)
      have hws := e.weight_pos
      rw [good_eq]
      constructor
      · have hkk : ∀ x ∈ e.children, ∀ o m, (canonM taken x o m).kind = x.kind := fun x _ o m => canon_kind taken x o m
        rcases g.cases with ⟨k, _⟩ | ⟨k, hnm, hk, ha⟩ | ⟨k, hnm, ⟨x, hk, _⟩, ha⟩ | ⟨k, hnm, ⟨f, x, hk, hf, _⟩, ha⟩ | ⟨k, hnm, ⟨x, hk, hx, _⟩, ha, hall⟩
        · exact absurd k h
        · rw [canonM_no h]
          refine ⟨gp, gn, gt, .inr (.inl ⟨k, ?_, ?_, ?_⟩)⟩
          · rw [name_mk, if_neg (by omega)]; exact hnm
          · rw [kids_mk, hk]; rfl
          · rw [arms_mk, ha]; rfl
        · rw [canonM_no h]
          refine ⟨gp, gn, gt, .inr (.inr (.inl ⟨k, ?_, ?_, ?_⟩))⟩
          · rw [name_mk, if_pos (.inl k)]; exact hok _ (by omega)
          · rw [kids_mk, hk]
            simp only [canonC, Exp.children, hk, ha, List.map_nil, List.append_nil, List.zipIdx_cons, List.zipIdx_nil, List.map_cons, List.length_singleton]
            exact ⟨_, rfl⟩
          · rw [arms_mk, ha]; rfl
        · rw [canonM_no h]
          refine ⟨gp, gn, gt, .inr (.inr (.inr (.inl ⟨k, ?_, ?_, ?_⟩)))⟩
          · rw [name_mk, if_neg (by omega)]; exact hnm
          · rw [kids_mk, hk]
            simp only [canonC, Exp.children, hk, ha, List.map_nil, List.append_nil, List.zipIdx_cons, List.zipIdx_nil, List.map_cons, List.length_cons, List.length_nil]
            exact ⟨_, _, rfl, by rw [canon_kind]; exact hf⟩
          · rw [arms_mk, ha]; rfl
        · rw [canonM_no h]
          have hcl := canonC_len taken e old names
          refine ⟨gp, gn, gt, .inr (.inr (.inr (.inr ⟨k, ?_, ?_, ?_, ?_⟩)))⟩
          · rw [name_mk, if_neg (by omega)]; exact hnm
          · rw [kids_mk, hk]
            simp only [canonC, Exp.children, hk, List.cons_append, List.nil_append, List.zipIdx_cons, List.map_cons, List.length_singleton]
            exact ⟨_, rfl, by rw [canon_kind]; exact hx⟩
          · rw [arms_mk]
            intro h0
            have := congrArg List.length h0
            rw [List.length_zipWith, List.length_drop, hcl] at this
            have h2 : e.arms.length ≠ 0 := fun h => ha (List.length_eq_zero_iff.1 h)
            rw [Nat.min_eq_left (by omega)] at this
            exact h2 this
          · rw [arms_mk]
            intro a hm
            obtain ⟨j, hj⟩ := List.mem_iff_getElem?.1 hm
            rw [List.getElem?_zipWith] at hj
            cases h1 : e.arms[j]? with
            | none => rw [h1] at hj; simp at hj
            | some b =>
              rw [h1] at hj
              cases h2 : ((canonC taken e old names).drop e.kids.length)[j]? with
              | none => rw [h2] at hj; simp at hj
              | some c =>
                rw [h2] at hj
                simp only [Option.some.injEq] at hj
                subst hj
                obtain ⟨b1, b2, b3, _, _⟩ := hall b (List.mem_of_getElem? h1)
                have hvl := Exp.vars_le (e := e) (a := b) (List.mem_of_getElem? h1)
                refine ⟨b1, b2, by simpa using b3, ?_⟩
                intro v hv
                simp only [news, List.mem_map, List.mem_range] at hv
                obtain ⟨q, hq, rfl⟩ := hv
                exact hok _ (by omega)
      · rw [hch]
        intro y hy
        obtain ⟨i, hi⟩ := List.mem_iff_getElem?.1 hy
        have hlt : i < e.children.length := by
          rcases Nat.lt_or_ge i (canonC taken e old names).length with h2 | h2
          · rwa [canonC_len, ← e.children_len] at h2
          · rw [List.getElem?_eq_none h2] at hi; cases hi
        obtain ⟨x, hx⟩ := get_of_lt hlt
        rw [canonC_get hx] at hi
        simp only [Option.some.injEq] at hi
        subst hi
        have hm := List.mem_of_getElem? hx
        have hbc := bound_child hx
        refine ih x hm _ _ (g.child hm) (by simp [hl]) ?_ (by simp; omega)
        intro s hs
        rcases List.mem_append.1 hs with hs | hs
        · exact hn s hs
        · simp only [news, List.mem_map, List.mem_range] at hs
          obtain ⟨q, hq, rfl⟩ := hs
          have hxp := x.weight_pos
          exact hok _ (by omega)

theorem canon_scope (ds : List DataD) (taken : List Str) (N : List Str) (e : Exp) : ∀ old names, good e → names.length = old.length → inScope ds e (N ++ old) → inScope ds (canonM taken e old names) (N ++ names) := by
  induction e using Exp.ind with
  | h e ih =>
    intro old names g hl hs
    rw [inScope_eq] at hs
    obtain ⟨⟨s1, s2, s8⟩, sc⟩ := hs
    by_cases h : e.kind = 1
    · obtain ⟨_, _, hk, ha⟩ : e.kind = 1 ∧ nameOk 97 122 e.name ∧ e.kids = [] ∧ e.arms = [] := by
        rcases g.cases with h1 | h1 | h1 | h1 | h1
        · exact h1
        all_goals omega
      rw [canonM_var h]
      split
      · rename_i h0
        have hm1 : e.name ∈ old := Classical.byContradiction fun hm => by rw [rlast_no hm] at h0; omega
        have hlt := rlast_lt hm1
        obtain ⟨s, hs⟩ := get_of_lt (l := names) (i := (rlast old e.name).toNat) (by omega)
        rw [hs, Option.getD_some, inScope_eq]
        refine ⟨⟨fun _ => ?_, fun h2 => ?_, fun h8 => ?_⟩, ?_⟩
        · rw [name_mk]; exact List.mem_append_right _ (List.mem_of_getElem? hs)
        · rw [kind_mk] at h2; omega
        · rw [kind_mk] at h8; omega
        · intro i x hx
          rw [children_mk, hk, ha] at hx
          simp at hx
      · rename_i h0
        rw [inScope_eq]
        refine ⟨⟨fun _ => ?_, fun h2 => by omega, fun h8 => by omega⟩, ?_⟩
        · rcases List.mem_append.1 (s1 h) with hm | hm
          · exact List.mem_append_left _ hm
          · exact absurd (rlast_mem hm) h0
        · intro i x hx
          rw [show e.children = [] by simp [Exp.children, hk, ha]] at hx
          simp at hx
    · obtain ⟨_, hch, _, hnm, hbd⟩ := canon_parts (taken := taken) (old := old) (names := names) h g.wf.one
      have hcl := canonC_len taken e old names
      have hkd := canon_kind taken e old names
      rw [inScope_eq]
      refine ⟨⟨fun h1 => absurd (hkd ▸ h1) h, fun h2 => ?_, fun h8 => ?_⟩, ?_⟩
      · rw [← hnm (hkd ▸ h2)]
        exact s2 (hkd ▸ h2)
      · obtain ⟨d, hd, d1, d2⟩ := s8 (hkd ▸ h8)
        refine ⟨d, hd, ?_, ?_⟩
        · rw [← d1, canonM_no h, arms_mk, List.map_zipWith]
          exact zip_left (f := fun a : ArmH × Exp => a.1.con) (by rw [List.length_drop, hcl]; omega)
        · rw [← d2, canonM_no h, arms_mk, List.map_zipWith]
          simp only [news_len]
          exact zip_left (f := fun a : ArmH × Exp => a.1.vars.length) (by rw [List.length_drop, hcl]; omega)
      · intro i y hy
        rw [hch] at hy
        have hlt : i < e.children.length := by
          rcases Nat.lt_or_ge i (canonC taken e old names).length with h2 | h2
          · rwa [canonC_len, ← e.children_len] at h2
          · rw [List.getElem?_eq_none h2] at hy; cases hy
        obtain ⟨x, hx⟩ := get_of_lt hlt
        rw [canonC_get hx] at hy
        simp only [Option.some.injEq] at hy
        subst hy
        have hm := List.mem_of_getElem? hx
        rw [hbd i hlt, List.append_assoc]
        refine ih x hm _ _ (g.child hm) (by simp [hl]) ?_
        rw [← List.append_assoc]
        exact sc i x hx

/-- The canonical form of a term. -/
theorem canonT_term {ds : List DataD} {N : List Str} {e : Exp} {taken : List Str} (g : good e) (s : inScope ds e N) (hw : e.weight ≤ 32768) (ht : taken.length ≤ 1000) (hf : (freeP e).length ≤ 100000) :
    good (canonT e taken) ∧ inScope ds (canonT e taken) N ∧ (canonT e taken).weight = e.weight := by
  unfold canonT
  rw [strip_good g]
  refine ⟨canon_good _ e [] [] g rfl (by simp) (by simp; omega), ?_, canon_weight _ e [] [] g.wf⟩
  have := canon_scope ds (taken ++ freeP e) N e [] [] g rfl (by simpa using s)
  simpa using this
end Go.Vs.Tryz

/- Comparing answers one of three numbers (plain). -/
namespace Go.Vs.Tryz
open Go Go.Vs

def one3 (x : Int) : Prop := -1 ≤ x ∧ x ≤ 1
theorem orI_one3 : ∀ {l : List Int}, (∀ x ∈ l, one3 x) → one3 (orI l)
  | [], _ => ⟨by decide, by decide⟩
  | a :: r, h => by
    rw [orI_cons]
    split
    · exact orI_one3 fun x hx => h x (List.mem_cons_of_mem _ hx)
    · exact h a List.mem_cons_self
theorem cmpI_one3 (a b : Int) : one3 (cmpI a b) := by
  unfold cmpI one3
  (repeat' split) <;> omega
theorem zip_one3 {α β : Type} {f : α → β → Int} (h : ∀ p q, one3 (f p q)) : ∀ (l : List α) (m : List β), ∀ x ∈ List.zipWith f l m, one3 x
  | [], _ => by simp
  | _ :: _, [] => by simp
  | a :: l, b :: m => by
    intro x hx
    rw [List.zipWith_cons_cons] at hx
    rcases List.mem_cons.1 hx with rfl | hx
    · exact h a b
    · exact zip_one3 h l m x hx
theorem cmpF_one3 {rk : List Str → Exp → Int} : ∀ (n : Nat) (l m : List Str) (a b : Exp), one3 (cmpF rk n l m a b)
  | 0, _, _, _, _ => ⟨by show (-1 : Int) ≤ 0; decide, by show (0 : Int) ≤ 1; decide⟩
  | n + 1, l, m, a, b => by
    have ih := cmpF_one3 (rk := rk) n
    unfold cmpF
    refine orI_one3 fun x hx => ?_
    simp only [List.mem_cons, List.not_mem_nil, or_false] at hx
    rcases hx with rfl | rfl | rfl
    · exact cmpI_one3 _ _
    · exact cmpI_one3 _ _
    · split
      · exact ih _ _ _ _
      · split
        · refine orI_one3 fun x hx => ?_
          simp only [List.mem_cons, List.mem_append, List.not_mem_nil, or_false] at hx
          rcases hx with rfl | rfl | hx | rfl
          · exact cmpI_one3 _ _
          · exact cmpI_one3 _ _
          · exact zip_one3 (fun p q => ih _ _ _ _) _ _ x hx
          · exact cmpI_one3 _ _
        · refine orI_one3 fun x hx => ?_
          simp only [List.mem_cons, List.not_mem_nil, or_false] at hx
          rcases hx with rfl | rfl | rfl
          · exact cmpI_one3 _ _
          · exact cmpI_one3 _ _
          · exact orI_one3 (zip_one3 (fun p q => ih _ _ _ _) _ _)
end Go.Vs.Tryz
