/- The canonical form of a well-made term is well made, and its names are visible (plain). -/
import Derived.Test.YtchkkbbchpnabaaGreatDoorR6c
import Derived.Test.YtchkkbbchpnabaaGreatDoorR3c
import Derived.Test.YtchkkbbchpnabaaGreatDoorR5c
set_option linter.unusedSimpArgs false
set_option linter.unusedVariables false
set_option linter.deprecated false

/- The canonical form of a well-made term is well made, and its names are visible (plain). -/
namespace Go.Vs.Tryz
open Go Go.Vs

theorem canon_good (taken : List Str) (e : Exp) : ∀ old names, good e → names.length = old.length → (∀ s ∈ names, nameOk 97 122 s) → old.length + e.weight + taken.length < 9000000 → good (canonM taken e old names) := by
  induction e using Exp.ind with
  | h e ih =>
    intro old names g hl hn hb
    obtain ⟨gp, gn, gt, _⟩ := g.one
    by_cases h : e.kind = 1
    · have h1 := g.cases
      rw [canonM_var h]
      split
      · rename_i h0
        have hm1 : e.name ∈ old := Classical.byContradiction fun hm => by rw [rlast_no hm] at h0; omega
        have hlt := rlast_lt hm1
        obtain ⟨s, hs⟩ := get_of_lt (l := names) (i := (rlast old e.name).toNat) (by omega)
        have hsn := hn s (List.mem_of_getElem? hs)
        rw [hs, Option.getD_some]
        obtain ⟨_, _, hk, ha⟩ : e.kind = 1 ∧ nameOk 97 122 e.name ∧ e.kids = [] ∧ e.arms = [] := by
          rcases h1 with h1 | h1 | h1 | h1 | h1
          · exact h1
          all_goals omega
        rw [good_eq]
        refine ⟨⟨gp, gn, gt, .inl ⟨h, hsn, hk, ha⟩⟩, ?_⟩
        intro x hx
        rw [children_mk, hk, ha] at hx
        cases hx
      · exact g
    · obtain ⟨_, hch, _⟩ := canon_parts (taken := taken) (old := old) (names := names) h g.wf.one
      have hok : ∀ n, n < old.length + e.weight → nameOk 97 122 (freshS n taken) := fun n hn => freshS_ok (by omega)
      have hws := e.weight_pos
      rw [good_eq]
      constructor
      · have hkk : ∀ x ∈ e.children, ∀ o m, (canonM taken x o m).kind = x.kind := fun x _ o m => canon_kind taken x o m
        rcases g.cases with ⟨k, _⟩ | ⟨k, hnm, hk, ha⟩ | ⟨k, hnm, ⟨x, hk, _⟩, ha⟩ | ⟨k, hnm, ⟨f, x, hk, hf, _⟩, ha⟩ | ⟨k, hnm, ⟨x, hk, hx, _⟩, ha, hall⟩
        · exact absurd k h
        · rw [canonM_no h]
          refine ⟨gp, gn, gt, .inr (.inl ⟨k, ?_, ?_, ?_⟩)⟩
          · rw [name_mk, if_neg (by omega)]; exact hnm
          · rw [kids_mk, hk]; rfl
          · rw [arms_mk, ha]; rfl
        · rw [canonM_no h]
          refine ⟨gp, gn, gt, .inr (.inr (.inl ⟨k, ?_, ?_, ?_⟩))⟩
          · rw [name_mk, if_pos (.inl k)]; exact hok _ (by omega)
          · rw [kids_mk, hk]
            simp only [canonC, Exp.children, hk, ha, List.map_nil, List.append_nil, List.zipIdx_cons, List.zipIdx_nil, List.map_cons, List.length_singleton]
            exact ⟨_, rfl⟩
          · rw [arms_mk, ha]; rfl
        · rw [canonM_no h]
          refine ⟨gp, gn, gt, .inr (.inr (.inr (.inl ⟨k, ?_, ?_, ?_⟩)))⟩
          · rw [name_mk, if_neg (by omega)]; exact hnm
          · rw [kids_mk, hk]
            simp only [canonC, Exp.children, hk, ha, List.map_nil, List.append_nil, List.zipIdx_cons, List.zipIdx_nil, List.map_cons, List.length_cons, List.length_nil]
            exact ⟨_, _, rfl, by rw [canon_kind]; exact hf⟩
          · rw [arms_mk, ha]; rfl
        · rw [canonM_no h]
          have hcl := canonC_len taken e old names
          refine ⟨gp, gn, gt, .inr (.inr (.inr (.inr ⟨k, ?_, ?_, ?_, ?_⟩)))⟩
          · rw [name_mk, if_neg (by omega)]; exact hnm
          · rw [kids_mk, hk]
            simp only [canonC, Exp.children, hk, List.cons_append, List.nil_append, List.zipIdx_cons, List.map_cons, List.length_singleton]
            exact ⟨_, rfl, by rw [canon_kind]; exact hx⟩
          · rw [arms_mk]
            intro h0
            have := congrArg List.length h0
            rw [List.length_zipWith, List.length_drop, hcl] at this
            have h2 : e.arms.length ≠ 0 := fun h => ha (List.length_eq_zero_iff.1 h)
            rw [Nat.min_eq_left (by omega)] at this
            exact h2 this
          · rw [arms_mk]
            intro a hm
            obtain ⟨j, hj⟩ := List.mem_iff_getElem?.1 hm
            rw [List.getElem?_zipWith] at hj
            cases h1 : e.arms[j]? with
            | none => rw [h1] at hj; simp at hj
            | some b =>
              rw [h1] at hj
              cases h2 : ((canonC taken e old names).drop e.kids.length)[j]? with
              | none => rw [h2] at hj; simp at hj
              | some c =>
                rw [h2] at hj
                simp only [Option.some.injEq] at hj
                subst hj
                obtain ⟨b1, b2, b3, _, _⟩ := hall b (List.mem_of_getElem? h1)
                have hvl := Exp.vars_le (e := e) (a := b) (List.mem_of_getElem? h1)
                refine ⟨b1, b2, by simpa using b3, ?_⟩
                intro v hv
                simp only [news, List.mem_map, List.mem_range] at hv
                obtain ⟨q, hq, rfl⟩ := hv
                exact hok _ (by omega)
      · rw [hch]
        intro y hy
        obtain ⟨i, hi⟩ := List.mem_iff_getElem?.1 hy
        have hlt : i < e.children.length := by
          rcases Nat.lt_or_ge i (canonC taken e old names).length with h2 | h2
          · rwa [canonC_len, ← e.children_len] at h2
          · rw [List.getElem?_eq_none h2] at hi; cases hi
        obtain ⟨x, hx⟩ := get_of_lt hlt
        rw [canonC_get hx] at hi
        simp only [Option.some.injEq] at hi
        subst hi
        have hm := List.mem_of_getElem? hx
        have hbc := bound_child hx
        refine ih x hm _ _ (g.child hm) (by simp [hl]) ?_ (by simp; omega)
        intro s hs
        rcases List.mem_append.1 hs with hs | hs
        · exact hn s hs
        · simp only [news, List.mem_map, List.mem_range] at hs
          obtain ⟨q, hq, rfl⟩ := hs
          have hxp := x.weight_pos
          exact hok _ (by omega)

theorem canon_scope (ds : List DataD) (taken : List Str) (N : List Str) (e : Exp) : ∀ old names, good e → names.length = old.length → inScope ds e (N ++ old) → inScope ds (canonM taken e old names) (N ++ names) := by
  induction e using Exp.ind with
  | h e ih =>
    intro old names g hl hs
    rw [inScope_eq] at hs
    obtain ⟨⟨s1, s2, s8⟩, sc⟩ := hs
    by_cases h : e.kind = 1
    · obtain ⟨_, _, hk, ha⟩ : e.kind = 1 ∧ nameOk 97 122 e.name ∧ e.kids = [] ∧ e.arms = [] := by
        rcases g.cases with h1 | h1 | h1 | h1 | h1
        · exact h1
        all_goals omega
      rw [canonM_var h]
      split
      · rename_i h0
        have hm1 : e.name ∈ old := Classical.byContradiction fun hm => by rw [rlast_no hm] at h0; omega
        have hlt := rlast_lt hm1
        obtain ⟨s, hs⟩ := get_of_lt (l := names) (i := (rlast old e.name).toNat) (by omega)
        rw [hs, Option.getD_some, inScope_eq]
        refine ⟨⟨fun _ => ?_, fun h2 => ?_, fun h8 => ?_⟩, ?_⟩
        · rw [name_mk]; exact List.mem_append_right _ (List.mem_of_getElem? hs)
        · rw [kind_mk] at h2; omega
        · rw [kind_mk] at h8; omega
        · intro i x hx
          rw [children_mk, hk, ha] at hx
          simp at hx
      · rename_i h0
        rw [inScope_eq]
        refine ⟨⟨fun _ => ?_, fun h2 => by omega, fun h8 => by omega⟩, ?_⟩
        · rcases List.mem_append.1 (s1 h) with hm | hm
          · exact List.mem_append_left _ hm
          · exact absurd (rlast_mem hm) h0
        · intro i x hx
          rw [show e.children = [] by simp [Exp.children, hk, ha]] at hx
          simp at hx
    · obtain ⟨_, hch, _, hnm, hbd⟩ := canon_parts (taken := taken) (old := old) (names := names) h g.wf.one
      have hcl := canonC_len taken e old names
      have hkd := canon_kind taken e old names
      rw [inScope_eq]
      refine ⟨⟨fun h1 => absurd (hkd ▸ h1) h, fun h2 => ?_, fun h8 => ?_⟩, ?_⟩
      · rw [← hnm (hkd ▸ h2)]
        exact s2 (hkd ▸ h2)
      · obtain ⟨d, hd, d1, d2⟩ := s8 (hkd ▸ h8)
        refine ⟨d, hd, ?_, ?_⟩
        · rw [← d1, canonM_no h, arms_mk, List.map_zipWith]
          exact zip_left (f := fun a : ArmH × Exp => a.1.con) (by rw [List.length_drop, hcl]; omega)
        · rw [← d2, canonM_no h, arms_mk, List.map_zipWith]
          simp only [news_len]
          exact zip_left (f := fun a : ArmH × Exp => a.1.vars.length) (by rw [List.length_drop, hcl]; omega)
      · intro i y hy
        rw [hch] at hy
        have hlt : i < e.children.length := by
          rcases Nat.lt_or_ge i (canonC taken e old names).length with h2 | h2
          · rwa [canonC_len, ← e.children_len] at h2
          · rw [List.getElem?_eq_none h2] at hy; cases hy
        obtain ⟨x, hx⟩ := get_of_lt hlt
        rw [canonC_get hx] at hy
        simp only [Option.some.injEq] at hy
        subst hy
        have hm := List.mem_of_getElem? hx
        rw [hbd i hlt, List.append_assoc]
        refine ih x hm _ _ (g.child hm) (by simp [hl]) ?_
        rw [← List.append_assoc]
        exact sc i x hx

/-- The canonical form of a term. -/
theorem canonT_term {ds : List DataD} {N : List Str} {e : Exp} {taken : List Str} (g : good e) (s : inScope ds e N) (hw : e.weight ≤ 32768) (ht : taken.length ≤ 1000) (hf : (freeP e).length ≤ 100000) :
    good (canonT e taken) ∧ inScope ds (canonT e taken) N ∧ (canonT e taken).weight = e.weight := by
  unfold canonT
  rw [strip_good g]
  refine ⟨canon_good _ e [] [] g rfl (by simp) (by simp; omega), ?_, canon_weight _ e [] [] g.wf⟩
  have := canon_scope ds (taken ++ freeP e) N e [] [] g rfl (by simpa using s)
  simpa using this
end Go.Vs.Tryz

/- Equal types, leaves, type variables, walked: what they answer is of the right shape. -/
namespace Go.Vs.Tryz
open Go Go.Vs
variable {A : Oracle}

theorem equals134 (l m : List Ty) (hl : l.length ≤ 687194767360) (ih : ∀ x ∈ l, ∀ b, ∃ r, IntsB r ∧ (K A).call 42 [tyV x, tyV b] [] = some r) : ∃ r, IntsB r ∧ (K A).call 45 [tysV l, tysV m] [] = some r := by
  refine fn_ofE _ (vf := v45) (by kernel_rfl) rfl (by simp) ?_
  unfold v45
  by_cases hn : l.length = m.length
  · simp (disch := first | omega | (simp; done) | (simp; omega)) [hn]
    refine wp_loopI (fun i s => s = ⟨[(0, tysV l), (1, tysV m), (5, intV i)], []⟩) l.length (by simp) ?_ ?_
    · rintro i s hi rfl
      obtain ⟨x, hx⟩ := get_of_lt hi
      obtain ⟨y, hy⟩ := get_of_lt (l := m) (i := i) (by omega)
      obtain ⟨_, ⟨b, rfl⟩, hc⟩ := ih x (List.mem_of_getElem? hx) y
      unfold l45_0
      cases b with
      | true => simp (disch := first | omega | (simp; done) | (simp; omega)) [hi, hx, hy, hc, -getElem?_pos]
      | false =>
        simp (disch := first | omega | (simp; done) | (simp; omega)) [hi, hx, hy, hc, -getElem?_pos]
        exact ⟨false, rfl⟩
    · rintro s rfl
      unfold l45_0
      simp (disch := first | omega | (simp; done) | (simp; omega))
      exact ⟨true, rfl⟩
  · have hn' : ¬ (l.length : Int) = m.length := by omega
    simp (disch := first | omega | (simp; done) | (simp; omega)) [hn, hn']
    exact ⟨false, rfl⟩

set_option maxHeartbeats 2000000 in
theorem equal85 : ∀ (n : Nat) (a b : Ty), a.size ≤ n → n ≤ 687194767360 → ∃ r, IntsB r ∧ (K A).call 42 [tyV a, tyV b] [] = some r := by
  intro n
  induction n with
  | zero =>
    intro a b ha
    have := a.size_pos
    omega
  | succ n ih =>
    intro a b ha hn
    have hal := a.args_lt
    obtain ⟨_, ⟨v, rfl⟩, hc⟩ := equals134 (A := A) a.args b.args (by omega) (fun x hx b => ih x b (by have := Ty.arg_lt hx; omega) (by omega))
    refine fn_ofE _ (vf := v42) (by kernel_rfl) rfl (by simp) ?_
    unfold v42
    by_cases h1 : a.kind = b.kind
    · by_cases h2 : a.name = b.name
      · by_cases h3 : a.id = b.id
        · by_cases h4 : a.home = b.home
          · simp (disch := first | omega | (simp; done) | (simp; omega)) [h1, h2, h3, h4, hc]
            exact ⟨v, rfl⟩
          · simp (disch := first | omega | (simp; done) | (simp; omega)) [h1, h2, h3, h4, hc]
            exact ⟨false, rfl⟩
        · simp (disch := first | omega | (simp; done) | (simp; omega)) [h1, h2, h3, hc]
          exact ⟨false, rfl⟩
      · simp (disch := first | omega | (simp; done) | (simp; omega)) [h1, h2, hc]
        exact ⟨false, rfl⟩
    · simp (disch := first | omega | (simp; done) | (simp; omega)) [h1, hc]
      exact ⟨false, rfl⟩

def LeafP (n m : Nat) (r : V × List Obj) : Prop := ∃ out : List Ty, n ≤ out.length ∧ out.length ≤ m ∧ (∀ x ∈ out, x.size ≤ 687194767360) ∧ r = (.sc (.arr 0 out.length), [.arr 5 (wr (Ty.rows out)) 0])

def VarsP (m : Nat) (r : V × List Obj) : Prop := ∃ ids : List Int, ids.length ≤ m ∧ r = (intsV ids, [])

end Go.Vs.Tryz

/- Replace, Close, types with leaves, contexts, walked: what they answer is of the right shape. -/
namespace Go.Vs.Tryz
open Go Go.Vs
variable {A : Oracle}

def TyP (r : V × List Obj) : Prop := ∃ t : Ty, r = (tyV t, [])

def CloseP (r : V × List Obj) : Prop := ∃ (c : Int) (t : Ty), r = (schV c t, [])

theorem sizes_le {m : Nat} : ∀ {l : List Ty}, (∀ x ∈ l, x.size ≤ m) → (l.map Ty.size).sum ≤ l.length * m
  | [], _ => by simp
  | a :: r, h => by
    have h1 := h a (by simp)
    have h2 := sizes_le (l := r) fun x hx => h x (by simp [hx])
    simp only [List.map_cons, List.sum_cons, List.length_cons, Nat.succ_mul]
    omega

def TypeS (L : List Int) (m : Nat) (r : V × List Obj) : Prop := ∃ t J, t.size ≤ m ∧ J ≤ L.length ∧ r = (tyV t, [tapeO L J])
/-- Ahead of the i-th argument of a type. -/
def TypeJ (L : List Int) (ds : List DataD) (ls : List Ty) (dd : DataD) (d i : Nat) (s : St) : Prop := ∃ tys J, tys.length = i ∧ (∀ x ∈ tys, x.size ≤ 5 ^ d) ∧ J ≤ L.length ∧
  s = ⟨[(0, .sc (.ptr 0 0)), (1, datasV ds), (2, tysV ls), (3, intV (d + 1)), (8, .sc (.ptr 64 0)), (10, .sc (.ptr 3392 0)), (11, .sc (.arr 3521 i)), (12, intV i)],
    [(0, some (tapeO L J)), (64, some (.box [zi, zs, zi, zi, .nil])), (3392, some (.box (wc (dataRow dd)))), (3521, some (.arr 5 (wr (Ty.rows tys)) 0))]⟩

set_option maxHeartbeats 4000000 in
theorem type39L (L : List Int) (ds : List DataD) (ls : List Ty) (hL : L.length ≤ 687194767360) (hds : goodDs ds) (hls : 0 < ls.length) (hls2 : ls.length ≤ 100) (hls3 : ∀ x ∈ ls, x.size = 1) : ∀ (d I : Nat), d ≤ 100 → I ≤ L.length →
    ∃ r, TypeS L (5 ^ d) r ∧ (K A).call 22 [.sc (.ptr 0 0), datasV ds, tysV ls, intV d] [tapeO L I] = some r := by
  intro d
  have leafCase : ∀ (d I k J : Nat), k < 3 → J ≤ L.length → (K A).call 20 [.sc (.ptr 0 0), intV 7] [tapeO L I] = some (intV k, [tapeO L J]) →
      ∃ r, TypeS L (5 ^ d) r ∧ (K A).call 22 [.sc (.ptr 0 0), datasV ds, tysV ls, intV d] [tapeO L I] = some r := by
    intro d I k J h3 hJ hc
    obtain ⟨m, J1, hm, hJ1, hc1⟩ := next37 (A := A) L J ls.length hJ hL (by omega) (by omega)
    obtain ⟨x, hx⟩ := get_of_lt (l := ls) (i := m) (by omega)
    have hm' : (m : Int) < ls.length := hm
    have h3' : (k : Int) < 3 := by omega
    refine fn_ofE _ (vf := v22) (by kernel_rfl) rfl (by simp) ?_
    unfold v22
    simp (disch := first | omega | (simp; done) | (simp; omega)) [hc, h3', hls, hc1, hx, -getElem?_pos]
    exact ⟨x, J1, by rw [hls3 x (List.mem_of_getElem? hx)]; exact Nat.pos_of_ne_zero (by simp), hJ1, rfl⟩
  have intSz : (Ty.mk 4 [73, 110, 116] 0 0 []).size = 1 := Ty.size_leaf
  induction d with
  | zero =>
    intro I _ hI
    obtain ⟨k, J, hk, hJ, hc⟩ := next37 (A := A) L I 7 hI hL (by omega) (by omega)
    by_cases h3 : k < 3
    · exact leafCase 0 I k J h3 hJ hc
    · refine fn_ofE _ (vf := v22) (by kernel_rfl) rfl (by simp) ?_
      have hi := int29 (A := A)
      unfold v22
      have h3' : ¬ (k : Int) < 3 := by omega
      by_cases h4 : k < 4
      · have h4' : (k : Int) < 4 := by omega
        simp (disch := first | omega | (simp; done) | (simp; omega)) [hc, hi, h3', h4', -getElem?_pos]
        exact ⟨_, J, by rw [intSz]; exact Nat.le_refl _, hJ, rfl⟩
      · have h4' : ¬ (k : Int) < 4 := by omega
        simp (disch := first | omega | (simp; done) | (simp; omega)) [hc, hi, h3', h4']
        exact ⟨_, J, by rw [intSz]; exact Nat.le_refl _, hJ, rfl⟩
  | succ d ih =>
    intro I hd hI
    obtain ⟨k, J, hk, hJ, hc⟩ := next37 (A := A) L I 7 hI hL (by omega) (by omega)
    by_cases h3 : k < 3
    · exact leafCase (d + 1) I k J h3 hJ hc
    have hi := int29 (A := A)
    have hd1 : ¬ (d : Int) + 1 < 1 := by omega
    have hp : 1 ≤ 5 ^ d := Nat.pos_of_ne_zero (by simp)
    have hp1 : 5 ^ (d + 1) = 5 * 5 ^ d := by rw [Nat.pow_succ]; omega
    have h3' : ¬ (k : Int) < 3 := by omega
    refine fn_ofE _ (vf := v22) (by kernel_rfl) rfl (by simp) ?_
    by_cases h4 : k < 4
    · have h4' : (k : Int) < 4 := by omega
      unfold v22
      simp (disch := first | omega | (simp; done) | (simp; omega)) [hc, hi, h3', h4']
      exact ⟨_, J, by rw [intSz]; omega, hJ, rfl⟩
    · have h4' : ¬ (k : Int) < 4 := by omega
      by_cases hdata : ds ≠ [] ∧ k < 6
      · have hpos : 0 < ds.length := List.length_pos_iff.2 hdata.1
        have hds1 := hds.1
        obtain ⟨m, J1, hm, hJ1, hc1⟩ := next37 (A := A) L J ds.length hJ hL (by omega) (by omega)
        obtain ⟨dd, hdd⟩ := get_of_lt (l := ds) (i := m) (by omega)
        have hgood := hds.2 dd (List.mem_of_getElem? hdd)
        have hm' : (m : Int) < ds.length := hm
        have fin : wp (K A) (.loop l22_0) (blockQ 1 (thenQ (K A) (.seq (.region [] [o 77 (.fld 1 (tv 10)), o 78 (.load false 1 (tv 77)), o 79 (.mv (tv 11)), oa 80 (.call (kf 47) [(false, (tv 78)), (false, (tv 79))] []) 4992, on (.store 5 (tv 8) (tv 80) [])] [] [8]) .ret)
            (blockQ 0 (thenQ (K A) (.seq (.region [] [o 81 (.mv (tv 0)), o 82 (.mv (tv 1)), o 83 (.mv (tv 2)), o 84 (.mv (tv 3)), o 85 (.bin .sub 0 (tv 84) (ki 1)), oa 86 (.call (kf 22) [(true, (tv 81)), (false, (tv 82)), (false, (tv 83)), (false, (tv 85))] []) 5440, oa 13 (.new [zi, zs, zi, zi, .nil] []) 5504, on (.store 5 (tv 13) (tv 86) [])] [] [0, 1, 2, 3, 8, 13])
              (.seq (.region [] [o 87 (.load true 5 (tv 13)), o 88 (.mv (tv 0)), o 89 (.mv (tv 1)), o 90 (.mv (tv 2)), o 91 (.mv (tv 3)), o 92 (.bin .sub 0 (tv 91) (ki 1)), oa 93 (.call (kf 22) [(true, (tv 88)), (false, (tv 89)), (false, (tv 90)), (false, (tv 92))] []) 6016, oa 94 (.call (kf 48) [(false, (tv 87)), (false, (tv 93))] []) 6080, on (.store 5 (tv 8) (tv 94) [])] [(0, 6)] [8]) .ret)) (endsQ false 1 [.cell 8 true 5] (TypeS L (5 ^ (d + 1))))))))
            ⟨[(0, .sc (.ptr 0 0)), (1, datasV ds), (2, tysV ls), (3, intV (d + 1)), (8, .sc (.ptr 64 0)), (10, .sc (.ptr 3392 0)), (11, .sc (.arr 3521 0)), (12, intV 0)],
              [(0, some (tapeO L J1)), (64, some (.box [zi, zs, zi, zi, .nil])), (3392, some (.box (wc (dataRow dd)))), (3521, some (.arr 5 [] 0))]⟩ := by
          refine wp_loopI (TypeJ L ds ls dd d) dd.params.length ⟨[], J1, rfl, by simp, hJ1, by simp⟩ ?_ ?_
          · rintro i s hi' ⟨tys, J2, ht, hts, hJ2, rfl⟩
            obtain ⟨r, ⟨ty, J3, hty, hJ3, rfl⟩, hc2⟩ := ih J2 (by omega) hJ2
            have hip := hgood.1
            unfold l22_0
            simp (disch := first | omega | (simp; done) | (simp; omega)) [hi', hc2, ht]
            refine ⟨tys ++ [ty], J3, by simp [ht], ?_, hJ3, by simp⟩
            intro x hx
            rcases List.mem_append.1 hx with hx | hx
            · exact hts x hx
            · simp only [List.mem_singleton] at hx
              exact hx ▸ hty
          · rintro s ⟨tys, J2, ht, hts, hJ2, rfl⟩
            have hip := hgood.1
            have hcon := con65 (A := A) dd.name tys (by omega)
            unfold l22_0
            simp (disch := first | omega | (simp; done) | (simp; omega)) [hcon, ht, -getElem?_pos]
            refine ⟨_, J2, ?_, hJ2, rfl⟩
            have hs := sizes_le hts
            have hm4 : tys.length * 5 ^ d ≤ 4 * 5 ^ d := Nat.mul_le_mul_right _ (by omega)
            simp only [Ty.size, Ty.sizes_map]
            omega
        by_cases hk4 : k = 4
        · unfold v22
          simp (disch := first | omega | (simp; done) | (simp; omega)) [hc, hi, h3', h4', hd1, hk4, hdata.1, hpos, hc1, hdd, -getElem?_pos]
          exact fin
        · have hk5 : k = 5 := by omega
          unfold v22
          simp (disch := first | omega | (simp; done) | (simp; omega)) [hc, hi, h3', h4', hd1, hk5, hdata.1, hpos, hc1, hdd, -getElem?_pos]
          exact fin
      · obtain ⟨r1, ⟨t1, J1, ht1, hJ1, rfl⟩, hc1⟩ := ih J (by omega) hJ
        obtain ⟨r2, ⟨t2, J2, ht2, hJ2, rfl⟩, hc2⟩ := ih J1 (by omega) hJ1
        have har := arrow79 (A := A) t1 t2
        have hsz : (Ty.mk 4 [45, 62] 0 0 [t1, t2]).size ≤ 5 ^ (d + 1) := by
          simp only [Ty.size, Ty.sizes]
          omega
        have hb4 : ¬ ((k : Int) = 4 ∧ 0 < ds.length) := by
          rintro ⟨h1, h2⟩
          exact hdata ⟨List.length_pos_iff.1 h2, by omega⟩
        have hb5 : ¬ ((k : Int) = 5 ∧ 0 < ds.length) := by
          rintro ⟨h1, h2⟩
          exact hdata ⟨List.length_pos_iff.1 h2, by omega⟩
        unfold v22
        by_cases hz : ds = []
        · subst hz
          simp only [datasV, dataRows0] at hc1 hc2
          by_cases hk4 : (k : Int) = 4
          · simp (disch := first | omega | (simp; done) | (simp; omega)) [hc, hi, h3', h4', hd1, hk4, hc1, hc2, har, -getElem?_pos]
            exact ⟨_, J2, hsz, hJ2, rfl⟩
          · by_cases hk5 : (k : Int) = 5
            · simp (disch := first | omega | (simp; done) | (simp; omega)) [hc, hi, h3', h4', hd1, hk4, hk5, hc1, hc2, har]
              exact ⟨_, J2, hsz, hJ2, rfl⟩
            · simp (disch := first | omega | (simp; done) | (simp; omega)) [hc, hi, h3', h4', hd1, hk4, hk5, hc1, hc2, har]
              exact ⟨_, J2, hsz, hJ2, rfl⟩
        · have hk4 : ¬ (k : Int) = 4 := fun h => hdata ⟨hz, by omega⟩
          have hk5 : ¬ (k : Int) = 5 := fun h => hdata ⟨hz, by omega⟩
          simp (disch := first | omega | (simp; done) | (simp; omega)) [hc, hi, h3', h4', hd1, hk4, hk5, hc1, hc2, har]
          exact ⟨_, J2, hsz, hJ2, rfl⟩

end Go.Vs.Tryz

/- Contexts and the terms' frame, walked. -/
namespace Go.Vs.Tryz
open Go Go.Vs
variable {A : Oracle}

def rigids : List Ty := [.mk 3 [] 0 0 [], .mk 3 [] 1 3 []]
def vars2 : List Ty := [.mk 1 [] 0 0 [], .mk 1 [] 1 0 []]
theorem rigids_leaf : ∀ x ∈ rigids, x.size = 1 := by
  intro x hx
  simp only [rigids, List.mem_cons, List.not_mem_nil, or_false] at hx
  rcases hx with rfl | rfl <;> exact Ty.size_leaf
theorem vars2_leaf : ∀ x ∈ vars2, x.size = 1 := by
  intro x hx
  simp only [vars2, List.mem_cons, List.not_mem_nil, or_false] at hx
  rcases hx with rfl | rfl <;> exact Ty.size_leaf
theorem rigids_rows : Ty.rows rigids = [(Ty.mk 3 [] 0 0 []).row, (Ty.mk 3 [] 1 3 []).row] := by simp [rigids, Ty.rows]

/-- A context: nil ahead of its first entry. -/
def ctxV (l : List EntD) : V := match l with
  | [] => .sc .nil
  | l => entsV l
theorem ctxV_cons (a : EntD) (l : List EntD) : ctxV (a :: l) = entsV (a :: l) := rfl
theorem ctxV_snoc (a : EntD) (l : List EntD) : ctxV (l ++ [a]) = entsV (l ++ [a]) := by cases l <;> rfl

theorem snocN {a : EntD} {l : List EntD} {nm : Str} {c : Int} {u : Ty} (h : ∀ x ∈ a :: l, x.name ∈ varNames) (hn : nm ∈ varNames) : ∀ x ∈ a :: (l ++ [⟨nm, c, u⟩]), x.name ∈ varNames := by
  intro x hx
  simp only [List.mem_cons, List.mem_append, List.not_mem_nil, or_false] at hx
  rcases hx with hx | hx | hx
  · exact h x (by simp [hx])
  · exact h x (by simp [hx])
  · exact hx ▸ hn
def CtxP (L : List Int) (r : V × List Obj) : Prop := ∃ (l : List EntD) (t : Ty) (J : Nat), l.length ≤ 3 ∧ (∀ x ∈ l, x.name ∈ varNames) ∧ J ≤ L.length ∧ r = (.tu [entsV l, tyV t], [tapeO L J])
def CtxI (L : List Int) (ds : List DataD) (n i : Nat) (s : St) : Prop := ∃ (l : List EntD) (J p : Nat), l.length = i ∧ (∀ x ∈ l, x.name ∈ varNames) ∧ J ≤ L.length ∧ (p = 0 ∨ p = 2) ∧
  s = ⟨[(0, .sc (.ptr 0 0)), (1, datasV ds), (5, .sc (.ptr 128 0)), (6, .sc (.arr 320 2)), (7, ctxV l), (8, intV n), (9, intV i)],
    [(0, some (tapeO L J)), (128, some (.box [zi, zs, zi, zi, .nil])), (320, some (.arr 5 (wr (Ty.rows rigids)) p))]⟩

end Go.Vs.Tryz

/- Variables as terms; the first of chapter 29. -/
namespace Go.Vs.Tryz
open Go Go.Vs
variable {A : Oracle}

def varExp (s : Str) : Exp := .mk 1 0 s 0 [] [] tz
end Go.Vs.Tryz

/- Comparing by the program: its closures over each other, walked. -/
namespace Go.Vs.Tryz
open Go Go.Vs
variable {A : Oracle}

@[simp] theorem range_5 : List.range 5 = [0, 1, 2, 3, 4] := rfl
abbrev rkM (ds : List DataD) (ctx : List EntD) := rankM ds (seenN ctx)

theorem zip_get {α β γ : Type} {f : α → β → γ} {l : List α} {m : List β} {i : Nat} {x : α} {y : β} (hx : l[i]? = some x) (hy : m[i]? = some y) : (List.zipWith f l m)[i]? = some (f x y) := by
  rw [List.getElem?_zipWith, hx, hy]

theorem zeros_succ {l : List Int} {i : Nat} (h : ∀ y ∈ l.take i, y = 0) (hx : l[i]? = some 0) : ∀ y ∈ l.take (i + 1), y = 0 := by
  intro y hy
  rw [take_next hx] at hy
  rcases List.mem_append.1 hy with hy | hy
  · exact h y hy
  · simpa using hy

end Go.Vs.Tryz
