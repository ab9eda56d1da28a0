/- The value semantics, 27: the evaluator of functions is sound. -/
import Derived.Test.YtogldkeabdgjgaaVs26
namespace Go.Vs
open Go

section
variable {P : Program} {C : Ctx} {N : Nat} {w0 : World} {ω0 : Nat → Nat} {S : Fr} {E : Nat → Option V} {L : Nat → Option Obj} {a : Act} {w : World} {ω : Nat → Nat} {β : Nat → Option Nat}

theorem RVs_nil {w' : World} {ω' : Nat → Nat} {β' : Nat → Option Nat} {L' : Nat → Option Obj} {v : Value} (h : RV w ω β L (packR []) v) : RV w' ω' β' L' (packR []) v := by
  obtain ⟨arr, h1, h2⟩ := h
  refine ⟨arr, h1, ?_⟩
  generalize arr.toList = l at h2
  cases l with
  | nil => trivial
  | cons _ _ => exact h2.elim

theorem packR_ren {ρ : Nat → Option Nat} {vs : List V} {v : Value} (hn : vs.all notTu = true) (β' : Nat → Option Nat) (L' : Nat → Option Obj) (hρ : Ren ρ β L β' L') (h : RV w ω β L (packR vs) v) : RV w ω β' L' (packR (vs.map (V.ren ρ))) v := by
  match vs, hn, h with
  | [], _, h => exact RVs_nil h
  | [x], _, h => exact RV.rename (x := x) hρ h
  | x :: y :: r, _, h =>
    obtain ⟨arr, h1, h2⟩ := h
    exact ⟨arr, h1, RVs.rename hρ h2⟩

/-- What is handed back is what is owed. -/
theorem export1_ok {objs : List Obj} {β0 : Nat → Option Nat} (r : Rel C.gl N w0 ω0 S E L a w ω β) (hS : S.S = fun b => ∃ k, Lof objs k ≠ none ∧ β0 k = some b)
    (hJ : ∀ k, k < objs.length → Tr w0 β0 w β (Lof objs) L k)
    {ω1 : Nat → Nat} (g1 : Grows w ω w ω1) {ds : List Nat} (hds : ∀ k ∈ ds, 64 ≤ k) (p2 : ∀ b, (∀ k ∈ ds, ∀ s rows p, L k = some (.arr s rows p) → β k ≠ some b) → ω1 b = ω b)
    {rest : List Nat} (hrest : rest.Nodup) (hge : ∀ k ∈ rest, 64 ≤ k) (hlen : objs.length ≤ 64) (hdisj : ∀ k ∈ ds, k ∉ rest)
    {vs : List V} (hn : vs.all notTu = true) {vv : Value} (hv : RV w ω1 β L (packR vs) vv) {rv : V} {objs' : List Obj} (h : export1 L (List.range objs.length ++ rest) vs = some (rv, objs')) :
    ∃ β', RV w ω1 β' (Lof objs') rv vv ∧ (∀ k o, Lof objs' k = some o → ObjOk w ω1 β' (Lof objs') k o) ∧
      (∀ j k b, Lof objs' j ≠ none → Lof objs' k ≠ none → β' j = some b → β' k = some b → j = k) ∧
      Keeps w0 ω0 (fun b => ∃ k, Lof objs k ≠ none ∧ β0 k = some b) w ω1 ∧
      (∀ k b, Lof objs' k ≠ none → β' k = some b → (∃ j, Lof objs j ≠ none ∧ β0 j = some b) ∨ w0.heap.size ≤ b) ∧
      (∀ k, Tr w0 β0 w β' (Lof objs) (Lof objs') k) := by
  unfold export1 at h
  cases hl : listM L (List.range objs.length ++ rest) with
  | none => rw [hl] at h; cases h
  | some os =>
    rw [hl] at h
    simp only [Option.some.injEq, Prod.mk.injEq] at h
    obtain ⟨rfl, rfl⟩ := h
    generalize hks : List.range objs.length ++ rest = ks at hl
    have hnd : ks.Nodup := by
      rw [← hks, List.nodup_append]
      refine ⟨List.nodup_range, hrest, fun x hx y hy e => ?_⟩
      have := List.mem_range.1 hx
      have := hge y hy
      omega
    obtain ⟨hlen2, hget⟩ := listM_some hl
    have hat : ∀ (k : Nat) (o' : Obj), Lof (os.map (Obj.ren (indexIn ks))) k = some o' → ∃ i o, ks[k]? = some i ∧ L i = some o ∧ os[k]? = some o ∧ o' = o.ren (indexIn ks) := by
      intro k o' hk
      simp only [Lof, List.getElem?_map] at hk
      obtain ⟨o, h1, rfl⟩ := Option.map_eq_some_iff.1 hk
      have hlt := (List.getElem?_eq_some_iff.1 h1).1
      have hi : ks[k]? = some ks[k] := List.getElem?_eq_getElem (by omega)
      obtain ⟨y, hy1, hy2⟩ := hget k _ hi
      rw [h1] at hy1
      cases hy1
      exact ⟨_, o, hi, hy2, h1, rfl⟩
    have hren : Ren (indexIn ks) β L (fun i => (ks[i]?).bind β) (Lof (os.map (Obj.ren (indexIn ks)))) := by
      intro k j o h1 h2
      have h3 := indexIn_get h1
      obtain ⟨y, hy1, hy2⟩ := hget j k h3
      rw [h2] at hy2
      cases hy2
      exact ⟨by simp [Lof, hy1], by simp [h3]⟩
    have hω : ∀ k b, k ∈ ks → L k ≠ none → β k = some b → ω1 b = ω b := by
      intro k b hk hLk hb
      refine p2 b fun j hj s rows p hLj hbj => ?_
      have := r.inj j k b (by simp [hLj]) hLk hbj hb
      subst this
      rw [← hks, List.mem_append] at hk
      rcases hk with hk | hk
      · have := List.mem_range.1 hk
        have := hds j hj
        omega
      · exact hdisj j hj hk
    have hobj1 : ∀ k o, k ∈ ks → L k = some o → ObjOk w ω1 β L k o := by
      intro k o hk ho
      refine (r.obj k o ho).step g1 (fun k => Tr.refl k) rfl fun b hb => ⟨rfl, hω k b hk (by simp [ho]) hb⟩
    have hmem : ∀ {k i : Nat}, ks[k]? = some i → i ∈ ks := fun h => List.mem_of_getElem? h
    refine ⟨fun i => (ks[i]?).bind β, packR_ren hn _ _ hren hv, ?_, ?_, ?_, ?_, ?_⟩
    · intro k o' hk
      obtain ⟨i, o, h1, h2, _, rfl⟩ := hat k o' hk
      exact (hobj1 i o (hmem h1) h2).rename hren (by simp [h1])
    · intro j k b hj hk hbj hbk
      obtain ⟨oj, hj'⟩ := Option.ne_none_iff_exists'.1 hj
      obtain ⟨ok, hk'⟩ := Option.ne_none_iff_exists'.1 hk
      obtain ⟨ij, oj', h1, h2, _⟩ := hat j oj hj'
      obtain ⟨ik, ok', h3, h4, _⟩ := hat k ok hk'
      simp only [h1, h3, Option.bind_some] at hbj hbk
      have := r.inj ij ik b (by simp [h2]) (by simp [h4]) hbj hbk
      subst this
      exact nodup_inj hnd h1 h3
    · have hk := r.keeps
      rw [hS] at hk
      refine hk.step g1 (Nat.le_refl _) (fun b hb hs => ⟨rfl, p2 b fun k hk' s rows p hL hbk => ?_⟩) rfl rfl rfl
      rcases r.mine k b (by simp [hL]) hbk with h1 | h1
      · rw [hS] at h1; exact hs h1
      · omega
    · intro k b hk hb
      obtain ⟨ok, hk'⟩ := Option.ne_none_iff_exists'.1 hk
      obtain ⟨i, o, h1, h2, _⟩ := hat k ok hk'
      simp only [h1, Option.bind_some] at hb
      have := r.mine i b (by simp [h2]) hb
      rw [hS] at this
      exact this
    · intro k
      by_cases hk : k < objs.length
      · refine (hJ k hk).trans ?_
        have hkk : ks[k]? = some k := by
          rw [← hks, List.getElem?_append_left (by simpa using hk)]
          simp [hk]
        obtain ⟨o, ho1, ho2⟩ := hget k k hkk
        unfold Tr
        rw [ho2]
        have hx : Lof (os.map (Obj.ren (indexIn ks))) k = some (o.ren (indexIn ks)) := by simp [Lof, ho1]
        cases o with
        | box cs => exact ⟨⟨_, hx, by simp⟩, by simp [hkk]⟩
        | arr s rows p => exact ⟨_, p, hx, by simp, fun _ => ⟨by simp [hkk], fun b cur t _ hc => ⟨cur, hc, rfl⟩⟩⟩
      · have : Lof objs k = none := by simp only [Lof]; exact List.getElem?_eq_none (by omega)
        unfold Tr
        rw [this]
        trivial

theorem packR_toD {ω1 : Nat → Nat} (hobj : ∀ k o, L k = some o → ObjOk w ω β L k o) (g : Grows w ω w ω1) {vs ds : List V} (hd : listM (V.toD L) vs = some ds) {vv : Value} (hv : RV w ω β L (packR vs) vv)
    (hs : Shows β L ω1 (vs.flatMap fun v => v.cells.flatMap (W.ids L deep))) : RV w ω1 β L (packR ds) vv ∧ ds.all notTu = true := by
  have nt : ∀ {x d : V}, x.toD L = some d → notTu d = true := by
    intro x d h
    cases x with
    | sc x => obtain ⟨_, _, rfl⟩ := Option.map_eq_some_iff.1 h; rfl
    | ag x => obtain ⟨_, _, rfl⟩ := Option.map_eq_some_iff.1 h; rfl
    | tu x => cases h
  have all : ∀ {vs ds : List V}, listM (V.toD L) vs = some ds → ds.all notTu = true := by
    intro vs ds h
    obtain ⟨h1, h2⟩ := listM_some h
    rw [List.all_eq_true]
    intro d hd
    obtain ⟨i, hi⟩ := List.mem_iff_getElem?.1 hd
    have hlt := (List.getElem?_eq_some_iff.1 hi).1
    obtain ⟨y, hy1, hy2⟩ := h2 i _ (List.getElem?_eq_getElem (by omega))
    rw [hi] at hy1
    cases hy1
    exact nt hy2
  have many : ∀ {vs ds : List V} {us : List Value}, listM (V.toD L) vs = some ds → RVs w ω β L vs us → Shows β L ω1 (vs.flatMap fun v => v.cells.flatMap (W.ids L deep)) → RVs w ω1 β L ds us := by
    intro vs
    induction vs with
    | nil =>
      intro ds us h hr _
      simp [listM] at h
      subst h
      cases us with
      | nil => trivial
      | cons _ _ => exact hr.elim
    | cons x vs ih =>
      intro ds us h hr hs
      cases us with
      | nil => exact hr.elim
      | cons u us =>
        simp only [listM] at h
        cases hx : x.toD L with
        | none => simp [hx] at h
        | some d =>
          simp only [hx] at h
          cases hl : listM (V.toD L) vs with
          | none => simp [hl] at h
          | some ds' =>
            simp only [hl, Option.some.injEq] at h
            subst h
            exact ⟨toD_ok hobj g (RV_of1 hr.1) hx (fun k hk => hs k (by simp only [List.flatMap_cons, List.mem_append]; exact .inl hk)) β L,
              ih hl hr.2 fun k hk => hs k (by simp only [List.flatMap_cons, List.mem_append]; exact .inr hk)⟩
  refine ⟨?_, all hd⟩
  match vs, hd, hv, hs with
  | [], hd, hv, _ => simp [listM] at hd; subst hd; exact RVs_nil hv
  | [x], hd, hv, hs =>
    simp only [listM] at hd
    cases hx : x.toD L with
    | none => simp [hx] at hd
    | some d =>
      simp only [hx, Option.some.injEq] at hd
      subst hd
      exact RV_of1 (toD_ok (x := x) hobj g hv hx (by simpa using hs) β L)
  | x :: y :: rr, hd, hv, hs =>
    obtain ⟨arr, h1, h2⟩ := hv
    have h3 := many hd h2 hs
    have hlen := (listM_some hd).1
    match ds, hlen, h3 with
    | d1 :: d2 :: dr, _, h3 => exact ⟨arr, h1, h3⟩

end
end Go.Vs
