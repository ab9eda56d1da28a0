/- The value semantics, 18: a call does what the function owes. -/
import Derived.Test.YtogldkeabdgjgaaVs17
namespace Go.Vs
open Go

section
variable {P : Program} {C : Ctx} {N : Nat} {w0 : World} {ω0 : Nat → Nat} {S : Fr} {E : Nat → Option V} {L : Nat → Option Obj} {a : Act} {w : World} {ω : Nat → Nat} {β : Nat → Option Nat}
variable {o : Oper} {v : V}

theorem indexIn_none : ∀ {l : List Nat} {k : Nat}, k ∉ l → indexIn l k = none
  | [], _, _ => rfl
  | j :: r, k, h => by
    simp only [List.mem_cons, not_or] at h
    have hb : (j == k) = false := by simp; exact fun e => h.1 e.symm
    simp [indexIn, hb, indexIn_none h.2]

theorem indexIn_some : ∀ {l : List Nat} {k : Nat}, k ∈ l → ∃ i, indexIn l k = some i
  | [], _, h => by simp at h
  | j :: r, k, h => by
    simp only [indexIn]
    cases hb : (j == k) with
    | true => exact ⟨0, by simp⟩
    | false =>
      simp only [List.mem_cons] at h
      have hne : j ≠ k := by simpa using hb
      obtain ⟨i, hi⟩ := indexIn_some (h.resolve_left (fun e => hne e.symm))
      exact ⟨i + 1, by simp [hi]⟩

theorem indexIn_at {l : List Nat} (hn : l.Nodup) {i k : Nat} (h : l[i]? = some k) : indexIn l k = some i := by
  obtain ⟨j, hj⟩ := indexIn_some (List.mem_of_getElem? h)
  have := nodup_inj hn (indexIn_get hj) h
  rw [hj, this]

theorem newIds_spec (oid : Nat) : ∀ (n i : Nat), (newIds oid i n).length = n ∧ (∀ k ∈ newIds oid i n, oid + i ≤ k) ∧ (newIds oid i n).Nodup
  | 0, i => by simp [newIds]
  | n + 1, i => by
    obtain ⟨h1, h2, h3⟩ := newIds_spec oid n (i + 1)
    simp only [newIds, List.length_cons, h1, List.nodup_cons, List.mem_cons]
    refine ⟨trivial, fun k hk => ?_, fun hk => ?_, h3⟩
    · rcases hk with rfl | hk
      · exact Nat.le_refl _
      · have := h2 k hk; omega
    · have := h2 _ hk; omega

theorem flat_rd {ω' : Nat → Nat} {f : List W → Option (List Cell)} : ∀ {rows : List (List W)} {css : List (List Cell)} {vs : List Value}, listM f rows = some css → (∀ r ∈ rows, ∀ (us : List Value) (cs : List Cell), RWlist w ω β L r us → f r = some cs → RDlist w ω' cs us) →
    RWlist w ω β L rows.flatten vs → RDlist w ω' css.flatten vs
  | [], css, vs, h, _, hr => by
    simp [listM] at h; subst h
    cases vs with
    | nil => simp [RDlist]
    | cons _ _ => simp [RWlist] at hr
  | r :: rs, css, vs, h, hg, hr => by
    simp only [listM] at h
    cases hx : f r with
    | none => simp [hx] at h
    | some c =>
      simp only [hx] at h
      cases hl : listM f rs with
      | none => simp [hl] at h
      | some cs' =>
        simp only [hl, Option.some.injEq] at h
        subst h
        have h1 := hr.take r.length
        have h2 := hr.drop r.length
        simp only [List.flatten_cons, List.take_left'] at h1
        simp only [List.flatten_cons, List.drop_left'] at h2
        have h3 := hg r (by simp) _ c h1 hx
        have h4 := flat_rd hl (fun q hq => hg q (by simp [hq])) h2
        have h5 := RWlist.append (RDlist.to (β := β) (L := L) h3) (RDlist.to h4)
        rw [← List.map_append, List.take_append_drop] at h5
        exact RDlist.of h5

theorem flatW_ok {x : W} {vv : Value} (hf : flatW x = true) (h : RW w ω β L x vv) (w' : World) (ω' : Nat → Nat) (β' : Nat → Option Nat) (L' : Nat → Option Obj) : RW w' ω' β' L' x vv := by
  unfold flatW at hf
  split at hf
  · simpa only [RW, RD] using h
  · simpa only [RW, RD] using h
  · simpa only [RW, RD] using h
  · cases hf

theorem flatWs_ok {w' : World} {ω' : Nat → Nat} {β' : Nat → Option Nat} {L' : Nat → Option Obj} : ∀ {xs : List W} {vs : List Value}, xs.all flatW = true → RWlist w ω β L xs vs → RWlist w' ω' β' L' xs vs
  | [], [], _, _ => by simp [RWlist]
  | [], _ :: _, _, h => by simp [RWlist] at h
  | _ :: _, [], _, h => by simp [RWlist] at h
  | x :: xs, v :: vs, hf, h => by
    simp only [List.all_cons, Bool.and_eq_true] at hf
    simp only [RWlist] at h ⊢
    exact ⟨flatW_ok hf.1 h.1 _ _ _ _, flatWs_ok hf.2 h.2⟩

theorem flatV_ok {x : V} {vv : Value} (hf : flatV x = true) (h : RV w ω β L x vv) (w' : World) (ω' : Nat → Nat) (β' : Nat → Option Nat) (L' : Nat → Option Obj) : RV w' ω' β' L' x vv := by
  cases x with
  | sc x => exact flatW_ok hf h _ _ _ _
  | ag cs => obtain ⟨a, h1, h2⟩ := h; exact ⟨a, h1, flatWs_ok hf h2⟩
  | tu l =>
    obtain ⟨a, h1, h2⟩ := h
    refine ⟨a, h1, ?_⟩
    simp only [flatV] at hf
    generalize a.toList = vs at h2
    clear h1
    induction l generalizing vs with
    | nil => cases vs with
      | nil => trivial
      | cons _ _ => exact h2.elim
    | cons x l ih => cases vs with
      | nil => exact h2.elim
      | cons v vs =>
        simp only [List.all_cons, Bool.and_eq_true] at hf
        refine ⟨?_, ih hf.2 vs h2.2⟩
        have h3 := h2.1
        have h4 := hf.1
        cases x with
        | sc x => exact flatW_ok h4 h3 _ _ _ _
        | ag cs => obtain ⟨a, h1, h2⟩ := h3; exact ⟨a, h1, flatWs_ok h4 h2⟩
        | tu l => exact h3.elim

theorem caps_c_ok : ∀ {ones : List Bool} {caps : List (List Cell)} {cs : List Value}, RDcaps w ω ones caps cs →
    ArgsOk w ω β L ((ones.zip caps).map fun (o, cs) => (false, match o, cs with | true, [x] => V.sc (.c x) | _, cs => V.ag (cs.map W.c))) cs
  | [], [], [], _ => trivial
  | [], [], _ :: _, h => by simp [RDcaps] at h
  | [], _ :: _, _, h => by simp [RDcaps] at h
  | _ :: _, [], _, h => by simp [RDcaps] at h
  | _ :: _, _ :: _, [], h => by simp [RDcaps] at h
  | o :: os, r :: rs, v :: vs, h => by
    simp only [RDcaps] at h
    obtain ⟨⟨xs, h1, h2⟩, h3⟩ := h
    simp only [List.zip_cons_cons, List.map_cons]
    refine ⟨?_, caps_c_ok h3⟩
    cases o with
    | true =>
      simp only [packs] at h2
      subst h2
      have hl := h1.length
      match r, h1, hl with
      | [c], h1, _ =>
        simp only [RDlist] at h1
        simp only [RV, RV1, RW]
        exact h1.1
    | false =>
      simp only [packs] at h2
      subst h2
      cases r with
      | nil => exact ⟨_, rfl, RDlist.to h1⟩
      | cons c r => exact ⟨_, rfl, RDlist.to h1⟩

theorem caps_w_ok : ∀ {ones : List Bool} {caps : List (List W)} {cs : List Value}, RWcaps w ω β L ones caps cs →
    ArgsOk w ω β L ((ones.zip caps).map fun (o, cs) => (true, match o, cs with | true, [w] => V.sc w | _, cs => V.ag cs)) cs
  | [], [], [], _ => trivial
  | [], [], _ :: _, h => by simp [RWcaps] at h
  | [], _ :: _, _, h => by simp [RWcaps] at h
  | _ :: _, [], _, h => by simp [RWcaps] at h
  | _ :: _, _ :: _, [], h => by simp [RWcaps] at h
  | o :: os, r :: rs, v :: vs, h => by
    simp only [RWcaps] at h
    obtain ⟨⟨xs, h1, h2⟩, h3⟩ := h
    simp only [List.zip_cons_cons, List.map_cons]
    refine ⟨?_, caps_w_ok h3⟩
    cases o with
    | true =>
      simp only [packs] at h2
      subst h2
      have hl := h1.length
      match r, h1, hl with
      | [c], h1, _ =>
        simp only [RWlist] at h1
        simp only [RV, RV1]
        exact h1.1
    | false =>
      simp only [packs] at h2
      subst h2
      cases r with
      | nil => exact ⟨_, rfl, h1⟩
      | cons c r => exact ⟨_, rfl, h1⟩

theorem calleeOf_ok {f : V} {fv : Value} {g : FuncId} {caps : List (Bool × V)} (hf : RV w ω β L f fv) (h : calleeOf f = some (g, caps)) : ∃ cs : Array Value, fv = .func (.func g) #[] cs ∧ ArgsOk w ω β L caps cs.toList := by
  unfold calleeOf at h
  split at h
  · simp only [Option.some.injEq, Prod.mk.injEq] at h
    obtain ⟨rfl, rfl⟩ := h
    simp only [RV, RV1, RW, RD] at hf
    obtain ⟨cs, h1, h2⟩ := hf
    exact ⟨cs, h1, caps_c_ok h2⟩
  · simp only [Option.some.injEq, Prod.mk.injEq] at h
    obtain ⟨rfl, rfl⟩ := h
    simp only [RV, RV1, RW] at hf
    obtain ⟨cs, h1, h2⟩ := hf
    exact ⟨cs, h1, caps_w_ok h2⟩
  · cases h

/-- Behind a call: what was handed over by reference, what is new, what is published. -/
theorem after_call (r : Rel C.gl N w0 ω0 S E L a w ω β) {ids fresh ds : List Nat} {os os' : List Obj} {ρ : Nat → Option Nat} (hρ : ρ = indexIn ids) (hnd : ids.Nodup) (hos : listM L ids = some os)
    {ω1 : Nat → Nat} (g1 : Grows w ω w ω1) (p1 : ∀ k ∈ ds, ∀ s rows p b, L k = some (.arr s rows p) → β k = some b → ω1 b = rows.length * s) (p2 : ∀ b, (∀ k ∈ ds, ∀ s rows p, L k = some (.arr s rows p) → β k ≠ some b) → ω1 b = ω b)
    (hfr : fresh.Nodup) (hfl : ids.length + fresh.length = os'.length) (hfn : ∀ k ∈ fresh, L k = none)
    {w' : World} {ω' : Nat → Nat} {β' : Nat → Option Nat}
    (hobj : ∀ k o, Lof os' k = some o → ObjOk w' ω' β' (Lof os') k o)
    (hinj : ∀ j k b, Lof os' j ≠ none → Lof os' k ≠ none → β' j = some b → β' k = some b → j = k)
    (keeps : Keeps w ω1 (fun b => ∃ k, Lof (os.map (Obj.ren ρ)) k ≠ none ∧ (ids[k]?).bind β = some b) w' ω')
    (mine : ∀ k b, Lof os' k ≠ none → β' k = some b → (∃ j, Lof (os.map (Obj.ren ρ)) j ≠ none ∧ (ids[j]?).bind β = some b) ∨ w.heap.size ≤ b)
    (tr : ∀ k, Tr w (fun i => (ids[i]?).bind β) w' β' (Lof (os.map (Obj.ren ρ))) (Lof os') k)
    {p : Upd} (hp : pubUpd L ds ds = some p) :
    ∃ β2, Rel C.gl N w0 ω0 S E (updL L (p ++ updOf (ids ++ fresh) (os'.map (Obj.ren fun i => (ids ++ fresh)[i]?)))) a w' ω' β2 ∧
      Ren (fun i => (ids ++ fresh)[i]?) β' (Lof os') β2 (updL L (p ++ updOf (ids ++ fresh) (os'.map (Obj.ren fun i => (ids ++ fresh)[i]?)))) := by
  subst hρ
  obtain ⟨hol, hog⟩ := listM_some hos
  have hidL : ∀ k ∈ ids, ∃ (i : Nat) (o : Obj), ids[i]? = some k ∧ os[i]? = some o ∧ L k = some o := by
    intro k hk
    obtain ⟨i, hi⟩ := List.getElem?_of_mem hk
    obtain ⟨o, h1, h2⟩ := hog i k hi
    exact ⟨i, o, hi, h1, h2⟩
  have hall : (ids ++ fresh).Nodup := by
    rw [List.nodup_append]
    refine ⟨hnd, hfr, fun x hx y hy e => ?_⟩
    subst e
    obtain ⟨_, _, _, _, h⟩ := hidL x hx
    rw [hfn x hy] at h
    cases h
  have hlen : (ids ++ fresh).length = os'.length := by simp [hfl]
  generalize hσ : (fun (i : Nat) => (ids ++ fresh)[i]?) = σ
  have hσi : ∀ (i : Nat), σ i = (ids ++ fresh)[i]? := fun i => by rw [← hσ]
  obtain ⟨q1, q2⟩ := pubUpd_ok (M := L) hp
  obtain ⟨u1, u2⟩ := updOf_ok (ids := ids ++ fresh) (os := os'.map (Obj.ren σ)) (M := updL L p) hall (by simp; omega)
  generalize hL2 : updL L (p ++ updOf (ids ++ fresh) (os'.map (Obj.ren σ))) = L2
  have hL2' : L2 = updL (updL L p) (updOf (ids ++ fresh) (os'.map (Obj.ren σ))) := by rw [← hL2, updL_append]
  have f1 : ∀ (i k : Nat), (ids ++ fresh)[i]? = some k → ∃ o', os'[i]? = some o' ∧ L2 k = some (o'.ren σ) := by
    intro i k hi
    have hlt : i < os'.length := by rw [← hlen]; exact (List.getElem?_eq_some_iff.1 hi).1
    refine ⟨os'[i], by simp [hlt], ?_⟩
    rw [hL2']
    exact u2 i k _ hi (by simp [hlt])
  have f2 : ∀ k, k ∉ ids ++ fresh → k ∈ ds → ∃ s rows q cs, L k = some (.arr s rows q) ∧ listM (listM (W.toC L deep)) rows = some cs ∧ L2 k = some (.arr s (cs.map (·.map W.c)) rows.length) ∧ ∀ r ∈ rows, ∀ x ∈ r, ∀ j ∈ W.ids L deep x, j ∈ ds := by
    intro k hk hd
    obtain ⟨s, rows, q, cs, h1, h2, h3, h4⟩ := q2 k hd
    exact ⟨s, rows, q, cs, h1, h2, by rw [hL2', u1 k hk, h3], h4⟩
  have f3 : ∀ k, k ∉ ids ++ fresh → k ∉ ds → L2 k = L k := by
    intro k hk hd
    rw [hL2', u1 k hk, q1 k hd]
  let β2 : Nat → Option Nat := fun k => match indexIn (ids ++ fresh) k with | some i => β' i | none => β k
  have b1 : ∀ (i k : Nat), (ids ++ fresh)[i]? = some k → β2 k = β' i := by
    intro i k hi
    simp only [β2, indexIn_at hall hi]
  have b2 : ∀ k, k ∉ ids ++ fresh → β2 k = β k := by
    intro k hk
    simp only [β2, indexIn_none hk]
  have hren : Ren σ β' (Lof os') β2 L2 := by
    intro i k o' hi ho
    rw [hσi] at hi
    obtain ⟨o'', h1, h2⟩ := f1 i k hi
    simp only [Lof] at ho
    rw [h1] at ho
    cases ho
    exact ⟨h2, b1 i k hi⟩
  have hlo : ∀ (i k : Nat) (o : Obj), ids[i]? = some k → os[i]? = some o → Lof (os.map (Obj.ren (indexIn ids))) i = some (o.ren (indexIn ids)) := by
    intro i k o _ ho
    simp [Lof, ho]
  have hSc : ∀ b, (∃ k, Lof (os.map (Obj.ren (indexIn ids))) k ≠ none ∧ (ids[k]?).bind β = some b) → ∃ k, k ∈ ids ∧ L k ≠ none ∧ β k = some b := by
    rintro b ⟨i, hi, hb⟩
    cases hk : ids[i]? with
    | none => simp [hk] at hb
    | some k =>
      simp only [hk, Option.bind_some] at hb
      obtain ⟨o, _, h2⟩ := hog i k hk
      exact ⟨k, List.mem_of_getElem? hk, by simp [h2], hb⟩
  have idx : ∀ k, k ∈ ids → ∃ (i : Nat), (ids ++ fresh)[i]? = some k ∧ ids[i]? = some k := by
    intro k hk
    obtain ⟨i, hi⟩ := List.getElem?_of_mem hk
    have hlt : i < ids.length := (List.getElem?_eq_some_iff.1 hi).1
    exact ⟨i, by rw [List.getElem?_append_left hlt]; exact hi, hi⟩
  -- blocks of what is published alone stay
  have dsblk : ∀ k b, k ∉ ids ++ fresh → k ∈ ds → L k ≠ none → β k = some b → w'.heap[b]? = w.heap[b]? ∧ ω' b = ω1 b := by
    intro k b hk hd hLk hb
    refine keeps.same b (r.blt hLk hb) fun hc => ?_
    obtain ⟨j, hj, hLj, hbj⟩ := hSc b hc
    have := r.inj j k b hLj hLk hbj hb
    subst this
    exact hk (by simp [hj])
  refine ⟨β2, (r.step (fun k => k ∈ ids ++ fresh ∨ k ∈ ds) (g1.trans keeps.grows) keeps.size keeps.os keeps.tape keeps.output ?_ ?_ ?_ ?_ ?_ ?_).1, hren⟩
  · intro b hb hC
    have h1 := keeps.same b hb fun hc => by
      obtain ⟨j, hj, hLj, hbj⟩ := hSc b hc
      exact hC j (.inl (by simp [hj])) hLj hbj
    refine ⟨h1.1, h1.2.trans (p2 b fun k hk s rows q hL hbk => ?_)⟩
    exact hC k (.inr hk) (by simp [hL]) hbk
  · intro k hk
    simp only [not_or] at hk
    exact ⟨f3 k hk.1 hk.2, fun _ => b2 k hk.1⟩
  · intro k hk
    by_cases hka : k ∈ ids ++ fresh
    · by_cases hki : k ∈ ids
      · obtain ⟨i, hi1, hi2⟩ := idx k hki
        obtain ⟨o, h1, h2⟩ := hog i k hi2
        have ht := tr i
        unfold Tr at ht ⊢
        rw [hlo i k o hi2 h1] at ht
        rw [h2]
        have hbi : (ids[i]?).bind β = β k := by rw [hi2]; rfl
        cases o with
        | box cs =>
          obtain ⟨⟨cs', h3, h4⟩, h5⟩ := ht
          obtain ⟨o', h6, h7⟩ := f1 i k hi1
          simp only [Lof] at h3
          rw [h6] at h3
          cases h3
          exact ⟨⟨_, h7, by simpa using h4⟩, (b1 i k hi1).trans (h5.trans hbi)⟩
        | arr s rows q =>
          obtain ⟨rows', q', h3, h4, h5⟩ := ht
          obtain ⟨o', h6, h7⟩ := f1 i k hi1
          simp only [Lof] at h3
          rw [h6] at h3
          cases h3
          refine ⟨_, q', h7, by simpa using h4, fun e => ?_⟩
          obtain ⟨h8, h9⟩ := h5 (by simpa using e)
          refine ⟨(b1 i k hi1).trans (h8.trans hbi), fun b cur t hb hc => h9 b cur t (hbi.trans hb) hc⟩
      · have hkf : k ∈ fresh := by
          rw [List.mem_append] at hka
          exact hka.resolve_left hki
        unfold Tr
        rw [hfn k hkf]
        trivial
    · have hkd := hk.resolve_left hka
      obtain ⟨s, rows, q, cs, h1, h2, h3, _⟩ := f2 k hka hkd
      unfold Tr
      rw [h1]
      have hl := listM_len h2
      refine ⟨_, _, h3, by simp [hl], fun _ => ⟨b2 k hka, fun b cur t hb hc => ?_⟩⟩
      exact ⟨cur, (dsblk k b hka hkd (by simp [h1]) hb).1.trans hc, rfl⟩
  · intro trall k hk o2 ho2
    by_cases hka : k ∈ ids ++ fresh
    · obtain ⟨i, hi⟩ := List.getElem?_of_mem hka
      obtain ⟨o', h6, h7⟩ := f1 i k hi
      rw [h7] at ho2
      cases ho2
      exact (hobj i o' h6).rename hren (b1 i k hi)
    · have hkd := hk.resolve_left hka
      obtain ⟨s, rows, q, cs, h1, h2, h3, h4⟩ := f2 k hka hkd
      rw [h3] at ho2
      cases ho2
      have hl := listM_len h2
      have hrow : ∀ r ∈ cs, r.length = s := by
        intro x hx
        obtain ⟨i, hi⟩ := List.getElem?_of_mem hx
        have hlt : i < rows.length := by rw [← hl]; exact (List.getElem?_eq_some_iff.1 hi).1
        obtain ⟨y, h5, h6⟩ := (listM_some h2).2 i rows[i] (by simp [hlt])
        rw [hi] at h5
        cases h5
        rw [listM_len h6]
        exact (r.obj k _ h1).2.1 _ (List.getElem_mem hlt)
      obtain ⟨e1, e2, e3, e4⟩ := r.obj k _ h1
      refine ⟨e1, ?_, by simp [hl], ?_⟩
      · intro x hx
        obtain ⟨y, hy, rfl⟩ := List.mem_map.1 hx
        simpa using hrow y hy
      · rcases e4 with ⟨b, cap, cur, t, k2, k3, k4, k5, k6, k7, k8⟩ | ⟨k2, k3⟩
        · obtain ⟨d1, d2⟩ := dsblk k b hka hkd (by simp [h1]) k2
          refine .inl ⟨b, cap, cur, t, (b2 k hka).trans k2, d1.trans k3, k4, by simpa [hl] using k5, k6, ?_, ?_⟩
          · have hrd : RDlist w ω1 cs.flatten (cur.toList.take (rows.length * s)) := by
              refine flat_rd (w := w) (ω := ω) (β := β) (L := L) h2 (fun x hx us ys hru hry => ?_) k7
              refine listM_toC_rd r.obj g1 hru hry ?_
              intro j hj
              rw [List.mem_flatMap] at hj
              obtain ⟨y, hy, hj⟩ := hj
              have hjd := h4 x hx y hy j hj
              intro s' rows' p' b' hL' hb'
              exact Nat.le_of_eq (p1 j hjd s' rows' p' b' hL' hb').symm
            have h5 := RDlist.to (β := β2) (L := L2) (RDlist.grow keeps.grows cs.flatten hrd)
            rw [List.map_flatten] at h5
            simpa [hl] using h5
          · rw [d2, p1 k hkd s rows q b h1 k2]
        · refine .inr ⟨(b2 k hka).trans k2, ?_⟩
          subst k3
          have : cs = [] := List.eq_nil_of_length_eq_zero (by simpa using hl)
          simp [this]
  · intro k hk b hLk hb
    by_cases hka : k ∈ ids ++ fresh
    · obtain ⟨i, hi⟩ := List.getElem?_of_mem hka
      obtain ⟨o', h6, h7⟩ := f1 i k hi
      rw [b1 i k hi] at hb
      rcases mine i b (by simp [Lof, h6]) hb with hc | hc
      · obtain ⟨j, hj, hLj, hbj⟩ := hSc b hc
        exact .inl ⟨j, .inl (by simp [hj]), hLj, hbj⟩
      · exact .inr hc
    · have hkd := hk.resolve_left hka
      obtain ⟨s, rows, q, cs, h1, _⟩ := f2 k hka hkd
      rw [b2 k hka] at hb
      exact .inl ⟨k, hk, by simp [h1], hb⟩
  · intro j k b hj hk hLj hLk hbj hbk
    by_cases hja : j ∈ ids ++ fresh <;> by_cases hka : k ∈ ids ++ fresh
    · obtain ⟨i1, hi1⟩ := List.getElem?_of_mem hja
      obtain ⟨i2, hi2⟩ := List.getElem?_of_mem hka
      obtain ⟨o1, h1, _⟩ := f1 i1 j hi1
      obtain ⟨o2, h2, _⟩ := f1 i2 k hi2
      rw [b1 i1 j hi1] at hbj
      rw [b1 i2 k hi2] at hbk
      have := hinj i1 i2 b (by simp [Lof, h1]) (by simp [Lof, h2]) hbj hbk
      subst this
      rw [hi1] at hi2
      exact Option.some.inj hi2
    · have hkd := hk.resolve_left hka
      obtain ⟨s, rows, q, cs, hL1, _⟩ := f2 k hka hkd
      have hLk' : L k ≠ none := by simp [hL1]
      obtain ⟨i1, hi1⟩ := List.getElem?_of_mem hja
      obtain ⟨o1, h1, _⟩ := f1 i1 j hi1
      rw [b1 i1 j hi1] at hbj
      rw [b2 k hka] at hbk
      rcases mine i1 b (by simp [Lof, h1]) hbj with hc | hc
      · obtain ⟨j', hj', hLj', hbj'⟩ := hSc b hc
        have := r.inj j' k b hLj' hLk' hbj' hbk
        subst this
        exact absurd (by simp [hj']) hka
      · exact absurd (r.blt hLk' hbk) (by omega)
    · have hjd := hj.resolve_left hja
      obtain ⟨s, rows, q, cs, hL1, _⟩ := f2 j hja hjd
      have hLj' : L j ≠ none := by simp [hL1]
      obtain ⟨i1, hi1⟩ := List.getElem?_of_mem hka
      obtain ⟨o1, h1, _⟩ := f1 i1 k hi1
      rw [b1 i1 k hi1] at hbk
      rw [b2 j hja] at hbj
      rcases mine i1 b (by simp [Lof, h1]) hbk with hc | hc
      · obtain ⟨j', hj', hLj'', hbj'⟩ := hSc b hc
        have := r.inj j' j b hLj'' hLj' hbj' hbj
        subst this
        exact absurd (by simp [hj']) hja
      · exact absurd (r.blt hLj' hbj) (by omega)
    · have hjd := hj.resolve_left hja
      have hkd := hk.resolve_left hka
      obtain ⟨s, rows, q, cs, hL1, _⟩ := f2 j hja hjd
      obtain ⟨s', rows', q', cs', hL1', _⟩ := f2 k hka hkd
      rw [b2 j hja] at hbj
      rw [b2 k hka] at hbk
      exact r.inj j k b (by simp [hL1]) (by simp [hL1']) hbj hbk

end
end Go.Vs
