/- The value semantics, 22: which objects an operation depends on. -/
import Derived.Test.YtogldkeabdgjgaaVs21
namespace Go.Vs
open Go

section
variable {C : Ctx} {E : Nat → Option V} {L L' : Nat → Option Obj}

theorem ownW_nil {oid : Nat} : ∀ (l : List W) (j : Nat), ownW oid [] j l = (l, [])
  | [], _ => rfl
  | x :: r, j => by
    simp only [ownW, ownW_nil r (j + 1)]
    cases x <;> rfl

theorem ownArgs_nil {oid : Nat} : ∀ (l : List (Bool × V)) (j : Nat), ownArgs oid [] j l = (l, [])
  | [], _ => rfl
  | (b, x) :: r, j => by
    simp only [ownArgs, ownArgs_nil r (j + 1)]
    split
    · rename_i h; simp [get?] at h
    · rfl

theorem rowsOf_L {x : V} (h : ∀ k ∈ x.direct, L k = L' k) : rowsOf L x = rowsOf L' x := by
  cases x with
  | sc x => cases x with
    | arr k n => simp only [rowsOf, h k (by simp [V.direct])]
    | vw k N lo n => simp only [rowsOf, h k (by simp [V.direct])]
    | c y => cases y <;> rfl
    | _ => rfl
  | _ => rfl

theorem lenV_L {x : V} (h : ∀ k ∈ x.direct, L k = L' k) : lenV L x = lenV L' x := by
  cases x with
  | sc x => cases x with
    | arr k n => simp only [lenV, h k (by simp [V.direct])]
    | vw k N lo n => simp only [lenV, h k (by simp [V.direct])]
    | c y => cases y <;> rfl
    | _ => rfl
  | _ => rfl

theorem elOk_L {k N i : Nat} (h : L k = L' k) : elOk L k N i = elOk L' k N i := by simp only [elOk, h]

theorem onBy_L {x : V} {n : Nat} (h : ∀ k ∈ x.direct, L k = L' k) : onBy L n x = onBy L' n x := by
  cases x with
  | sc x => cases x with
    | el k N i o => simp only [onBy, elOk_L (h k (by simp [V.direct]))]
    | c y => cases y <;> rfl
    | _ => rfl
  | _ => rfl

theorem slice1_L {s : Nat} {x : V} {lo hi m3 : Option V} (h : ∀ k ∈ x.direct, L k = L' k) : slice1 L s x lo hi m3 = slice1 L' s x lo hi m3 := by
  cases x with
  | sc x => cases x with
    | arr k n => simp only [slice1, h k (by simp [V.direct])]
    | vw k N lo n => simp only [slice1, h k (by simp [V.direct])]
    | c y => cases y <;> rfl
    | _ => rfl
  | _ => rfl

theorem append1_L {oid s bytes : Nat} {x y : V} (h0 : L oid = L' oid) (hx : ∀ k ∈ x.direct, L k = L' k) (hy : ∀ k ∈ y.direct, L k = L' k) : append1 L oid s bytes true x y = append1 L' oid s bytes true x y := by
  unfold append1
  rw [rowsOf_L hy]
  cases rowsOf L' y with
  | none => rfl
  | some ys =>
    dsimp only
    congr 1
    cases x with
    | sc x => cases x with
      | arr k n => simp only [hx k (by simp [V.direct])]
      | nil => simp only [h0]
      | full rows => simp only [h0]
      | _ => rfl
    | _ => rfl

theorem updOf_keys : ∀ {ids : List Nat} {os : List Obj}, ids.length = os.length → (updOf ids os).map (·.1) = ids
  | [], os, _ => by cases os <;> rfl
  | k :: ks, [], h => by simp at h
  | k :: ks, o :: os, h => by simp only [updOf, List.map_cons, updOf_keys (ids := ks) (os := os) (by simpa using h)]

theorem reach_nil (L : Nat → Option Obj) : reach L [] = [] := rfl

/-- A call that is handed nothing but data looks at no object. -/
theorem call1_quiet {call : Oracle} {oid : Nat} {x : Cell} {args : List (Bool × V)} (hargs : ∀ y ∈ args, y.2.refs = []) {v : V} {u : Upd} (h : call1 call L oid (.sc (.c x)) args = some (v, u)) (hL : ∀ k ∈ u.map (·.1), L k = L' k) :
    call1 call L' oid (.sc (.c x)) args = some (v, u) := by
  unfold call1 at h ⊢
  cases hc : calleeOf (.sc (.c x)) with
  | none => rw [hc] at h; cases h
  | some q =>
    obtain ⟨g, caps⟩ := q
    rw [hc] at h
    simp only at h ⊢
    have hcaps : ∀ y ∈ caps, y.2.refs = [] := by
      unfold calleeOf at hc
      split at hc
      · simp only [Option.some.injEq, Prod.mk.injEq] at hc
        obtain ⟨_, rfl⟩ := hc
        intro y hy
        obtain ⟨z, _, rfl⟩ := List.mem_map.1 hy
        obtain ⟨o, cs⟩ := z
        dsimp only
        split
        · simp [V.refs, V.cells, W.refs]
        · simp [V.refs, V.cells, List.flatMap_eq_nil_iff, W.refs]
      · rename_i e; cases e
      · cases hc
    have hall : ∀ y ∈ args ++ caps, y.2.refs = [] := by
      intro y hy
      rcases List.mem_append.1 hy with hy | hy
      · exact hargs y hy
      · exact hcaps y hy
    obtain ⟨h1, h2⟩ := argsOf_L (L := L) (L' := L') hall
    rw [← h1]
    cases hq : argsOf L (args ++ caps) with
    | none => rw [hq] at h; cases h
    | some q =>
      obtain ⟨vs, ds, rs⟩ := q
      rw [hq] at h
      obtain ⟨rfl, rfl⟩ := h2 _ _ _ hq
      simp only [reach_nil, listM] at h ⊢
      cases hcall : call g (vs.map (V.ren (indexIn []))) [] with
      | none => simp [hcall] at h
      | some q =>
        obtain ⟨rv, os'⟩ := q
        simp only [List.map_nil, hcall, List.all_nil, List.length_nil, BEq.rfl, Bool.and_self, cond_true, List.zip_nil_left, List.nil_append, Nat.sub_zero, Bool.and_true] at h ⊢
        cases hf : (newIds oid 0 os'.length).all (fun k => (L k).isNone) with
        | false => simp [hf] at h
        | true =>
          have hk : (updOf (newIds oid 0 os'.length) (os'.map (Obj.ren fun i => (newIds oid 0 os'.length)[i]?))).map (·.1) = newIds oid 0 os'.length := updOf_keys (by simp [(newIds_spec oid os'.length 0).1])
          rw [hf] at h
          have hu : u.map (·.1) = newIds oid 0 os'.length := by
            cases hb : Nat.ble 0 os'.length with
            | false => rw [hb] at h; simp at h
            | true =>
              rw [hb] at h
              simp only [Bool.and_true, cond_true, Option.some.injEq, Prod.mk.injEq] at h
              rw [← h.2, hk]
          have hf' : (newIds oid 0 os'.length).all (fun k => (L' k).isNone) = true := by
            rw [List.all_eq_true] at hf ⊢
            intro k hk'
            rw [← hL k (by rw [hu]; exact hk')]
            exact hf k hk'
          rw [hf']
          exact h

theorem exec1_L {o : VOper} (hown : o.own = []) {v : V} {u : Upd} (h : exec1 C E L o.oid o.op = some (v, u)) (ha : (recO C E o u).1 = false) (hL : ∀ k ∈ (recO C E o u).2, L k = L' k) : exec1 C E L' o.oid o.op = some (v, u) := by
  unfold recO at ha hL
  rw [hown] at ha hL
  simp only at ha hL
  cases hop : o.op <;> rw [hop] at h ha hL <;> simp only [plainOp, cond_true, cond_false, reduceCtorEq] at ha hL
  case load ag n x =>
    rw [← h]
    simp only [exec1]
    generalize x.val C E = y at hL
    cases y with
    | sc y => cases y with
      | ptr k f => simp only [hL k (by simp [V.direct])]
      | el k N i f => simp only [hL k (by simp [V.direct])]
      | c y => cases y <;> rfl
      | _ => rfl
    | _ => rfl
  case fld n x => rw [← h]; simp only [exec1, onBy_L hL]
  case nn x =>
    rw [← h]
    simp only [exec1]
    generalize x.val C E = y at hL
    cases y with
    | sc y => cases y with
      | el k N i f => simp only [elOk_L (hL k (by simp [V.direct]))]
      | c y => cases y <;> rfl
      | _ => rfl
    | _ => rfl
  case idxA s x i =>
    rw [← h]
    simp only [exec1]
    generalize x.val C E = y at hL
    cases y with
    | sc y => cases y with
      | arr k n => simp only [hL k (by simp [V.direct])]
      | vw k N lo n => simp only [hL k (by simp [V.direct])]
      | c y => cases y <;> rfl
      | _ => rfl
    | _ => rfl
  case idxAA s len x i => rw [← h]; simp only [exec1, onBy_L hL]
  case len str x => rw [← h]; simp only [exec1, lenV_L hL]
  case sl s x lo hi m3 => rw [← h]; simp only [exec1, slice1_L hL]
  case new cells own =>
    cases own with
    | cons _ _ => simp at ha
    | nil =>
      rw [← h]
      simp only [exec1, ownW_nil, List.all_nil, hL o.oid (by simp)]
  case box x => rw [← h]; simp only [exec1, hL o.oid (by simp)]
  case mkSl s xs => rw [← h]; simp only [exec1, hL o.oid (by simp)]
  case mkS s bytes zero n => rw [← h]; simp only [exec1, hL o.oid (by simp)]
  case app s bytes mk x y =>
    cases mk with
    | false => simp at ha
    | true =>
      rw [← h]
      simp only [exec1]
      simp only [List.cons_append, List.mem_cons, List.mem_append] at hL
      rw [append1_L (hL o.oid (.inl rfl)) (fun k hk => hL k (.inr (.inl hk))) (fun k hk => hL k (.inr (.inr hk)))]
  case call f args own =>
    cases own with
    | cons _ _ => simp at ha
    | nil =>
      simp only at ha hL
      simp only [exec1, ownArgs_nil, List.all_nil, cond_true, updL] at h ⊢
      cases hf : f.val C E with
      | sc y => cases y with
        | c y =>
          rw [hf] at h ha hL
          simp only at ha hL
          cases hq : (args.all fun x => (x.2.val C E).refs.isEmpty) with
          | false => rw [hq] at ha; simp at ha
          | true =>
            rw [hq] at hL
            simp only [cond_true] at hL
            cases hc : call1 C.call L (o.oid + 32) (.sc (.c y)) (vals C E args) with
            | none => rw [hc] at h; cases h
            | some q =>
              obtain ⟨qv, qu⟩ := q
              rw [hc] at h
              simp only [List.nil_append, Option.some.injEq, Prod.mk.injEq] at h
              obtain ⟨rfl, rfl⟩ := h
              rw [call1_quiet _ hc hL]
              · rfl
              · intro z hz
                obtain ⟨x, hx, rfl⟩ := List.mem_map.1 hz
                simpa using List.all_eq_true.1 hq x hx
        | _ => rw [hf] at ha; simp at ha
      | _ => rw [hf] at ha; simp at ha
  all_goals first | exact h | (simp at ha; done)

/-- The record of an operation tells all objects that matter. -/
theorem runO_L {o : VOper} {v : V} {u : Upd} (h : runO C o E L = some (v, u)) (ha : (recO C E o u).1 = false) (hL : ∀ k ∈ (recO C E o u).2, L k = L' k) : runO C o E L' = some (v, u) := by
  have hown : o.own = [] := by
    cases ho : o.own with
    | nil => rfl
    | cons _ _ => simp [recO, ho] at ha
  have key : ∀ q, exec1 C E L o.oid o.op = some q → ownV o.oid o.own L q = some (v, u) → exec1 C E L' o.oid o.op = some (v, u) := by
    intro q hq ho
    unfold ownV at ho
    rw [hown] at ho
    simp only [Option.some.injEq] at ho
    subst ho
    exact exec1_L hown hq ha hL
  have fin : ∀ {q : Option (V × Upd)}, q = some (v, u) → (match q with | none => none | some r => ownV o.oid o.own L' r) = some (v, u) := by
    intro q hq
    rw [hq]
    simp only [ownV, hown]
  unfold runO at h ⊢
  cases hg : o.guard with
  | none =>
    rw [hg] at h
    simp only at h ⊢
    cases hq : exec1 C E L o.oid o.op with
    | none => rw [hq] at h; cases h
    | some q => rw [hq] at h; exact fin (key q hq h)
  | some g =>
    obtain ⟨t, want⟩ := g
    rw [hg] at h
    simp only at h ⊢
    split at h
    · rename_i b hb
      cases hw : (b == want) with
      | false => rw [hw] at h; exact h
      | true =>
        rw [hw] at h
        simp only [cond_true] at h ⊢
        cases hq : exec1 C E L o.oid o.op with
        | none => rw [hq] at h; cases h
        | some q => rw [hq] at h; exact fin (key q hq h)
    · rename_i hb
      exact h
    · cases h

end
end Go.Vs
