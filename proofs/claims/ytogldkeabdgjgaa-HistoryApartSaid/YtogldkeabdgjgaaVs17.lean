/- The value semantics, 17: calls. -/
import Derived.Test.YtogldkeabdgjgaaVs16
namespace Go.Vs
open Go

def Lof (objs : List Obj) : Nat → Option Obj := fun k => objs[k]?

/-- What a function owes: handed these values and objects, wherever they lie, it returns those, and leaves all else. -/
def Callable (P : Program) (f : FuncId) : Prop := ∃ fn, P.funcs[f]? = some fn ∧ fn.body.isSome = true ∧ (fn.name == "runtime.NumGoroutine") = false

def FnOk (P : Program) (GL : Nat → List Cell) (f : FuncId) (args : List V) (objs : List Obj) (rv : V) (objs' : List Obj) : Prop :=
  Callable P f ∧ ∀ (w : World) (ω : Nat → Nat) (β : Nat → Option Nat) (cargs : Array Value), (∀ g, RDcells w ω g 0 (GL g)) → RVs w ω β (Lof objs) args cargs.toList →
    (∀ k o, Lof objs k = some o → ObjOk w ω β (Lof objs) k o) →
    (∀ j k b, Lof objs j ≠ none → Lof objs k ≠ none → β j = some b → β k = some b → j = k) →
    Calls P f cargs w fun e w' => ∃ vv ω' β', e = .returned vv ∧ RV w' ω' β' (Lof objs') rv vv ∧
      (∀ k o, Lof objs' k = some o → ObjOk w' ω' β' (Lof objs') k o) ∧
      (∀ j k b, Lof objs' j ≠ none → Lof objs' k ≠ none → β' j = some b → β' k = some b → j = k) ∧
      Keeps w ω (fun b => ∃ k, Lof objs k ≠ none ∧ β k = some b) w' ω' ∧
      (∀ k b, Lof objs' k ≠ none → β' k = some b → (∃ j, Lof objs j ≠ none ∧ β j = some b) ∨ w.heap.size ≤ b) ∧
      (∀ k, Tr w β w' β' (Lof objs) (Lof objs') k)

def OracleOk (P : Program) (C : Ctx) : Prop := ∀ f args objs rv objs', C.call f args objs = some (rv, objs') → FnOk P C.gl f args objs rv objs'

section
variable {P : Program} {C : Ctx} {N : Nat} {w0 : World} {ω0 : Nat → Nat} {S : Fr} {E : Nat → Option V} {L : Nat → Option Obj} {a : Act} {w : World} {ω : Nat → Nat} {β : Nat → Option Nat}
variable {o : Oper} {v : V}

/- lists without repetition -/

theorem nubs_mem (l : List Nat) : ∀ k, k ∈ nubs l ↔ k ∈ l := by
  induction l with
  | nil => simp [nubs]
  | cons x r ih =>
    intro k
    simp only [nubs]
    split
    · rename_i h
      rw [ih] at h
      rw [ih, List.mem_cons]
      exact ⟨.inr, fun h' => h'.elim (fun e => e ▸ h) id⟩
    · simp [ih]

theorem nubs_nodup (l : List Nat) : (nubs l).Nodup := by
  induction l with
  | nil => simp [nubs]
  | cons x r ih =>
    simp only [nubs]
    split
    · exact ih
    · rename_i h; exact List.nodup_cons.2 ⟨h, ih⟩

theorem reach_nodup (L : Nat → Option Obj) (ks : List Nat) : (reach L ks).Nodup := by
  unfold reach
  split
  · simp
  · exact nubs_nodup _

theorem indexIn_get : ∀ {l : List Nat} {k i : Nat}, indexIn l k = some i → l[i]? = some k
  | [], _, _, h => by simp [indexIn] at h
  | j :: r, k, i, h => by
    simp only [indexIn] at h
    cases hb : (j == k) with
    | true =>
      simp only [hb, cond_true, Option.some.injEq] at h
      subst h
      simp only [beq_iff_eq] at hb
      simp [hb]
    | false =>
      simp only [hb, cond_false] at h
      cases hr : indexIn r k with
      | none => simp [hr] at h
      | some q =>
        simp only [hr, Option.map_some, Option.some.injEq] at h
        subst h
        simpa using indexIn_get hr

theorem nodup_inj : ∀ {l : List Nat}, l.Nodup → ∀ {i j k : Nat}, l[i]? = some k → l[j]? = some k → i = j
  | [], _, i, j, k, h, _ => by simp at h
  | x :: l, hn, i, j, k, hi, hj => by
    obtain ⟨hx, hn⟩ := List.nodup_cons.1 hn
    cases i with
    | zero => cases j with
      | zero => rfl
      | succ j =>
        simp at hi hj
        subst hi
        exact absurd (List.mem_of_getElem? hj) hx
    | succ i => cases j with
      | zero =>
        simp at hi hj
        subst hj
        exact absurd (List.mem_of_getElem? hi) hx
      | succ j => exact congrArg (· + 1) (nodup_inj hn (by simpa using hi) (by simpa using hj))

/- ## Publishing -/

theorem publish_ex (r : Rel C.gl N w0 ω0 S E L a w ω β) : ∀ ds : List Nat, ∃ ω', Grows w ω w ω' ∧ (∀ k ∈ ds, ∀ s rows p b, L k = some (.arr s rows p) → β k = some b → ω' b = rows.length * s) ∧
    (∀ b, (∀ k ∈ ds, ∀ s rows p, L k = some (.arr s rows p) → β k ≠ some b) → ω' b = ω b)
  | [] => ⟨ω, Grows.refl w ω, by simp, fun _ _ => rfl⟩
  | k :: ds => by
    obtain ⟨ω', g, h1, h2⟩ := publish_ex r ds
    cases hL : L k with
    | none =>
      refine ⟨ω', g, fun j hj s rows p b hLj hb => ?_, fun b hb => h2 b fun j hj => hb j (by simp [hj])⟩
      simp only [List.mem_cons] at hj
      rcases hj with rfl | hj
      · rw [hL] at hLj; cases hLj
      · exact h1 j hj s rows p b hLj hb
    | some ob => cases ob with
      | box cells =>
        refine ⟨ω', g, fun j hj s rows p b hLj hb => ?_, fun b hb => h2 b fun j hj => hb j (by simp [hj])⟩
        simp only [List.mem_cons] at hj
        rcases hj with rfl | hj
        · rw [hL] at hLj; cases hLj
        · exact h1 j hj s rows p b hLj hb
      | arr s rows p =>
        cases hβ : β k with
        | none =>
          refine ⟨ω', g, fun j hj s rows p b hLj hb => ?_, fun b hb => h2 b fun j hj => hb j (by simp [hj])⟩
          simp only [List.mem_cons] at hj
          rcases hj with rfl | hj
          · rw [hβ] at hb; cases hb
          · exact h1 j hj s rows p b hLj hb
        | some b0 =>
          refine ⟨setN ω' b0 (rows.length * s), ⟨fun b i hi v hv => ⟨hv, ?_⟩⟩, fun j hj s' rows' p' b hLj hb => ?_, fun b hb => ?_⟩
          · by_cases hbb : b = b0
            · subst hbb
              simp only [setN, if_true]
              obtain ⟨f1, f2, f3, f4⟩ := r.obj k _ hL
              rcases f4 with ⟨b', cap, cur, t, k2, k3, k4, k5, k6, k7, k8⟩ | ⟨k2, _⟩
              · rw [hβ] at k2; cases k2
                have : p * s ≤ rows.length * s := Nat.mul_le_mul_right _ f3
                omega
              · rw [hβ] at k2; cases k2
            · simp only [setN, hbb, if_false]
              exact (g.pub b i hi v hv).2
          · by_cases hbb : b = b0
            · subst hbb
              have := r.inj j k b (by simp [hLj]) (by simp [hL]) hb hβ
              subst this
              rw [hL] at hLj
              cases hLj
              simp [setN]
            · simp only [setN, hbb, if_false]
              simp only [List.mem_cons] at hj
              rcases hj with rfl | hj
              · rw [hβ] at hb; cases hb; exact absurd rfl hbb
              · exact h1 j hj s' rows' p' b hLj hb
          · have hbb : b ≠ b0 := fun e => hb k (by simp) s rows p hL (e ▸ hβ)
            simp only [setN, hbb, if_false]
            exact h2 b fun j hj => hb j (by simp [hj])

theorem pubUpd_ok {all : List Nat} : ∀ {ds : List Nat} {p : Upd} {M : Nat → Option Obj}, pubUpd L all ds = some p →
    (∀ k, k ∉ ds → updL M p k = M k) ∧ (∀ k ∈ ds, ∃ s rows q cs, L k = some (.arr s rows q) ∧ listM (listM (W.toC L deep)) rows = some cs ∧ updL M p k = some (.arr s (cs.map (·.map W.c)) rows.length) ∧
      ∀ r ∈ rows, ∀ x ∈ r, ∀ j ∈ W.ids L deep x, j ∈ all)
  | [], p, M, h => by simp [pubUpd] at h; subst h; exact ⟨fun _ _ => rfl, by simp⟩
  | k :: ds, p, M, h => by
    simp only [pubUpd] at h
    cases hL : L k with
    | none => simp [hL] at h
    | some ob => cases ob with
      | box _ => simp [hL] at h
      | arr s rows q =>
        simp only [hL] at h
        cases hc : listM (listM (W.toC L deep)) rows with
        | none => simp [hc] at h
        | some cs =>
          simp only [hc] at h
          cases hb : rows.all (fun q => q.all fun x => (W.ids L deep x).all fun j => all.contains j) with
          | false => rw [hb] at h; simp at h
          | true =>
            rw [hb] at h
            simp only [cond_true] at h
            cases hp : pubUpd L all ds with
            | none => simp [hp] at h
            | some p' =>
              simp only [hp, Option.map_some, Option.some.injEq] at h
              subst h
              obtain ⟨h1, h2⟩ := pubUpd_ok (M := updO M k (some (.arr s (cs.map (·.map W.c)) rows.length))) hp
              have hin : ∀ r ∈ rows, ∀ x ∈ r, ∀ j ∈ W.ids L deep x, j ∈ all := by
                intro r hr x hx j hj
                have h3 := List.all_eq_true.1 hb r hr
                have h4 := List.all_eq_true.1 h3 x hx
                have h5 := List.all_eq_true.1 h4 j hj
                simpa using h5
              simp only [updL]
              refine ⟨fun j hj => ?_, fun j hj => ?_⟩
              · simp only [List.mem_cons, not_or] at hj
                rw [h1 j hj.2, updO_ne hj.1]
              · by_cases hjd : j ∈ ds
                · exact h2 j hjd
                · simp only [List.mem_cons] at hj
                  rcases hj with rfl | hj
                  · exact ⟨s, rows, q, cs, hL, hc, by rw [h1 j hjd, updO_same], hin⟩
                  · exact absurd hj hjd

theorem updOf_ok : ∀ {ids : List Nat} {os : List Obj} {M : Nat → Option Obj}, ids.Nodup → ids.length ≤ os.length → (∀ k, k ∉ ids → updL M (updOf ids os) k = M k) ∧ (∀ (i : Nat) (k : Nat) (o : Obj), ids[i]? = some k → os[i]? = some o → updL M (updOf ids os) k = some o)
  | [], os, M, _, _ => by simp [updOf, updL]
  | k :: ids, [], M, _, h => by simp at h
  | k :: ids, o :: os, M, hn, hl => by
    obtain ⟨hk, hn⟩ := List.nodup_cons.1 hn
    obtain ⟨h1, h2⟩ := updOf_ok (M := updO M k (some o)) hn (by simpa using hl)
    simp only [updOf, updL]
    refine ⟨fun j hj => ?_, fun i j o' hi ho => ?_⟩
    · simp only [List.mem_cons, not_or] at hj
      rw [h1 j hj.2, updO_ne hj.1]
    · cases i with
      | zero =>
        simp at hi ho
        subst hi ho
        rw [h1 k hk, updO_same]
      | succ i => exact h2 i j o' (by simpa using hi) (by simpa using ho)

/- ## Arguments -/

/-- Values with their meanings. -/
def ArgsOk (w : World) (ω : Nat → Nat) (β : Nat → Option Nat) (L : Nat → Option Obj) : List (Bool × V) → List Value → Prop
  | [], [] => True
  | x :: xs, v :: vs => RV w ω β L x.2 v ∧ ArgsOk w ω β L xs vs
  | _, _ => False

theorem ArgsOk.append : ∀ {xs ys : List (Bool × V)} {vs us : List Value}, ArgsOk w ω β L xs vs → ArgsOk w ω β L ys us → ArgsOk w ω β L (xs ++ ys) (vs ++ us)
  | [], _, [], _, _, h => h
  | [], _, _ :: _, _, h, _ => h.elim
  | _ :: _, _, [], _, h, _ => h.elim
  | _ :: _, _, _ :: _, _, h, h' => ⟨h.1, ArgsOk.append h.2 h'⟩

theorem listM_toC_rd {ω' : Nat → Nat} (hobj : ∀ k o, L k = some o → ObjOk w ω β L k o) (g : Grows w ω w ω') {d : Nat} : ∀ {cs : List W} {vs : List Value} {l : List Cell}, RWlist w ω β L cs vs → listM (W.toC L d) cs = some l → Shows β L ω' (cs.flatMap (W.ids L d)) → RDlist w ω' l vs
  | [], [], l, _, h, _ => by simp [listM] at h; subst h; simp [RDlist]
  | [], _ :: _, _, h, _, _ => by simp [RWlist] at h
  | _ :: _, [], _, h, _, _ => by simp [RWlist] at h
  | x :: xs, v :: vs, l, hr, h, hs => by
    simp only [RWlist] at hr
    simp only [listM] at h
    cases hx : W.toC L d x with
    | none => simp [hx] at h
    | some c =>
      simp only [hx] at h
      cases hl : listM (W.toC L d) xs with
      | none => simp [hl] at h
      | some l' =>
        simp only [hl, Option.some.injEq] at h
        subst h
        simp only [RDlist]
        exact ⟨toC_ok hobj g d x v c hr.1 hx fun k hk => hs k (by simp only [List.flatMap_cons, List.mem_append]; exact .inl hk),
          listM_toC_rd hobj g hr.2 hl fun k hk => hs k (by simp only [List.flatMap_cons, List.mem_append]; exact .inr hk)⟩

theorem toD_ok {ω' : Nat → Nat} (hobj : ∀ k o, L k = some o → ObjOk w ω β L k o) (g : Grows w ω w ω') {x d : V} {v : Value} (h : RV w ω β L x v) (hd : x.toD L = some d) (hs : Shows β L ω' (x.cells.flatMap (W.ids L deep))) :
    ∀ (β' : Nat → Option Nat) (L' : Nat → Option Obj), RV1 w ω' β' L' d v := by
  intro β' L'
  cases x with
  | sc x =>
    simp only [V.toD] at hd
    cases hc : W.toC L deep x with
    | none => simp [hc] at hd
    | some c =>
      simp only [hc, Option.map_some, Option.some.injEq] at hd
      subst hd
      simp only [RV1, RW]
      exact toC_ok hobj g deep x v c h hc (by simpa [V.cells] using hs)
  | ag cs =>
    simp only [V.toD] at hd
    cases hc : listM (W.toC L deep) cs with
    | none => simp [hc] at hd
    | some l =>
      simp only [hc, Option.map_some, Option.some.injEq] at hd
      subst hd
      obtain ⟨arr, h1, h2⟩ := h
      exact ⟨arr, h1, RDlist.to (listM_toC_rd hobj g h2 hc hs)⟩
  | tu l => simp [V.toD] at hd

theorem argsOf_ok {ω' : Nat → Nat} (hobj : ∀ k o, L k = some o → ObjOk w ω β L k o) (g : Grows w ω w ω') : ∀ {xs : List (Bool × V)} {cvs : List Value} {vs : List V} {ds rs : List Nat}, ArgsOk w ω β L xs cvs → argsOf L xs = some (vs, ds, rs) →
    Shows β L ω' ds → RVs w ω' β L vs cvs
  | [], [], vs, ds, rs, _, h, _ => by simp [argsOf] at h; obtain ⟨rfl, _, _⟩ := h; trivial
  | [], _ :: _, _, _, _, h, _, _ => h.elim
  | _ :: _, [], _, _, _, h, _, _ => h.elim
  | (true, x) :: xs, cv :: cvs, vs, ds, rs, hr, h, hs => by
    have h1 : RV w ω' β L x cv := RV.step g (fun k => Tr.refl k) hr.1
    cases hq : argsOf L xs with
    | none => cases x <;> simp [argsOf, hq] at h
    | some q =>
      obtain ⟨vs', ds', rs'⟩ := q
      cases x with
      | tu l => simp [argsOf] at h
      | sc x =>
        simp only [argsOf, hq, Option.some.injEq, Prod.mk.injEq] at h
        obtain ⟨rfl, rfl, rfl⟩ := h
        exact ⟨h1, argsOf_ok hobj g hr.2 hq hs⟩
      | ag x =>
        simp only [argsOf, hq, Option.some.injEq, Prod.mk.injEq] at h
        obtain ⟨rfl, rfl, rfl⟩ := h
        exact ⟨h1, argsOf_ok hobj g hr.2 hq hs⟩
  | (false, x) :: xs, cv :: cvs, vs, ds, rs, hr, h, hs => by
    simp only [argsOf] at h
    split at h
    · rename_i d vs' ds' rs' hd hq
      simp only [Option.some.injEq, Prod.mk.injEq] at h
      obtain ⟨rfl, rfl, rfl⟩ := h
      exact ⟨toD_ok hobj g hr.1 hd (fun k hk => hs k (by simp only [List.mem_append]; exact .inl hk)) β L, argsOf_ok hobj g hr.2 hq fun k hk => hs k (by simp only [List.mem_append]; exact .inr hk)⟩
    · cases h

end
end Go.Vs
