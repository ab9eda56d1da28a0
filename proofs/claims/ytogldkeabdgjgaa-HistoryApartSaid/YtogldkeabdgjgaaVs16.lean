/- The value semantics, 16: renaming of objects; what a frame hands over as data. -/
import Derived.Test.YtogldkeabdgjgaaVs15
namespace Go.Vs
open Go

section
variable {w w' : World} {ω ω' : Nat → Nat} {β β' : Nat → Option Nat} {L L' : Nat → Option Obj}

/-- The new names of objects stand for the same objects. -/
def Ren (ρ : Nat → Option Nat) (β : Nat → Option Nat) (L : Nat → Option Obj) (β' : Nat → Option Nat) (L' : Nat → Option Obj) : Prop :=
  ∀ k j o, ρ k = some j → L k = some o → L' j = some (o.ren ρ) ∧ β' j = β k

theorem RWlist.rens {ρ : Nat → Option Nat} {d : Nat} (h : ∀ (x : W) (v : Value), RW w ω β L x v → RW w ω β' L' (x.ren ρ d) v) : ∀ (xs : List W) (vs : List Value), RWlist w ω β L xs vs → RWlist w ω β' L' (xs.map (W.ren ρ d)) vs
  | [], [], _ => by simp [RWlist]
  | [], _ :: _, h => by simp [RWlist] at h
  | _ :: _, [], h => by simp [RWlist] at h
  | x :: xs, v :: vs, hr => by
    simp only [RWlist] at hr
    simp only [List.map_cons, RWlist]
    exact ⟨h x v hr.1, RWlist.rens h xs vs hr.2⟩

theorem RWcaps.rens {ρ : Nat → Option Nat} {d : Nat} (h : ∀ (x : W) (v : Value), RW w ω β L x v → RW w ω β' L' (x.ren ρ d) v) : ∀ (ones : List Bool) (caps : List (List W)) (vs : List Value), RWcaps w ω β L ones caps vs → RWcaps w ω β' L' ones (caps.map (·.map (W.ren ρ d))) vs
  | [], [], [], _ => by simp [RWcaps]
  | [], [], _ :: _, h => by simp [RWcaps] at h
  | [], _ :: _, _, h => by simp [RWcaps] at h
  | _ :: _, [], _, h => by simp [RWcaps] at h
  | _ :: _, _ :: _, [], h => by simp [RWcaps] at h
  | o :: os, r :: rs, v :: vs, hr => by
    simp only [RWcaps] at hr
    simp only [List.map_cons, RWcaps]
    obtain ⟨⟨xs, h1, h2⟩, h3⟩ := hr
    exact ⟨⟨xs, RWlist.rens h r xs h1, h2⟩, RWcaps.rens h os rs vs h3⟩

theorem RW.rename {ρ : Nat → Option Nat} (hρ : Ren ρ β L β' L') : ∀ (d : Nat) (x : W) (v : Value), RW w ω β L x v → RW w ω β' L' (x.ren ρ d) v := by
  intro d
  induction d with
  | zero =>
    intro x v h
    cases x <;> simp only [W.ren]
    case c => exact h
    case nil => exact h
    case full => exact h
    case sk => exact h
    case un => simp [RW]
    case clo => simp [RW]
    case ifw => simp [RW]
    case arr k n =>
      cases hk : ρ k with
      | none => simp [RW]
      | some j =>
        simp only [RW] at h ⊢
        obtain ⟨s, rows, p, h1, h2, h3, h4⟩ := h
        obtain ⟨h5, h6⟩ := hρ k j _ hk h1
        refine ⟨s, _, p, h5, by simpa using h2, h3, fun hn => ?_⟩
        rcases h4 (by simpa using hn) with ⟨b, cap, cur, t, g1, g2, g3, g4⟩ | ⟨g1, g2, g3⟩
        · exact .inl ⟨b, cap, cur, t, h6.trans g1, g2, g3, g4⟩
        · exact .inr ⟨h6.trans g1, g2, g3⟩
    case vw k M lo n =>
      cases hk : ρ k with
      | none => simp [RW]
      | some j =>
        simp only [RW] at h ⊢
        obtain ⟨s, rows, p, h1, h2, h3, h4⟩ := h
        obtain ⟨h5, h6⟩ := hρ k j _ hk h1
        refine ⟨s, _, p, h5, by simpa using h2, h3, fun hn hl => ?_⟩
        rcases h4 (by simpa using hn) hl with g | ⟨b, cap, cur, t, g1, g2⟩
        · exact .inl g
        · exact .inr ⟨b, cap, cur, t, h6.trans g1, g2⟩
    case ptr k off =>
      cases hk : ρ k with
      | none => simp [RW]
      | some j =>
        simp only [RW] at h ⊢
        obtain ⟨cells, b, h1, h2, h3⟩ := h
        obtain ⟨h5, h6⟩ := hρ k j _ hk h1
        exact ⟨_, b, h5, h6.trans h2, h3⟩
    case el k M i off =>
      cases hk : ρ k with
      | none => simp [RW]
      | some j =>
        simp only [RW] at h ⊢
        obtain ⟨s, rows, p, h1, h2, h3, h4⟩ := h
        obtain ⟨h5, h6⟩ := hρ k j _ hk h1
        refine ⟨s, _, p, h5, by simpa using h2, h3, fun hn hl => ?_⟩
        obtain ⟨b, g1, g2⟩ := h4 (by simpa using hn) hl
        exact ⟨b, h6.trans g1, g2⟩
  | succ d ih =>
    intro x v h
    cases x with
    | clo f ones caps =>
      simp only [W.ren, RW] at h ⊢
      obtain ⟨cs, h1, h2⟩ := h
      exact ⟨cs, h1, RWcaps.rens ih ones caps _ h2⟩
    | ifw t one row =>
      simp only [W.ren, RW] at h ⊢
      obtain ⟨x, vs, h1, h2, h3⟩ := h
      exact ⟨x, vs, h1, RWlist.rens ih row vs h2, h3⟩
    | c y => exact h
    | nil => exact h
    | full r => exact h
    | sk => exact h
    | un => simp [W.ren, RW]
    | arr k n =>
      simp only [W.ren]
      cases hk : ρ k with
      | none => simp [RW]
      | some j =>
        simp only [RW] at h ⊢
        obtain ⟨s, rows, p, h1, h2, h3, h4⟩ := h
        obtain ⟨h5, h6⟩ := hρ k j _ hk h1
        refine ⟨s, _, p, h5, by simpa using h2, h3, fun hn => ?_⟩
        rcases h4 (by simpa using hn) with ⟨b, cap, cur, t, g1, g2, g3, g4⟩ | ⟨g1, g2, g3⟩
        · exact .inl ⟨b, cap, cur, t, h6.trans g1, g2, g3, g4⟩
        · exact .inr ⟨h6.trans g1, g2, g3⟩
    | vw k M lo n =>
      simp only [W.ren]
      cases hk : ρ k with
      | none => simp [RW]
      | some j =>
        simp only [RW] at h ⊢
        obtain ⟨s, rows, p, h1, h2, h3, h4⟩ := h
        obtain ⟨h5, h6⟩ := hρ k j _ hk h1
        refine ⟨s, _, p, h5, by simpa using h2, h3, fun hn hl => ?_⟩
        rcases h4 (by simpa using hn) hl with g | ⟨b, cap, cur, t, g1, g2⟩
        · exact .inl g
        · exact .inr ⟨b, cap, cur, t, h6.trans g1, g2⟩
    | ptr k off =>
      simp only [W.ren]
      cases hk : ρ k with
      | none => simp [RW]
      | some j =>
        simp only [RW] at h ⊢
        obtain ⟨cells, b, h1, h2, h3⟩ := h
        obtain ⟨h5, h6⟩ := hρ k j _ hk h1
        exact ⟨_, b, h5, h6.trans h2, h3⟩
    | el k M i off =>
      simp only [W.ren]
      cases hk : ρ k with
      | none => simp [RW]
      | some j =>
        simp only [RW] at h ⊢
        obtain ⟨s, rows, p, h1, h2, h3, h4⟩ := h
        obtain ⟨h5, h6⟩ := hρ k j _ hk h1
        refine ⟨s, _, p, h5, by simpa using h2, h3, fun hn hl => ?_⟩
        obtain ⟨b, g1, g2⟩ := h4 (by simpa using hn) hl
        exact ⟨b, h6.trans g1, g2⟩

theorem RV1.rename {ρ : Nat → Option Nat} (hρ : Ren ρ β L β' L') {x : V} {v : Value} (h : RV1 w ω β L x v) : RV1 w ω β' L' (x.ren ρ) v := by
  cases x with
  | sc x => exact RW.rename hρ deep x v h
  | ag cs => obtain ⟨a, h1, h2⟩ := h; exact ⟨a, h1, RWlist.rens (fun x v => RW.rename hρ deep x v) cs _ h2⟩
  | tu l => exact h.elim

theorem RVs.rename {ρ : Nat → Option Nat} (hρ : Ren ρ β L β' L') : ∀ {l : List V} {vs : List Value}, RVs w ω β L l vs → RVs w ω β' L' (l.map (V.ren ρ)) vs
  | [], [], _ => trivial
  | [], _ :: _, h => h.elim
  | _ :: _, [], h => h.elim
  | _ :: _, _ :: _, h => ⟨h.1.rename hρ, RVs.rename hρ h.2⟩

theorem RV.rename {ρ : Nat → Option Nat} (hρ : Ren ρ β L β' L') {x : V} {v : Value} (h : RV w ω β L x v) : RV w ω β' L' (x.ren ρ) v := by
  cases x with
  | sc x => exact RV1.rename (x := .sc x) hρ h
  | ag x => exact RV1.rename (x := .ag x) hρ h
  | tu l =>
    obtain ⟨a, h1, h2⟩ := h
    have e : V.ren ρ (.tu l) = .tu (l.map fun | .sc w => .sc (w.ren ρ deep) | .ag cs => .ag (cs.map (W.ren ρ deep)) | .tu _ => .sc .un) := rfl
    rw [e]
    refine ⟨a, h1, ?_⟩
    have : ∀ {l : List V} {vs : List Value}, RVs w ω β L l vs → RVs w ω β' L' (l.map fun | .sc w => .sc (w.ren ρ deep) | .ag cs => .ag (cs.map (W.ren ρ deep)) | .tu _ => .sc .un) vs := by
      intro l
      induction l with
      | nil => intro vs h; cases vs with
        | nil => trivial
        | cons _ _ => exact h.elim
      | cons x l ih => intro vs h; cases vs with
        | nil => exact h.elim
        | cons v vs =>
          refine ⟨?_, ih h.2⟩
          have h3 := h.1
          cases x with
          | sc x => exact RW.rename hρ deep x v h3
          | ag cs => obtain ⟨a, h1, h2⟩ := h3; exact ⟨a, h1, RWlist.rens (fun x v => RW.rename hρ deep x v) cs _ h2⟩
          | tu l => exact h3.elim
    exact this h2

theorem flatten_ren {ρ : Nat → Option Nat} {d : Nat} : ∀ rows : List (List W), (rows.map (·.map (W.ren ρ d))).flatten = rows.flatten.map (W.ren ρ d)
  | [] => rfl
  | r :: rs => by rw [List.map_cons, List.flatten_cons, flatten_ren rs, List.flatten_cons, List.map_append]

theorem ObjOk.rename {ρ : Nat → Option Nat} (hρ : Ren ρ β L β' L') {k j : Nat} {o : Obj} (hk : β' j = β k) (h : ObjOk w ω β L k o) : ObjOk w ω β' L' j (o.ren ρ) := by
  cases o with
  | box cells =>
    obtain ⟨b, cs, t, h1, h2, h3, h4⟩ := h
    exact ⟨b, cs, t, hk.trans h1, h2, RWlist.rens (fun x v => RW.rename hρ deep x v) cells _ h3, h4⟩
  | arr s rows p =>
    obtain ⟨h1, h2, h3, h4⟩ := h
    refine ⟨h1, ?_, by simpa using h3, ?_⟩
    · intro r hr
      obtain ⟨q, hq, rfl⟩ := List.mem_map.1 hr
      simpa using h2 q hq
    · rcases h4 with ⟨b, cap, cur, t, g1, g2, g3, g4, g5, g6, g7⟩ | ⟨g1, g2⟩
      · refine .inl ⟨b, cap, cur, t, hk.trans g1, g2, g3, by simpa using g4, g5, ?_, g7⟩
        rw [flatten_ren, List.length_map]
        exact RWlist.rens (fun x v => RW.rename hρ deep x v) _ _ g6
      · exact .inr ⟨hk.trans g1, by simp [g2]⟩

/- ## Data -/

/-- In ω' the rows of these arrays are published. -/
def Shows (β : Nat → Option Nat) (L : Nat → Option Obj) (ω' : Nat → Nat) (ids : List Nat) : Prop :=
  ∀ k ∈ ids, ∀ s rows p b, L k = some (.arr s rows p) → β k = some b → rows.length * s ≤ ω' b

theorem listM_rd {f : W → Option Cell} (h : ∀ (x : W) (v : Value) (c : Cell), RW w ω β L x v → f x = some c → RD w ω' c v) : ∀ {xs : List W} {vs : List Value} {cs : List Cell}, RWlist w ω β L xs vs → listM f xs = some cs → RDlist w ω' cs vs
  | [], [], cs, _, hf => by simp [listM] at hf; subst hf; simp [RDlist]
  | [], _ :: _, _, hr, _ => by simp [RWlist] at hr
  | _ :: _, [], _, hr, _ => by simp [RWlist] at hr
  | x :: xs, v :: vs, cs, hr, hf => by
    simp only [RWlist] at hr
    simp only [listM] at hf
    cases hx : f x with
    | none => simp [hx] at hf
    | some c =>
      simp only [hx] at hf
      cases hl : listM f xs with
      | none => simp [hl] at hf
      | some cs' =>
        simp only [hl, Option.some.injEq] at hf
        subst hf
        simp only [RDlist]
        exact ⟨h x v c hr.1 hx, listM_rd h hr.2 hl⟩

theorem listM_len {α γ : Type} {f : α → Option γ} {l : List α} {r : List γ} (h : listM f l = some r) : r.length = l.length := (listM_some h).1

/-- Rows that lie one behind the other, published. -/
theorem rows_rd {b s : Nat} {f : List W → Option (List Cell)} : ∀ {rows : List (List W)} {css : List (List Cell)} {o : Nat} {vs : List Value}, (∀ r ∈ rows, r.length = s) → listM f rows = some css →
    (∀ r ∈ rows, ∀ (us : List Value) (cs : List Cell), RWlist w ω β L r us → f r = some cs → RDlist w ω' cs us ∧ cs.length = r.length) →
    RWlist w ω β L rows.flatten vs → (∀ (j : Nat) (u : Value), vs[j]? = some u → at? w b (o + j) = some u ∧ o + j < ω' b) → RDrows w ω' b s o css
  | [], css, o, vs, _, hf, _, _, _ => by simp [listM] at hf; subst hf; simp [RDrows]
  | r :: rs, css, o, vs, hs, hf, hg, hr, hat => by
    simp only [listM] at hf
    cases hx : f r with
    | none => simp [hx] at hf
    | some c =>
      simp only [hx] at hf
      cases hl : listM f rs with
      | none => simp [hl] at hf
      | some cs' =>
        simp only [hl, Option.some.injEq] at hf
        subst hf
        have hrs : r.length = s := hs r (by simp)
        have h1 := hr.take s
        have h2 := hr.drop s
        simp only [List.flatten_cons, ← hrs, List.take_left'] at h1
        simp only [List.flatten_cons, ← hrs, List.drop_left'] at h2
        rw [hrs] at h1 h2
        obtain ⟨h3, h4⟩ := hg r (by simp) _ c h1 hx
        simp only [RDrows]
        refine ⟨h4.trans hrs, RDcells.mk h3 ?_, rows_rd (fun q hq => hs q (by simp [hq])) hl (fun q hq => hg q (by simp [hq])) h2 ?_⟩
        · intro j u hu
          rw [List.getElem?_take] at hu
          split at hu
          · exact hat j u hu
          · cases hu
        · intro j u hu
          rw [List.getElem?_drop] at hu
          have := hat (s + j) u hu
          rw [show o + s + j = o + (s + j) from by omega]
          exact this

theorem caps_rd {f : List W → Option (List Cell)} : ∀ {ones : List Bool} {caps : List (List W)} {css : List (List Cell)} {vs : List Value}, listM f caps = some css →
    (∀ r ∈ caps, ∀ (us : List Value) (cs : List Cell), RWlist w ω β L r us → f r = some cs → RDlist w ω' cs us) → RWcaps w ω β L ones caps vs → RDcaps w ω' ones css vs
  | [], [], css, [], hf, _, _ => by simp [listM] at hf; subst hf; simp [RDcaps]
  | [], [], _, _ :: _, _, _, h => by simp [RWcaps] at h
  | [], _ :: _, _, _, _, _, h => by simp [RWcaps] at h
  | _ :: _, [], _, _, _, _, h => by simp [RWcaps] at h
  | _ :: _, _ :: _, _, [], _, _, h => by simp [RWcaps] at h
  | o :: os, r :: rs, css, v :: vs, hf, hg, h => by
    simp only [listM] at hf
    cases hx : f r with
    | none => simp [hx] at hf
    | some c =>
      simp only [hx] at hf
      cases hl : listM f rs with
      | none => simp [hl] at hf
      | some cs' =>
        simp only [hl, Option.some.injEq] at hf
        subst hf
        simp only [RWcaps] at h
        obtain ⟨⟨xs, h1, h2⟩, h3⟩ := h
        simp only [RDcaps]
        exact ⟨⟨xs, hg r (by simp) xs c h1 hx, h2⟩, caps_rd hl (fun q hq => hg q (by simp [hq])) h3⟩

theorem toC_ok (hobj : ∀ k o, L k = some o → ObjOk w ω β L k o) (g : Grows w ω w ω') : ∀ (d : Nat) (x : W) (v : Value) (c : Cell), RW w ω β L x v → W.toC L d x = some c → Shows β L ω' (W.ids L d x) → RD w ω' c v := by
  intro d
  induction d with
  | zero =>
    intro x v c h hc _
    cases x <;> simp only [W.toC, reduceCtorEq, Option.some.injEq] at hc
    case c => subst hc; simp only [RW] at h; exact h.grow g
    case nil => subst hc; simp only [RW] at h; subst h; simp only [RD]; exact ⟨none, 0, rfl, by simp, by decide, .inl trivial⟩
    case full => subst hc; simp only [RW] at h; exact h.1.grow g
  | succ d ih =>
    intro x v c h hc hsh
    have rowf : ∀ (r : List W), (∀ x ∈ r, Shows β L ω' (W.ids L d x)) → ∀ (us : List Value) (cs : List Cell), RWlist w ω β L r us → listM (W.toC L d) r = some cs → RDlist w ω' cs us := by
      intro r
      induction r with
      | nil => intro _ us cs hr hl; simp [listM] at hl; subst hl; cases us with
        | nil => simp [RDlist]
        | cons _ _ => simp [RWlist] at hr
      | cons y ys ihr =>
        intro hs us cs hr hl
        cases us with
        | nil => simp [RWlist] at hr
        | cons u us =>
          simp only [RWlist] at hr
          simp only [listM] at hl
          cases hy : W.toC L d y with
          | none => simp [hy] at hl
          | some c0 =>
            simp only [hy] at hl
            cases hl2 : listM (W.toC L d) ys with
            | none => simp [hl2] at hl
            | some cs' =>
              simp only [hl2, Option.some.injEq] at hl
              subst hl
              simp only [RDlist]
              exact ⟨ih y u c0 hr.1 hy (hs y (by simp)), ihr (fun x hx => hs x (by simp [hx])) us cs' hr.2 hl2⟩
    cases x <;> simp only [W.toC, reduceCtorEq, Option.some.injEq] at hc
    case c => subst hc; simp only [RW] at h; exact h.grow g
    case nil => subst hc; simp only [RW] at h; subst h; simp only [RD]; exact ⟨none, 0, rfl, by simp, by decide, .inl trivial⟩
    case full => subst hc; simp only [RW] at h; exact h.1.grow g
    case arr k n =>
      simp only [RW] at h
      obtain ⟨s, rows, p, h1, h2, h3, h4⟩ := h
      simp only [h1] at hc
      cases hb : (rows.length == n) with
      | false => simp [hb] at hc
      | true =>
        simp only [hb, cond_true] at hc
        have hn : n = rows.length := (by simpa using hb : rows.length = n).symm
        subst hn
        cases hl : listM (listM (W.toC L d)) rows with
        | none => simp [hl] at hc
        | some css =>
          simp only [hl, Option.map_some, Option.some.injEq] at hc
          subst hc
          have hlen := listM_len hl
          obtain ⟨f1, f2, f3, f4⟩ := hobj k _ h1
          simp only [RD]
          rcases h4 rfl with ⟨b, cap, cur, t, g1, g2, g3, g4⟩ | ⟨g1, g2, base, g3⟩
          · rcases f4 with ⟨b', cap', cur', t', k2, k3, k4, k5, k6, k7, k8⟩ | ⟨k2, _⟩
            · rw [g1] at k2; cases k2; rw [g3] at k3; cases k3
              have hcc : cap = cap' := Nat.eq_of_mul_eq_mul_right f1 (g4.symm.trans k4)
              subst hcc
              refine ⟨_, cap, by rw [hlen]; exact g2, by omega, k6, ?_⟩
              by_cases hne : css = []
              · left; exact hne
              right
              have hsub : ∀ r ∈ rows, ∀ x ∈ r, Shows β L ω' (W.ids L d x) := by
                intro r hr x hx q hq
                refine hsh q ?_
                simp only [W.ids, h1, List.mem_cons, List.mem_flatMap]
                exact .inr ⟨r, hr, x, hx, hq⟩
              refine ⟨b, 0, s, rfl, f1, rows_rd f2 hl (fun r hr us cs hru hrc => ⟨rowf r (hsub r hr) us cs hru hrc, listM_len hrc⟩) k7 ?_⟩
              intro j u hu
              rw [List.getElem?_take] at hu
              split at hu
              · rename_i hj
                rw [Nat.zero_add, at?_block g3, ← Array.getElem?_toList]
                refine ⟨hu, Nat.lt_of_lt_of_le hj ?_⟩
                exact hsh k (by simp [W.ids]) s rows p b h1 g1
              · cases hu
            · rw [g1] at k2; cases k2
          · have hr0 : rows = [] := List.eq_nil_of_length_eq_zero g2
            subst hr0
            have : css = [] := List.eq_nil_of_length_eq_zero (by simpa using hlen)
            subst this
            exact ⟨base, 0, g3, by simp, by decide, .inl rfl⟩
    case vw k M lo n =>
      simp only [RW] at h
      obtain ⟨s, rows, p, h1, h2, h3, h4⟩ := h
      simp only [h1] at hc
      cases hb : (rows.length == M && Nat.ble (lo + n) M) with
      | false => simp [hb] at hc
      | true =>
        simp only [hb, cond_true] at hc
        simp only [Bool.and_eq_true, beq_iff_eq] at hb
        obtain ⟨hn, hle⟩ := hb
        subst hn
        have hle := Nat.le_of_ble_eq_true hle
        cases hl : listM (listM (W.toC L d)) ((rows.drop lo).take n) with
        | none => simp [hl] at hc
        | some css =>
          simp only [hl, Option.map_some, Option.some.injEq] at hc
          subst hc
          have hlen := listM_len hl
          have hlen' : css.length = n := by rw [hlen]; simp; omega
          obtain ⟨f1, f2, f3, f4⟩ := hobj k _ h1
          simp only [RD]
          rcases h4 rfl hle with ⟨g1, base, cap, g2, g3⟩ | ⟨b, cap, cur, t, g1, g2, g3, g4, g5, g6⟩
          · have : css = [] := List.eq_nil_of_length_eq_zero (by omega)
            subst this
            exact ⟨base, cap, g2, by simp, g3, .inl rfl⟩
          · rcases f4 with ⟨b', cap', cur', t', k2, k3, k4, k5, k6, k7, k8⟩ | ⟨k2, _⟩
            · rw [g1] at k2; cases k2; rw [g5] at k3; cases k3
              refine ⟨_, cap, by rw [hlen']; exact g2, by omega, g4, ?_⟩
              by_cases hne : css = []
              · left; exact hne
              right
              have hsub : ∀ r ∈ (rows.drop lo).take n, ∀ x ∈ r, Shows β L ω' (W.ids L d x) := by
                intro r hr x hx q hq
                refine hsh q ?_
                simp only [W.ids, h1, List.mem_cons, List.mem_flatMap]
                exact .inr ⟨r, List.mem_of_mem_drop (List.mem_of_mem_take hr), x, hx, hq⟩
              have hd : ∀ (m : Nat) (rows : List (List W)), (∀ r ∈ rows, r.length = s) → (rows.drop m).flatten = rows.flatten.drop (m * s) := by
                intro m
                induction m with
                | zero => intro rows _; simp
                | succ m ihm =>
                  intro rows hrs
                  cases rows with
                  | nil => simp
                  | cons x xs =>
                    rw [List.drop_succ_cons, ihm xs (fun r hr => hrs r (by simp [hr])), List.flatten_cons]
                    have hx := hrs x (by simp)
                    rw [show (m + 1) * s = x.length + m * s from by rw [Nat.add_mul, hx]; omega, ← List.drop_drop]
                    rw [List.drop_left']
                    rfl
              have ht : ∀ (m : Nat) (rows : List (List W)), (∀ r ∈ rows, r.length = s) → (rows.take m).flatten = rows.flatten.take (m * s) := by
                intro m
                induction m with
                | zero => intro rows _; simp
                | succ m ihm =>
                  intro rows hrs
                  cases rows with
                  | nil => simp
                  | cons x xs =>
                    rw [List.take_succ_cons, List.flatten_cons, ihm xs (fun r hr => hrs r (by simp [hr])), List.flatten_cons]
                    have hx := hrs x (by simp)
                    rw [show (m + 1) * s = x.length + m * s from by rw [Nat.add_mul, hx]; omega]
                    rw [List.take_length_add_append]
              have hyf : RWlist w ω β L ((rows.drop lo).take n).flatten (((cur.toList.take (rows.length * s)).drop (lo * s)).take (n * s)) := by
                rw [ht _ _ (fun r hr => f2 r (List.mem_of_mem_drop hr)), hd _ _ f2]
                exact (k7.drop _).take _
              refine ⟨b, lo * s, s, rfl, f1, rows_rd (fun r hr => f2 r (List.mem_of_mem_drop (List.mem_of_mem_take hr))) hl (fun r hr us cs hru hrc => ⟨rowf r (hsub r hr) us cs hru hrc, listM_len hrc⟩) hyf ?_⟩
              intro j u hu
              rw [List.getElem?_take] at hu
              split at hu
              · rw [List.getElem?_drop, List.getElem?_take] at hu
                split at hu
                · rename_i hj
                  rw [at?_block g5, ← Array.getElem?_toList]
                  refine ⟨hu, Nat.lt_of_lt_of_le hj ?_⟩
                  exact hsh k (by simp [W.ids]) s rows p b h1 g1
                · cases hu
              · cases hu
            · rw [g1] at k2; cases k2
    case clo f ones caps =>
      simp only [RW] at h
      obtain ⟨cs, h1, h2⟩ := h
      cases hl : listM (listM (W.toC L d)) caps with
      | none => simp [hl] at hc
      | some css =>
        simp only [hl, Option.map_some, Option.some.injEq] at hc
        subst hc
        simp only [RD]
        refine ⟨cs, h1, caps_rd hl (fun r hr us cs hru hrc => rowf r (fun x hx q hq => hsh q ?_) us cs hru hrc) h2⟩
        simp only [W.ids, List.mem_flatMap]
        exact ⟨r, hr, x, hx, hq⟩
    case ifw t one row =>
      simp only [RW] at h
      obtain ⟨x, vs, h1, h2, h3⟩ := h
      cases hl : listM (W.toC L d) row with
      | none => simp [hl] at hc
      | some cs =>
        simp only [hl, Option.map_some, Option.some.injEq] at hc
        subst hc
        simp only [RD]
        refine ⟨x, vs, h1, rowf row (fun x hx q hq => hsh q ?_) vs cs h2 hl, h3⟩
        simp only [W.ids, List.mem_flatMap]
        exact ⟨x, hx, hq⟩
end
end Go.Vs
