/- The value semantics, 5: steps of a frame's memory: new blocks, writes into blocks, objects without a block, published rows. -/
import Derived.Test.YtogldkeabdgjgaaVs4
namespace Go.Vs
open Go

def updE (E : Nat → Option V) (d : Nat) (v : V) : Nat → Option V := fun t => if t = d then some v else E t

theorem updL_append (L : Nat → Option Obj) (u u' : Upd) : updL L (u ++ u') = updL (updL L u) u' := by
  induction u generalizing L with
  | nil => rfl
  | cons x r ih => obtain ⟨k, y⟩ := x; simp only [List.cons_append, updL]; exact ih _

theorem updO_same (L : Nat → Option Obj) (k : Nat) (x : Option Obj) : updO L k x k = x := by simp [updO]
theorem updO_ne {L : Nat → Option Obj} {k j : Nat} {x : Option Obj} (h : j ≠ k) : updO L k x j = L j := by
  have : (j == k) = false := by simpa using h
  simp [updO, this]

theorem get?_put {α : Type} (l : List (Nat × α)) (k : Nat) (a : α) (j : Nat) : get? (put l k a) j = if j = k then some a else get? l j := by
  induction l with
  | nil => by_cases h : j = k
           · subst h; simp [put, get?]
           · have : (k == j) = false := by simp; exact fun e => h e.symm
             simp [put, get?, h, this]
  | cons x r ih =>
    obtain ⟨i, b⟩ := x
    simp only [put]
    by_cases hik : i = k
    · subst hik
      by_cases h : j = i
      · subst h; simp [get?]
      · have : (i == j) = false := by simp; exact fun e => h e.symm
        simp [get?, h, this]
    · have hik' : (i == k) = false := by simpa using hik
      simp only [hik', cond_false, get?]
      by_cases hij : i = j
      · subst hij
        simp [hik]
      · have : (i == j) = false := by simpa using hij
        simp only [this, cond_false, ih]

theorem get?_put_fun (l : Env) (k : Nat) (a : V) : get? (put l k a) = updE (get? l) k a := by
  funext j; rw [get?_put]; rfl

theorem look_put (o : Objs) (k : Nat) (x : Option Obj) : look (put o k x) = updO (look o) k x := by
  funext j
  simp only [look, get?_put, updO]
  by_cases h : j = k
  · simp [h]
  · have : (j == k) = false := by simpa using h
    simp [h, this]

theorem look_putAll (o : Objs) (u : Upd) : look (putAll o u) = updL (look o) u := by
  induction u generalizing o with
  | nil => rfl
  | cons x r ih => obtain ⟨k, y⟩ := x; simp only [putAll, updL, ih, look_put]

section
variable {GL : Nat → List Cell} {N : Nat} {w0 : World} {ω0 : Nat → Nat} {S : Fr} {E : Nat → Option V} {L : Nat → Option Obj} {a : Act} {w w' : World} {ω ω' : Nat → Nat} {β β' : Nat → Option Nat}

/-- A slot of the frame is written. -/
theorem Rel.put (h : Rel GL N w0 ω0 S E L a w ω β) {d : Nat} (hd : d < N) {v : V} {vv : Value} (hv : RV w ω β L v vv) :
    Rel GL N w0 ω0 S (updE E d v) L (a.put (some d) vv) w ω β := by
  refine ⟨by simp [Act.put, h.size], h.defers, fun t u ht => ?_, h.obj, h.inj, h.keeps, h.mine, h.gl, h.inv⟩
  unfold updE at ht
  by_cases htd : t = d
  · subst htd
    simp only [if_true, Option.some.injEq] at ht
    subst ht
    refine ⟨hd, ?_⟩
    have : (a.put (some t) vv).tmps.getD t undef = vv := by
      simp [Act.put, h.size, hd]
    rw [this]; exact hv
  · simp only [htd, if_false] at ht
    obtain ⟨h1, h2⟩ := h.env t u ht
    refine ⟨h1, ?_⟩
    have : (a.put (some d) vv).tmps.getD t undef = a.tmps.getD t undef := by
      simp [Act.put, Array.getElem?_setIfInBounds_ne (Ne.symm htd)]
    rw [this]; exact h2

theorem Rel.putNone (h : Rel GL N w0 ω0 S E L a w ω β) (vv : Value) : Rel GL N w0 ω0 S E L (a.put none vv) w ω β := h

/-- Fewer variables. -/
theorem Rel.fewer (h : Rel GL N w0 ω0 S E L a w ω β) {E' : Nat → Option V} (hE : ∀ t v, E' t = some v → E t = some v) : Rel GL N w0 ω0 S E' L a w ω β :=
  ⟨h.size, h.defers, fun t v ht => h.env t v (hE t v ht), h.obj, h.inj, h.keeps, h.mine, h.gl, h.inv⟩

theorem Rel.val (h : Rel GL N w0 ω0 S E L a w ω β) {t : Nat} {v : V} (ht : E t = some v) : RV w ω β L v (a.tmps.getD t undef) := (h.env t v ht).2

theorem Rel.blt (h : Rel GL N w0 ω0 S E L a w ω β) {k b : Nat} (hk : L k ≠ none) (hb : β k = some b) : b < w.heap.size := by
  cases hL : L k with
  | none => exact absurd hL hk
  | some o =>
    have ho := h.obj k o hL
    cases o with
    | box cells =>
      obtain ⟨b', cs, t, h1, h2, _⟩ := ho
      have : b' = b := by rw [hb] at h1; exact (Option.some.inj h1).symm
      subst this
      exact (Array.getElem?_eq_some_iff.1 h2).1
    | arr s rows p =>
      obtain ⟨_, _, _, h4⟩ := ho
      rcases h4 with ⟨b', cap, cur, t, h1, h2, _⟩ | ⟨h1, _⟩
      · have : b' = b := by rw [hb] at h1; exact (Option.some.inj h1).symm
        subst this
        exact (Array.getElem?_eq_some_iff.1 h2).1
      · rw [hb] at h1; cases h1

def setN {α : Type} (f : Nat → α) (k : Nat) (x : α) : Nat → α := fun j => if j = k then x else f j

theorem Grows.alloc (w : World) (ω : Nat → Nat) (o : Go.Obj) (n : Nat) : Grows w ω (w.alloc o) (setN ω w.heap.size n) := by
  refine ⟨fun b i hi v hv => ?_⟩
  have hb : b < w.heap.size := block_lt_of_cell hv
  refine ⟨?_, by simp [setN, Nat.ne_of_lt hb]; exact hi⟩
  exact (World.cell?_alloc_lt w _ ⟨b, i, none⟩ hb).trans hv

theorem heap_ne_of_lt {b : Nat} (hb : b < w.heap.size) (o : Go.Obj) : (w.alloc o).heap[b]? = w.heap[b]? := heap_alloc_old w o hb

/-- Only the heap and what is outside count. -/
theorem Rel.heapEq (h : Rel GL N w0 ω0 S E L a w ω β) (hh : w'.heap = w.heap) (hos : w'.os = w.os) (htp : w'.tape = w.tape) (hout : w'.output = w.output) : Rel GL N w0 ω0 S E L a w' ω β := by
  have g : Grows w ω w' ω := ⟨fun b i hi v hv => ⟨by simpa [at?, World.cell?, hh] using hv, hi⟩⟩
  exact (h.step (fun _ => False) (β' := β) (L' := L) g (by rw [hh]; exact Nat.le_refl _) hos htp hout (fun b _ _ => ⟨by rw [hh], rfl⟩) (fun k _ => ⟨rfl, fun _ => rfl⟩) (fun _ h => h.elim) (fun _ _ h => h.elim) (fun _ h => h.elim) (fun _ _ _ h => h.elim)).1

/-- A new object in a new block. -/
theorem Rel.alloc (h : Rel GL N w0 ω0 S E L a w ω β) {k : Nat} {o : Obj} (hk : L k = none) (cs : Array Value) (t : TypeId) (n : Nat)
    (hok : (∀ j, Tr w β (w.alloc (.cells cs t)) (setN β k (some w.heap.size)) L (updO L k (some o)) j) →
      ObjOk (w.alloc (.cells cs t)) (setN ω w.heap.size n) (setN β k (some w.heap.size)) (updO L k (some o)) k o) :
    Rel GL N w0 ω0 S E (updO L k (some o)) a (w.alloc (.cells cs t)) (setN ω w.heap.size n) (setN β k (some w.heap.size)) ∧
      ∀ j, Tr w β (w.alloc (.cells cs t)) (setN β k (some w.heap.size)) L (updO L k (some o)) j := by
  refine h.step (fun j => j = k) (Grows.alloc w ω _ n) (by simp) rfl rfl rfl ?_ ?_ ?_ ?_ ?_ ?_
  · intro b hb _
    exact ⟨heap_ne_of_lt hb _, by simp [setN, Nat.ne_of_lt hb]⟩
  · intro j hj
    exact ⟨updO_ne hj, fun _ => by simp [setN, hj]⟩
  · rintro j rfl
    simp [Tr, hk]
  · rintro tr j rfl o' ho'
    rw [updO_same] at ho'
    cases ho'
    exact hok tr
  · rintro j rfl b _ hb
    simp only [setN, if_true, Option.some.injEq] at hb
    exact .inr (by omega)
  · rintro i j b rfl rfl _ _ _ _; rfl

/-- A new array without a block. -/
theorem Rel.newNil (h : Rel GL N w0 ω0 S E L a w ω β) {k s : Nat} (hk : L k = none) (hs : 0 < s) :
    Rel GL N w0 ω0 S E (updO L k (some (.arr s [] 0))) a w ω (setN β k none) ∧ ∀ j, Tr w β w (setN β k none) L (updO L k (some (.arr s [] 0))) j := by
  refine h.step (fun j => j = k) (Grows.refl w ω) (Nat.le_refl _) rfl rfl rfl ?_ ?_ ?_ ?_ ?_ ?_
  · intro b _ _; exact ⟨rfl, rfl⟩
  · intro j hj
    exact ⟨updO_ne hj, fun _ => by simp [setN, hj]⟩
  · rintro j rfl
    simp [Tr, hk]
  · rintro tr j rfl o' ho'
    rw [updO_same] at ho'
    cases ho'
    exact ⟨hs, by simp, by simp, .inr ⟨by simp [setN], rfl⟩⟩
  · rintro j rfl b _ hb
    simp [setN] at hb
  · rintro i j b rfl rfl _ _ _ _; rfl

theorem at?_setRow_other (w : World) (g b i : Nat) (cs : Array Value) (h : b ≠ g) : at? (w.setRow g cs) b i = at? w b i := by
  have := setRow_other w g b cs h
  simp [at?, World.cell?, this]

/-- A write into the block of an object that is there. -/
theorem Rel.write (h : Rel GL N w0 ω0 S E L a w ω β) {k g : Nat} {o o' : Obj} (hk : L k = some o) (hg : β k = some g) (cur cs : Array Value) (t : TypeId)
    (hcur : w.heap[g]? = some (.cells cur t (0, 0))) (hsz : cs.size = cur.size) (n : Nat) (hn : ω g ≤ n)
    (hpub : ∀ i, i < ω g → cs[i]? = cur[i]?)
    (hkind : match o, o' with
      | .box a, .box b => b.length = a.length
      | .arr s rows _, .arr s' rows' _ => s' = s ∧ rows.length ≤ rows'.length
      | _, _ => False)
    (hok : (∀ j, Tr w β (w.setRow g cs) β L (updO L k (some o')) j) → (w.setRow g cs).heap[g]? = some (.cells cs t (0, 0)) →
      ObjOk (w.setRow g cs) (setN ω g n) β (updO L k (some o')) k o') :
    Rel GL N w0 ω0 S E (updO L k (some o')) a (w.setRow g cs) (setN ω g n) β ∧ ∀ j, Tr w β (w.setRow g cs) β L (updO L k (some o')) j := by
  have hnew : (w.setRow g cs).heap[g]? = some (.cells cs t (0, 0)) := setRow_heap w g cur cs t _ hcur
  refine h.step (fun j => j = k) ?_ (by simp) rfl rfl rfl ?_ ?_ ?_ ?_ ?_ ?_
  · refine ⟨fun b i hi v hv => ?_⟩
    by_cases hb : b = g
    · subst hb
      rw [at?_block hcur] at hv
      refine ⟨by rw [at?_block hnew, hpub i hi]; exact hv, by simp only [setN, if_true]; omega⟩
    · exact ⟨by rw [at?_setRow_other w g b i cs hb]; exact hv, by simp [setN, hb]; exact hi⟩
  · intro b hb hC
    have hne : b ≠ g := fun e => hC k rfl (by simp [hk]) (e ▸ hg)
    exact ⟨setRow_other w g b cs hne, by simp [setN, hne]⟩
  · intro j hj
    exact ⟨updO_ne hj, fun _ => rfl⟩
  · rintro j rfl
    unfold Tr
    rw [hk]
    cases o with
    | box cells => cases o' with
      | box cells' => exact ⟨⟨cells', updO_same _ _ _, hkind⟩, rfl⟩
      | arr _ _ _ => exact hkind.elim
    | arr s rows p => cases o' with
      | box _ => exact hkind.elim
      | arr s' rows' p' =>
        obtain ⟨rfl, hle⟩ := hkind
        refine ⟨rows', p', updO_same _ _ _, hle, fun _ => ⟨rfl, fun b c u hb hc => ?_⟩⟩
        have : b = g := by rw [hg] at hb; exact (Option.some.inj hb).symm
        subst this
        rw [hcur] at hc
        cases hc
        exact ⟨cs, hnew, hsz⟩
  · rintro tr j rfl x hx
    rw [updO_same] at hx
    cases hx
    exact hok tr hnew
  · rintro j rfl b _ hb
    exact .inl ⟨j, rfl, by simp [hk], hb⟩
  · rintro i j b rfl rfl _ _ _ _; rfl

/-- An array that moves into a new block. -/
theorem Rel.move (h : Rel GL N w0 ω0 S E L a w ω β) {k s : Nat} {rows rows' : List (List W)} {p p' : Nat} (hk : L k = some (.arr s rows p)) (hlt : rows.length < rows'.length)
    (cs : Array Value) (t : TypeId) (n : Nat)
    (hok : (∀ j, Tr w β (w.alloc (.cells cs t)) (setN β k (some w.heap.size)) L (updO L k (some (.arr s rows' p'))) j) →
      ObjOk (w.alloc (.cells cs t)) (setN ω w.heap.size n) (setN β k (some w.heap.size)) (updO L k (some (.arr s rows' p'))) k (.arr s rows' p')) :
    Rel GL N w0 ω0 S E (updO L k (some (.arr s rows' p'))) a (w.alloc (.cells cs t)) (setN ω w.heap.size n) (setN β k (some w.heap.size)) ∧
      ∀ j, Tr w β (w.alloc (.cells cs t)) (setN β k (some w.heap.size)) L (updO L k (some (.arr s rows' p'))) j := by
  refine h.step (fun j => j = k) (Grows.alloc w ω _ n) (by simp) rfl rfl rfl ?_ ?_ ?_ ?_ ?_ ?_
  · intro b hb _
    exact ⟨heap_ne_of_lt hb _, by simp [setN, Nat.ne_of_lt hb]⟩
  · intro j hj
    exact ⟨updO_ne hj, fun _ => by simp [setN, hj]⟩
  · rintro j rfl
    unfold Tr
    rw [hk]
    exact ⟨rows', p', updO_same _ _ _, Nat.le_of_lt hlt, fun e => absurd e (Nat.ne_of_lt hlt)⟩
  · rintro tr j rfl o' ho'
    rw [updO_same] at ho'
    cases ho'
    exact hok tr
  · rintro j rfl b _ hb
    simp only [setN, if_true, Option.some.injEq] at hb
    exact .inr (by omega)
  · rintro i j b rfl rfl _ _ _ _; rfl
end
end Go.Vs
