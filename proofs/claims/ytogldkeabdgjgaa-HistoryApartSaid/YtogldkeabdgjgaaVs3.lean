/- The value semantics, 3: what a frame's values and objects stand for in the model's memory, and what keeps that. -/
import Derived.Test.YtogldkeabdgjgaaVs2
import Derived.WalkKit
namespace Go.Vs
open Go

/-- A cell of a block. -/
def at? (w : World) (b i : Nat) : Option Value := w.cell? ⟨b, i, none⟩

/-- Cells as one value: the cell itself, or a struct or array of them. -/
def packs : Bool → List Value → Value → Prop
  | true, vs, v => vs = [v]
  | false, vs, v => v = .agg vs.toArray

mutual
/-- The value is this data; of block b the first 'ω b' cells are never written again. -/
def RD (w : World) (ω : Nat → Nat) : Cell → Value → Prop
  | .int k n, v => v = .int k n
  | .bool b, v => v = .bool b
  | .str s, v => ∃ a : ByteArray, v = .string a ∧ a.data.toList = s
  | .sl rows, v => ∃ base cap, v = .slice base rows.length cap ∧ rows.length ≤ cap ∧ cap ≤ maxRows ∧
      (rows = [] ∨ ∃ b o s, base = some ⟨b, o, none⟩ ∧ 0 < s ∧ RDrows w ω b s o rows)
  | .fn f ones caps, v => ∃ cs : Array Value, v = .func (.func f) #[] cs ∧ RDcaps w ω ones caps cs.toList
  | .nilfn, v => v = .nilFunc
  | .nilptr, v => v = .pointer none
  | .nilif, v => v = .nilIface
  | .ifc t one row, v => ∃ x vs, v = .iface t x ∧ RDlist w ω row vs ∧ packs one vs x
  | .ro row off, v => ∃ b o, v = .pointer (some ⟨b, o + off, none⟩) ∧ RDcells w ω b o row
def RDrows (w : World) (ω : Nat → Nat) (b s : Nat) : Nat → List (List Cell) → Prop
  | _, [] => True
  | o, r :: rs => r.length = s ∧ RDcells w ω b o r ∧ RDrows w ω b s (o + s) rs
def RDcells (w : World) (ω : Nat → Nat) (b : Nat) : Nat → List Cell → Prop
  | _, [] => True
  | o, c :: cs => (o < ω b ∧ ∃ v, at? w b o = some v ∧ RD w ω c v) ∧ RDcells w ω b (o + 1) cs
def RDcaps (w : World) (ω : Nat → Nat) : List Bool → List (List Cell) → List Value → Prop
  | [], [], [] => True
  | o :: os, r :: rs, v :: vs => (∃ xs, RDlist w ω r xs ∧ packs o xs v) ∧ RDcaps w ω os rs vs
  | _, _, _ => False
def RDlist (w : World) (ω : Nat → Nat) : List Cell → List Value → Prop
  | [], [] => True
  | c :: cs, v :: vs => RD w ω c v ∧ RDlist w ω cs vs
  | _, _ => False
end

/-- What is published stays, as far as it is published. -/
structure Grows (w : World) (ω : Nat → Nat) (w' : World) (ω' : Nat → Nat) : Prop where
  pub : ∀ b i, i < ω b → ∀ v, at? w b i = some v → at? w' b i = some v ∧ i < ω' b

theorem Grows.refl (w : World) (ω : Nat → Nat) : Grows w ω w ω := ⟨fun _ _ h _ hv => ⟨hv, h⟩⟩
theorem Grows.trans {w w' w'' : World} {ω ω' ω'' : Nat → Nat} (h : Grows w ω w' ω') (h' : Grows w' ω' w'' ω'') : Grows w ω w'' ω'' :=
  ⟨fun b i hi v hv => let ⟨h1, h2⟩ := h.pub b i hi v hv; h'.pub b i h2 v h1⟩

section
variable {w w' : World} {ω ω' : Nat → Nat}

mutual
theorem RD.grow (g : Grows w ω w' ω') : ∀ (c : Cell) {v : Value}, RD w ω c v → RD w' ω' c v
  | .int .., _, h => by simpa only [RD] using h
  | .bool _, _, h => by simpa only [RD] using h
  | .str _, _, h => by simpa only [RD] using h
  | .nilfn, _, h => by simpa only [RD] using h
  | .nilptr, _, h => by simpa only [RD] using h
  | .nilif, _, h => by simpa only [RD] using h
  | .sl rows, v, h => by
    simp only [RD] at h ⊢
    obtain ⟨base, cap, h1, h2, h3, h4⟩ := h
    refine ⟨base, cap, h1, h2, h3, ?_⟩
    rcases h4 with h4 | ⟨b, o, s, h5, h6, h7⟩
    · exact .inl h4
    · exact .inr ⟨b, o, s, h5, h6, RDrows.grow g rows h7⟩
  | .fn f ones caps, v, h => by
    simp only [RD] at h ⊢
    obtain ⟨cs, h1, h2⟩ := h
    exact ⟨cs, h1, RDcaps.grow g caps h2⟩
  | .ifc t one row, v, h => by
    simp only [RD] at h ⊢
    obtain ⟨x, vs, h1, h2, h3⟩ := h
    exact ⟨x, vs, h1, RDlist.grow g row h2, h3⟩
  | .ro row off, v, h => by
    simp only [RD] at h ⊢
    obtain ⟨b, o, h1, h2⟩ := h
    exact ⟨b, o, h1, RDcells.grow g row h2⟩
theorem RDrows.grow (g : Grows w ω w' ω') : ∀ (rows : List (List Cell)) {b s o : Nat}, RDrows w ω b s o rows → RDrows w' ω' b s o rows
  | [], _, _, _, _ => by simp [RDrows]
  | r :: rs, b, s, o, h => by
    simp only [RDrows] at h ⊢
    exact ⟨h.1, RDcells.grow g r h.2.1, RDrows.grow g rs h.2.2⟩
theorem RDcells.grow (g : Grows w ω w' ω') : ∀ (cs : List Cell) {b o : Nat}, RDcells w ω b o cs → RDcells w' ω' b o cs
  | [], _, _, _ => by simp [RDcells]
  | c :: cs, b, o, h => by
    simp only [RDcells] at h ⊢
    obtain ⟨⟨h1, v, h2, h3⟩, h4⟩ := h
    have := g.pub b o h1 v h2
    exact ⟨⟨this.2, v, this.1, RD.grow g c h3⟩, RDcells.grow g cs h4⟩
theorem RDcaps.grow (g : Grows w ω w' ω') : ∀ (caps : List (List Cell)) {ones : List Bool} {vs : List Value}, RDcaps w ω ones caps vs → RDcaps w' ω' ones caps vs
  | [], ones, vs, h => by cases ones <;> cases vs <;> simp_all [RDcaps]
  | r :: rs, ones, vs, h => by
    cases ones with
    | nil => simp [RDcaps] at h
    | cons o os => cases vs with
      | nil => simp [RDcaps] at h
      | cons v vs =>
        simp only [RDcaps] at h ⊢
        obtain ⟨⟨xs, h1, h2⟩, h3⟩ := h
        exact ⟨⟨xs, RDlist.grow g r h1, h2⟩, RDcaps.grow g rs h3⟩
theorem RDlist.grow (g : Grows w ω w' ω') : ∀ (cs : List Cell) {vs : List Value}, RDlist w ω cs vs → RDlist w' ω' cs vs
  | [], vs, h => by cases vs <;> simp_all [RDlist]
  | c :: cs, vs, h => by
    cases vs with
    | nil => simp [RDlist] at h
    | cons v vs =>
      simp only [RDlist] at h ⊢
      exact ⟨RD.grow g c h.1, RDlist.grow g cs h.2⟩
end
end

/- ## A frame's values and objects -/

/-- The slice value of the whole array k. -/
def ArrV (w : World) (β : Nat → Option Nat) (k s n : Nat) (v : Value) : Prop :=
  (∃ b cap cur t, β k = some b ∧ v = .slice (some ⟨b, 0, none⟩) n cap ∧ w.heap[b]? = some (.cells cur t (0, 0)) ∧ cur.size = cap * s) ∨
  (β k = none ∧ n = 0 ∧ ∃ base, v = .slice base 0 0)

def VwV (w : World) (β : Nat → Option Nat) (k s lo n : Nat) (v : Value) : Prop :=
  (n = 0 ∧ ∃ base cap, v = .slice base 0 cap ∧ cap ≤ maxRows) ∨
  (∃ b cap cur t, β k = some b ∧ v = .slice (some ⟨b, lo * s, none⟩) n cap ∧ n ≤ cap ∧ cap ≤ maxRows ∧ w.heap[b]? = some (.cells cur t (0, 0)) ∧ (lo + cap) * s ≤ cur.size)

def isSlice (v : Value) : Prop := ∃ base n cap, v = .slice base n cap
def isPtr (v : Value) : Prop := ∃ p, v = .pointer p

mutual
def RW (w : World) (ω : Nat → Nat) (β : Nat → Option Nat) (L : Nat → Option Obj) : W → Value → Prop
  | .c x, v => RD w ω x v
  | .nil, v => v = .slice none 0 0
  | .full rows, v => RD w ω (.sl rows) v ∧ ∃ base n, v = .slice base n n
  | .arr k n, v => ∃ s rows p, L k = some (.arr s rows p) ∧ n ≤ rows.length ∧ isSlice v ∧ (n = rows.length → ArrV w β k s n v)
  | .vw k N lo n, v => ∃ s rows p, L k = some (.arr s rows p) ∧ N ≤ rows.length ∧ isSlice v ∧ (N = rows.length → lo + n ≤ N → VwV w β k s lo n v)
  | .ptr k off, v => ∃ cells b, L k = some (.box cells) ∧ β k = some b ∧ v = .pointer (some ⟨b, off, none⟩)
  | .el k N i off, v => ∃ s rows p, L k = some (.arr s rows p) ∧ N ≤ rows.length ∧ isPtr v ∧
      (N = rows.length → i < N → ∃ b, β k = some b ∧ v = .pointer (some ⟨b, i * s + off, none⟩))
  | .clo f ones caps, v => ∃ cs : Array Value, v = .func (.func f) #[] cs ∧ RWcaps w ω β L ones caps cs.toList
  | .ifw t one row, v => ∃ x vs, v = .iface t x ∧ RWlist w ω β L row vs ∧ packs one vs x
  | .sk, v => v = undef
  | .un, _ => True
def RWcaps (w : World) (ω : Nat → Nat) (β : Nat → Option Nat) (L : Nat → Option Obj) : List Bool → List (List W) → List Value → Prop
  | [], [], [] => True
  | o :: os, r :: rs, v :: vs => (∃ xs, RWlist w ω β L r xs ∧ packs o xs v) ∧ RWcaps w ω β L os rs vs
  | _, _, _ => False
def RWlist (w : World) (ω : Nat → Nat) (β : Nat → Option Nat) (L : Nat → Option Obj) : List W → List Value → Prop
  | [], [] => True
  | x :: xs, v :: vs => RW w ω β L x v ∧ RWlist w ω β L xs vs
  | _, _ => False
end

def RV1 (w : World) (ω : Nat → Nat) (β : Nat → Option Nat) (L : Nat → Option Obj) : V → Value → Prop
  | .sc x, v => RW w ω β L x v
  | .ag cs, v => ∃ a : Array Value, v = .agg a ∧ RWlist w ω β L cs a.toList
  | .tu _, _ => False

def RVs (w : World) (ω : Nat → Nat) (β : Nat → Option Nat) (L : Nat → Option Obj) : List V → List Value → Prop
  | [], [] => True
  | x :: xs, v :: vs => RV1 w ω β L x v ∧ RVs w ω β L xs vs
  | _, _ => False

def RV (w : World) (ω : Nat → Nat) (β : Nat → Option Nat) (L : Nat → Option Obj) : V → Value → Prop
  | .tu l, v => ∃ a : Array Value, v = .tuple a ∧ RVs w ω β L l a.toList
  | x, v => RV1 w ω β L x v

def ObjOk (w : World) (ω : Nat → Nat) (β : Nat → Option Nat) (L : Nat → Option Obj) (k : Nat) : Obj → Prop
  | .box cells => ∃ b cs t, β k = some b ∧ w.heap[b]? = some (.cells cs t (0, 0)) ∧ RWlist w ω β L cells cs.toList ∧ ω b = 0
  | .arr s rows p => 0 < s ∧ (∀ r ∈ rows, r.length = s) ∧ p ≤ rows.length ∧
      ((∃ b cap cur t, β k = some b ∧ w.heap[b]? = some (.cells cur t (0, 0)) ∧ cur.size = cap * s ∧ rows.length ≤ cap ∧ cap ≤ maxRows ∧
          RWlist w ω β L rows.flatten (cur.toList.take (rows.length * s)) ∧ ω b = p * s) ∨
       (β k = none ∧ rows = []))

/-- What a frame has not been handed stays as it was. -/
structure Keeps (w : World) (ω : Nat → Nat) (S : Nat → Prop) (w' : World) (ω' : Nat → Nat) : Prop where
  grows : Grows w ω w' ω'
  size : w.heap.size ≤ w'.heap.size
  same : ∀ b, b < w.heap.size → ¬ S b → w'.heap[b]? = w.heap[b]? ∧ ω' b = ω b
  os : w'.os = w.os
  tape : w'.tape = w.tape
  output : w'.output = w.output

theorem Keeps.refl (w : World) (ω : Nat → Nat) (S : Nat → Prop) : Keeps w ω S w ω :=
  ⟨Grows.refl w ω, Nat.le_refl _, fun _ _ _ => ⟨rfl, rfl⟩, rfl, rfl, rfl⟩

theorem Keeps.step {w w' w'' : World} {ω ω' ω'' : Nat → Nat} {S : Nat → Prop} (h : Keeps w ω S w' ω') (g : Grows w' ω' w'' ω'') (hs : w'.heap.size ≤ w''.heap.size)
    (hb : ∀ b, b < w.heap.size → ¬ S b → w''.heap[b]? = w'.heap[b]? ∧ ω'' b = ω' b) (hos : w''.os = w'.os) (htp : w''.tape = w'.tape) (hout : w''.output = w'.output) : Keeps w ω S w'' ω'' :=
  ⟨h.grows.trans g, Nat.le_trans h.size hs, fun b hb' hs' =>
    let ⟨h1, h2⟩ := h.same b hb' hs'
    let ⟨h3, h4⟩ := hb b hb' hs'
    ⟨h3.trans h1, h4.trans h2⟩, hos.trans h.os, htp.trans h.tape, hout.trans h.output⟩

theorem Keeps.trans {w w' w'' : World} {ω ω' ω'' : Nat → Nat} {S : Nat → Prop} (h : Keeps w ω S w' ω') (h' : Keeps w' ω' S w'' ω'') : Keeps w ω S w'' ω'' :=
  ⟨h.grows.trans h'.grows, Nat.le_trans h.size h'.size, fun b hb hs =>
    let ⟨h1, h2⟩ := h.same b hb hs
    let ⟨h3, h4⟩ := h'.same b (Nat.lt_of_lt_of_le hb h.size) hs
    ⟨h3.trans h1, h4.trans h2⟩, h'.os.trans h.os, h'.tape.trans h.tape, h'.output.trans h.output⟩

/-- What may become of an object that values refer to. -/
def Tr (w : World) (β : Nat → Option Nat) (w' : World) (β' : Nat → Option Nat) (L L' : Nat → Option Obj) (k : Nat) : Prop :=
  match L k with
  | none => True
  | some (.box cs) => (∃ cs', L' k = some (.box cs') ∧ cs'.length = cs.length) ∧ β' k = β k
  | some (.arr s rows _) => ∃ rows' p', L' k = some (.arr s rows' p') ∧ rows.length ≤ rows'.length ∧
      (rows.length = rows'.length → β' k = β k ∧ ∀ b cur t, β k = some b → w.heap[b]? = some (.cells cur t (0, 0)) → ∃ cur', w'.heap[b]? = some (.cells cur' t (0, 0)) ∧ cur'.size = cur.size)

/-- What a frame owes beyond its values: the blocks it may write, and what it keeps of the objects that it was handed. -/
structure Fr where
  S : Nat → Prop
  kept : Nat → Prop
  J : World → (Nat → Option Nat) → (Nat → Option Obj) → Prop
  closed : ∀ w β L w' β' L', J w β L → (∀ k, kept k → Tr w β w' β' L L' k) → J w' β' L'

/-- A frame: its variables E, its objects L, at memory w. -/
structure Rel (GL : Nat → List Cell) (N : Nat) (w0 : World) (ω0 : Nat → Nat) (S : Fr) (E : Nat → Option V) (L : Nat → Option Obj) (a : Act) (w : World) (ω : Nat → Nat) (β : Nat → Option Nat) : Prop where
  size : a.tmps.size = N
  defers : a.defers = []
  env : ∀ t v, E t = some v → t < N ∧ RV w ω β L v (a.tmps.getD t undef)
  obj : ∀ k o, L k = some o → ObjOk w ω β L k o
  inj : ∀ j k b, L j ≠ none → L k ≠ none → β j = some b → β k = some b → j = k
  keeps : Keeps w0 ω0 S.S w ω
  mine : ∀ k b, L k ≠ none → β k = some b → S.S b ∨ w0.heap.size ≤ b
  gl : ∀ g, RDcells w ω g 0 (GL g)
  inv : S.J w β L

/- ## Steps of the memory under which values keep their meaning -/

section
variable {w w' : World} {ω ω' : Nat → Nat} {β β' : Nat → Option Nat} {L L' : Nat → Option Obj}

theorem ArrV.step {k s n : Nat} {v : Value} (h : ArrV w β k s n v)
    (hb : β' k = β k ∧ ∀ b cur t, β k = some b → w.heap[b]? = some (.cells cur t (0, 0)) → ∃ cur', w'.heap[b]? = some (.cells cur' t (0, 0)) ∧ cur'.size = cur.size) :
    ArrV w' β' k s n v := by
  obtain ⟨hb1, hb2⟩ := hb
  rcases h with ⟨b, cap, cur, t, h1, h2, h3, h4⟩ | ⟨h1, h2, h3⟩
  · obtain ⟨cur', h5, h6⟩ := hb2 b cur t h1 h3
    exact .inl ⟨b, cap, cur', t, hb1.trans h1, h2, h5, h6.trans h4⟩
  · exact .inr ⟨hb1.trans h1, h2, h3⟩

theorem VwV.step {k s lo n : Nat} {v : Value} (h : VwV w β k s lo n v)
    (hb : β' k = β k ∧ ∀ b cur t, β k = some b → w.heap[b]? = some (.cells cur t (0, 0)) → ∃ cur', w'.heap[b]? = some (.cells cur' t (0, 0)) ∧ cur'.size = cur.size) :
    VwV w' β' k s lo n v := by
  obtain ⟨hb1, hb2⟩ := hb
  rcases h with h | ⟨b, cap, cur, t, h1, h2, h3, h4, h5, h6⟩
  · exact .inl h
  · obtain ⟨cur', h7, h8⟩ := hb2 b cur t h1 h5
    exact .inr ⟨b, cap, cur', t, hb1.trans h1, h2, h3, h4, h7, by rw [h8]; exact h6⟩

mutual
theorem RW.step (g : Grows w ω w' ω') (tr : ∀ k, Tr w β w' β' L L' k) : ∀ (x : W) {v : Value}, RW w ω β L x v → RW w' ω' β' L' x v
  | .c x, v, h => by simp only [RW] at h ⊢; exact h.grow g
  | .nil, v, h => by simpa only [RW] using h
  | .sk, v, h => by simpa only [RW] using h
  | .un, v, h => by simp only [RW]
  | .full rows, v, h => by simp only [RW] at h ⊢; exact ⟨h.1.grow g, h.2⟩
  | .ptr k off, v, h => by
    simp only [RW] at h ⊢
    obtain ⟨cells, b, h1, h2, h3⟩ := h
    have ht := tr k
    simp only [Tr, h1] at ht
    obtain ⟨⟨cs', h4, h5⟩, h6⟩ := ht
    exact ⟨cs', b, h4, h6.trans h2, h3⟩
  | .arr k n, v, h => by
    simp only [RW] at h ⊢
    obtain ⟨s, rows, p, h1, h2, h0, h3⟩ := h
    have ht := tr k
    simp only [Tr, h1] at ht
    obtain ⟨rows', p', h4, h5, h6⟩ := ht
    refine ⟨s, rows', p', h4, Nat.le_trans h2 h5, h0, fun hn => ?_⟩
    have e : rows.length = rows'.length := by omega
    exact ArrV.step (h3 (by omega)) (h6 e)
  | .vw k N lo n, v, h => by
    simp only [RW] at h ⊢
    obtain ⟨s, rows, p, h1, h2, h0, h3⟩ := h
    have ht := tr k
    simp only [Tr, h1] at ht
    obtain ⟨rows', p', h4, h5, h6⟩ := ht
    refine ⟨s, rows', p', h4, Nat.le_trans h2 h5, h0, fun hn hl => ?_⟩
    have e : rows.length = rows'.length := by omega
    exact VwV.step (h3 (by omega) hl) (h6 e)
  | .el k N i off, v, h => by
    simp only [RW] at h ⊢
    obtain ⟨s, rows, p, h1, h2, h0, h3⟩ := h
    have ht := tr k
    simp only [Tr, h1] at ht
    obtain ⟨rows', p', h4, h5, h6⟩ := ht
    refine ⟨s, rows', p', h4, Nat.le_trans h2 h5, h0, fun hn hl => ?_⟩
    have e : rows.length = rows'.length := by omega
    obtain ⟨b, h7, h8⟩ := h3 (by omega) hl
    exact ⟨b, (h6 e).1.trans h7, h8⟩
  | .clo f ones caps, v, h => by
    simp only [RW] at h ⊢
    obtain ⟨cs, h1, h2⟩ := h
    exact ⟨cs, h1, RWcaps.step g tr caps h2⟩
  | .ifw t one row, v, h => by
    simp only [RW] at h ⊢
    obtain ⟨x, vs, h1, h2, h3⟩ := h
    exact ⟨x, vs, h1, RWlist.step g tr row h2, h3⟩
theorem RWcaps.step (g : Grows w ω w' ω') (tr : ∀ k, Tr w β w' β' L L' k) : ∀ (caps : List (List W)) {ones : List Bool} {vs : List Value}, RWcaps w ω β L ones caps vs → RWcaps w' ω' β' L' ones caps vs
  | [], ones, vs, h => by cases ones <;> cases vs <;> simp_all [RWcaps]
  | r :: rs, ones, vs, h => by
    cases ones with
    | nil => simp [RWcaps] at h
    | cons o os => cases vs with
      | nil => simp [RWcaps] at h
      | cons v vs =>
        simp only [RWcaps] at h ⊢
        obtain ⟨⟨xs, h1, h2⟩, h3⟩ := h
        exact ⟨⟨xs, RWlist.step g tr r h1, h2⟩, RWcaps.step g tr rs h3⟩
theorem RWlist.step (g : Grows w ω w' ω') (tr : ∀ k, Tr w β w' β' L L' k) : ∀ (xs : List W) {vs : List Value}, RWlist w ω β L xs vs → RWlist w' ω' β' L' xs vs
  | [], vs, h => by cases vs <;> simp_all [RWlist]
  | x :: xs, vs, h => by
    cases vs with
    | nil => simp [RWlist] at h
    | cons v vs =>
      simp only [RWlist] at h ⊢
      exact ⟨RW.step g tr x h.1, RWlist.step g tr xs h.2⟩
end

theorem RV1.step (g : Grows w ω w' ω') (tr : ∀ k, Tr w β w' β' L L' k) {x : V} {v : Value} (h : RV1 w ω β L x v) : RV1 w' ω' β' L' x v := by
  cases x with
  | sc x => exact RW.step g tr x h
  | ag cs => obtain ⟨a, h1, h2⟩ := h; exact ⟨a, h1, RWlist.step g tr cs h2⟩
  | tu l => exact h.elim

theorem RVs.step (g : Grows w ω w' ω') (tr : ∀ k, Tr w β w' β' L L' k) : ∀ {xs : List V} {vs : List Value}, RVs w ω β L xs vs → RVs w' ω' β' L' xs vs
  | [], [], _ => trivial
  | [], _ :: _, h => h.elim
  | _ :: _, [], h => h.elim
  | _ :: _, _ :: _, h => ⟨h.1.step g tr, RVs.step g tr h.2⟩

theorem RV.step (g : Grows w ω w' ω') (tr : ∀ k, Tr w β w' β' L L' k) {x : V} {v : Value} (h : RV w ω β L x v) : RV w' ω' β' L' x v := by
  cases x with
  | tu l => obtain ⟨a, h1, h2⟩ := h; exact ⟨a, h1, h2.step g tr⟩
  | sc x => exact RV1.step (x := .sc x) g tr h
  | ag x => exact RV1.step (x := .ag x) g tr h

/-- An object that is not touched keeps its meaning. -/
theorem ObjOk.step (g : Grows w ω w' ω') (tr : ∀ k, Tr w β w' β' L L' k) {k : Nat} {o : Obj} (h : ObjOk w ω β L k o) (hβ : β' k = β k)
    (hb : ∀ b, β k = some b → w'.heap[b]? = w.heap[b]? ∧ ω' b = ω b) : ObjOk w' ω' β' L' k o := by
  cases o with
  | box cells =>
    obtain ⟨b, cs, t, h1, h2, h3, h4⟩ := h
    obtain ⟨h5, h6⟩ := hb b h1
    exact ⟨b, cs, t, hβ.trans h1, h5.trans h2, RWlist.step g tr cells h3, h6.trans h4⟩
  | arr s rows p =>
    obtain ⟨h1, h2, h3, h4⟩ := h
    refine ⟨h1, h2, h3, ?_⟩
    rcases h4 with ⟨b, cap, cur, t, h4, h5, h6, h7, h8, h9, h10⟩ | ⟨h4, h5⟩
    · obtain ⟨h11, h12⟩ := hb b h4
      exact .inl ⟨b, cap, cur, t, hβ.trans h4, h11.trans h5, h6, h7, h8, RWlist.step g tr _ h9, h12.trans h10⟩
    · exact .inr ⟨hβ.trans h4, h5⟩
end

theorem Tr.trans {w w' w'' : World} {β β' β'' : Nat → Option Nat} {L L' L'' : Nat → Option Obj} {k : Nat} (h : Tr w β w' β' L L' k) (h' : Tr w' β' w'' β'' L' L'' k) : Tr w β w'' β'' L L'' k := by
  unfold Tr at h ⊢
  cases hL : L k with
  | none => trivial
  | some o =>
    rw [hL] at h
    cases o with
    | box cs =>
      obtain ⟨⟨cs', h1, h2⟩, h3⟩ := h
      unfold Tr at h'
      rw [h1] at h'
      obtain ⟨⟨cs'', h4, h5⟩, h6⟩ := h'
      exact ⟨⟨cs'', h4, h5.trans h2⟩, h6.trans h3⟩
    | arr s rows p =>
      obtain ⟨rows', p', h1, h2, h3⟩ := h
      unfold Tr at h'
      rw [h1] at h'
      obtain ⟨rows'', p'', h4, h5, h6⟩ := h'
      refine ⟨rows'', p'', h4, Nat.le_trans h2 h5, fun e => ?_⟩
      obtain ⟨h7, h8⟩ := h3 (by omega)
      obtain ⟨h9, h10⟩ := h6 (by omega)
      refine ⟨h9.trans h7, fun b cur t hb hc => ?_⟩
      obtain ⟨cur', h11, h12⟩ := h8 b cur t hb hc
      obtain ⟨cur'', h13, h14⟩ := h10 b cur' t (h7.trans hb) h11
      exact ⟨cur'', h13, h14.trans h12⟩

/-- One step of a frame's memory: the objects in C are changed, made or left; all else stays. -/
theorem Rel.step {GL : Nat → List Cell} {N : Nat} {w0 : World} {ω0 : Nat → Nat} {S : Fr} {E : Nat → Option V} {L : Nat → Option Obj} {a : Act} {w : World} {ω : Nat → Nat} {β : Nat → Option Nat}
    (h : Rel GL N w0 ω0 S E L a w ω β) (C : Nat → Prop) {w' : World} {ω' : Nat → Nat} {β' : Nat → Option Nat} {L' : Nat → Option Obj}
    (g : Grows w ω w' ω') (hsz : w.heap.size ≤ w'.heap.size) (hos : w'.os = w.os) (htp : w'.tape = w.tape) (hout : w'.output = w.output)
    (hold : ∀ b, b < w.heap.size → (∀ k, C k → L k ≠ none → β k ≠ some b) → w'.heap[b]? = w.heap[b]? ∧ ω' b = ω b)
    (hsame : ∀ k, ¬ C k → L' k = L k ∧ (L k ≠ none → β' k = β k))
    (htr : ∀ k, C k → Tr w β w' β' L L' k)
    (hobj : (∀ k, Tr w β w' β' L L' k) → ∀ k, C k → ∀ o, L' k = some o → ObjOk w' ω' β' L' k o)
    (hblk : ∀ k, C k → ∀ b, L' k ≠ none → β' k = some b → (∃ j, C j ∧ L j ≠ none ∧ β j = some b) ∨ w.heap.size ≤ b)
    (hinj : ∀ j k b, C j → C k → L' j ≠ none → L' k ≠ none → β' j = some b → β' k = some b → j = k) :
    Rel GL N w0 ω0 S E L' a w' ω' β' ∧ ∀ k, Tr w β w' β' L L' k := by
  have blt : ∀ k b, L k ≠ none → β k = some b → b < w.heap.size := by
    intro k b hk hb
    cases hL : L k with
    | none => exact absurd hL hk
    | some o =>
      have ho := h.obj k o hL
      cases o with
      | box cells =>
        obtain ⟨b', cs, t, h1, h2, _⟩ := ho
        have : b' = b := by rw [hb] at h1; exact (Option.some.inj h1).symm
        subst this
        exact (Array.getElem?_eq_some_iff.1 h2).1
      | arr s rows p =>
        obtain ⟨_, _, _, h4⟩ := ho
        rcases h4 with ⟨b', cap, cur, t, h1, h2, _⟩ | ⟨h1, _⟩
        · have : b' = b := by rw [hb] at h1; exact (Option.some.inj h1).symm
          subst this
          exact (Array.getElem?_eq_some_iff.1 h2).1
        · rw [hb] at h1; cases h1
  -- blocks of what is not touched are not touched
  have hother : ∀ k b, ¬ C k → L k ≠ none → β k = some b → w'.heap[b]? = w.heap[b]? ∧ ω' b = ω b := by
    intro k b hC hk hb
    refine hold b (blt k b hk hb) fun j hj hLj e => ?_
    have := h.inj j k b hLj hk e hb
    subst this
    exact hC hj
  have tr : ∀ k, Tr w β w' β' L L' k := by
    intro k
    by_cases hC : C k
    · exact htr k hC
    · obtain ⟨h1, h2⟩ := hsame k hC
      unfold Tr
      cases hL : L k with
      | none => trivial
      | some o =>
        have h2' := h2 (by simp [hL])
        cases o with
        | box cs => exact ⟨⟨cs, h1.trans hL, rfl⟩, h2'⟩
        | arr s rows p =>
          refine ⟨rows, p, h1.trans hL, Nat.le_refl _, fun _ => ⟨h2', fun b cur t hb hc => ?_⟩⟩
          exact ⟨cur, (hother k b hC (by simp [hL]) hb).1.trans hc, rfl⟩
  refine ⟨⟨h.size, h.defers, fun t v ht => ⟨(h.env t v ht).1, (h.env t v ht).2.step g tr⟩, ?_, ?_, ?_, ?_, fun b => (h.gl b).grow g, S.closed _ _ _ _ _ _ h.inv fun k _ => tr k⟩, tr⟩
  · intro k o hk
    by_cases hC : C k
    · exact hobj tr k hC o hk
    · obtain ⟨h1, h2⟩ := hsame k hC
      rw [h1] at hk
      have hn : L k ≠ none := by simp [hk]
      exact (h.obj k o hk).step g tr (h2 hn) fun b hb => hother k b hC hn hb
  · intro j k b hj hk hbj hbk
    by_cases hCj : C j <;> by_cases hCk : C k
    · exact hinj j k b hCj hCk hj hk hbj hbk
    · obtain ⟨h1, h2⟩ := hsame k hCk
      rw [h1] at hk
      rw [h2 hk] at hbk
      rcases hblk j hCj b hj hbj with ⟨i, h5, h3, h4⟩ | h3
      · have := h.inj i k b h3 hk h4 hbk
        subst this
        exact absurd h5 hCk
      · exact absurd (blt k b hk hbk) (by omega)
    · obtain ⟨h1, h2⟩ := hsame j hCj
      rw [h1] at hj
      rw [h2 hj] at hbj
      rcases hblk k hCk b hk hbk with ⟨i, h5, h3, h4⟩ | h3
      · have := h.inj j i b hj h3 hbj h4
        subst this
        exact absurd h5 hCj
      · exact absurd (blt j b hj hbj) (by omega)
    · obtain ⟨h1, h2⟩ := hsame j hCj
      obtain ⟨h3, h4⟩ := hsame k hCk
      rw [h1] at hj
      rw [h3] at hk
      rw [h2 hj] at hbj
      rw [h4 hk] at hbk
      exact h.inj j k b hj hk hbj hbk
  · refine h.keeps.step g hsz (fun b hb hs => ?_) hos htp hout
    refine hold b (Nat.lt_of_lt_of_le hb h.keeps.size) fun k hC hk hbk => ?_
    rcases h.mine k b hk hbk with h1 | h1
    · exact hs h1
    · omega
  · intro k b hk hb
    by_cases hC : C k
    · rcases hblk k hC b hk hb with ⟨i, _, h1, h2⟩ | h1
      · exact h.mine i b h1 h2
      · exact .inr (Nat.le_trans h.keeps.size h1)
    · obtain ⟨h1, h2⟩ := hsame k hC
      rw [h1] at hk
      rw [h2 hk] at hb
      exact h.mine k b hk hb

end Go.Vs
