/- The value semantics, 15: when an operation stands for one of the model's, and that it then does what the model does. -/
import Derived.Test.YtogldkeabdgjgaaVs14
namespace Go.Vs
open Go

def tyOk (P : Program) (t : TypeId) (n : Nat) : Bool := (P.underlying t).isSome && (match P.info? t with | some i => i.size == n | none => false)

def mPlace (P : Program) (t : TypeId) (parts : List (Nat × Operand)) (ps : List (Nat × Nat × Opd)) : Bool :=
  match P.underlying t with
  | some (.struct fs) => (match placesOf P fs with | some l => mParts (fun j => l[j]?) parts ps | none => false)
  | some (.array _ e) => (match P.info? e with | some ie => mParts (fun j => some (j * ie.size, ie.size)) parts ps | none => false)
  | _ => false

def sliceElem (P : Program) (t : TypeId) : Option TypeId := match P.underlying t with
  | some (.slice e) => some e
  | _ => none

/-- Everything but calls of functions. -/
def mOp (P : Program) (op : Op) : VOp → Bool
  | .mv x => match op with | .move y => mOpd y x | .assign y => mOpd y x | _ => false
  | .pick c x y => match op with | .pick c' x' y' => mOpd c' c && mOpd x' x && mOpd y' y | _ => false
  | .bin b tag x y => match op with | .binOp b' t x' y' _ => b == b' && mOpd x' x && mOpd y' y && mTag P t y' tag | _ => false
  | .un b x => match op with | .unOp b' _ x' => b == b' && mOpd x' x | _ => false
  | .new cells own => match op with
    | .alloc t => (match P.info? t with | some i => (match i.zero with | some z => cvList z.cells.toList cells | none => false) | none => false) && own.all (fun p => Nat.blt 0 p.2)
    | _ => false
  | .box x => match op with | .box _ x' => mOpd x' x | _ => false
  | .build zero ps => match op with
    | .build t parts => (match P.info? t with | some i => (match i.zero with | some z => cvList z.cells.toList zero | none => false) | none => false) && mPlace P t parts.toList ps
    | _ => false
  | .mkSl s xs => match op with
    | .buildSlice t len parts => (match sliceElem P t with
      | some e => (match P.info? e with | some i => i.size == s && i.zero.isSome | none => false)
      | none => false) && Nat.blt 0 s && Nat.ble (len * s) (2 ^ 24) && mRow 0 parts.toList xs && xs.length == len
    | _ => false
  | .load ag n x => match op with | .load t x' => mOpd x' x && tyOk P t n && isAggB P t == ag | _ => false
  | .store n x y own => match op with | .store t x' y' => mOpd x' x && mOpd y' y && tyOk P t n && own.all (fun p => Nat.blt 0 p.2) | _ => false
  | .fld off x => match op with
    | .fieldAddr t x' f => mOpd x' x && (match P.underlying t with
      | some (.struct fs) => (match fs[f]? with | some fd => fd.offset == off && (match P.info? fd.type with | some i => i.size != 0 | none => false) | none => false)
      | _ => false)
    | _ => false
  | .part ag off n x => match op with
    | .field t x' f => mOpd x' x && (match P.underlying t with
      | some (.struct fs) => (match fs[f]? with | some fd => fd.offset == off && tyOk P fd.type n && isAggB P fd.type == ag | none => false)
      | _ => false)
    | _ => false
  | .idxA s x i => match op with
    | .indexAddr t x' i' => mOpd x' x && mOpd i' i && (match sliceElem P t with | some e => (match P.info? e with | some q => q.size == s | none => false) | none => false)
    | _ => false
  | .idxAA s len x i => match op with
    | .indexAddr t x' i' => mOpd x' x && mOpd i' i && (match P.underlying t with | some (.array len' e) => len' == len && (match P.info? e with | some q => q.size == s | none => false) | _ => false)
    | _ => false
  | .idxS x i => match op with
    | .index t x' i' => mOpd x' x && mOpd i' i && (match P.underlying t with | some .string => true | _ => false)
    | _ => false
  | .slS x lo hi => match op with
    | .slice t x' lo' hi' none => mOpd x' x && mOpt lo' lo && mOpt hi' hi && (match P.underlying t with | some .string => true | _ => false)
    | _ => false
  | .sl s x lo hi mx => match op with
    | .slice t x' lo' hi' mx' => mOpd x' x && mOpt lo' lo && mOpt hi' hi && mOpt mx' mx && (!mx'.isSome || hi'.isSome) && (match sliceElem P t with | some e => (match P.info? e with | some q => q.size == s | none => false) | none => false)
    | _ => false
  | .len str x => match op with
    | .call { callee := .builtin .len, args := ⟨[x']⟩, argTypes := ⟨[t]⟩ } => mOpd x' x && (match P.underlying t, str with | some .string, true => true | some (.slice _), false => true | _, _ => false)
    | _ => false
  | .mx x y => match op with
    | .call { callee := .builtin .max, args := ⟨[x', y']⟩, argTypes := _ } => mOpd x' x && mOpd y' y
    | _ => false
  | .mn x y => match op with
    | .call { callee := .builtin .min, args := ⟨[x', y']⟩, argTypes := _ } => mOpd x' x && mOpd y' y
    | _ => false
  | .app s bytes _ x y => match op with
    | .call { callee := .builtin .append, args := ⟨[x', y']⟩, argTypes := ⟨[t, u]⟩ } => mOpd x' x && mOpd y' y && t == u && Nat.blt 0 s && (match sliceElem P t with
      | some e => (match P.info? e with | some q => q.size == s && q.bytes == bytes && (match q.zero with | some z => z.cells.size == s | none => false) | none => false)
      | none => false)
    | _ => false
  | .mkS s bytes zero x => match op with
    | .makeSlice t x' y' => mOpd x' x && mOpd y' x && (match sliceElem P t with
      | some e => (match P.info? e with | some q => q.size == s && q.bytes == bytes && (match q.zero with | some z => z.cells.size == s && cvList z.cells.toList zero | none => false) | none => false)
      | none => false)
    | _ => false
  | .fn f xs => match op with
    | .makeFunc (.func g) ⟨[]⟩ ys => f == g && mAll ys.toList xs
    | _ => false
  | .call _ _ _ => false
  | .ext i x => match op with | .extract x' j => mOpd x' x && i == j | _ => false
  | .cvI k x => match op with
    | .convert src dst x' => mOpd x' x && (match P.underlying src with | some (.int _) => true | _ => false) && (match P.underlying dst with | some (.int k') => k == k' | _ => false)
    | _ => false
  | .ifc t x => match op with
    | .makeInterface t' x' => t == t' && mOpd x' x && (match P.underlying t with | some (.interface _) => false | some _ => true | none => false)
    | _ => false
  | .nn x => match op with | .nilCheck x' => mOpd x' x | _ => false

section
variable {P : Program} {C : Ctx} {N : Nat} {w0 : World} {ω0 : Nat → Nat} {S : Fr} {E : Nat → Option V} {L : Nat → Option Obj} {a : Act} {w : World} {ω : Nat → Nat} {β : Nat → Option Nat}
variable {o : Oper} {v : V}

theorem tyOk_ok {t : TypeId} {n : Nat} (h : tyOk P t n = true) : (P.underlying t).isSome = true ∧ ∃ i, P.info? t = some i ∧ i.size = n := by
  unfold tyOk at h
  simp only [Bool.and_eq_true] at h
  refine ⟨h.1, ?_⟩
  cases hi : P.info? t with
  | none => simp [hi] at h
  | some i => exact ⟨i, rfl, by simpa [hi] using h.2⟩

theorem sliceElem_ok {t e : TypeId} (h : sliceElem P t = some e) : P.underlying t = some (.slice e) := by
  unfold sliceElem at h
  split at h
  · rename_i e' hu; cases h; exact hu
  · cases h

theorem pos_of {own : List (Nat × Nat)} (h : own.all (fun p => Nat.blt 0 p.2) = true) : ∀ p ∈ own, 0 < p.2 := by
  intro p hp
  have := List.all_eq_true.1 h p hp
  exact Nat.le_of_ble_eq_true (show Nat.ble (0 + 1) p.2 = true from this)

theorem op_ok (r : Rel C.gl N w0 ω0 S E L a w ω β) {vop : VOp} {oid : Nat} (hm : mOp P o.op vop = true) {u : Upd} (h : exec1 C E L oid vop = some (v, u)) : Makes P C.gl N w0 ω0 S E L o a w v u := by
  cases vop with
  | mv x =>
    simp only [mOp] at hm
    simp only [exec1, Option.some.injEq, Prod.mk.injEq] at h
    obtain ⟨rfl, rfl⟩ := h
    split at hm
    · rename_i y ho; exact (gives_mv r (.inl ho) hm rfl).makes r
    · rename_i y ho; exact (gives_mv r (.inr ho) hm rfl).makes r
    · cases hm
  | pick c x y =>
    simp only [mOp] at hm
    split at hm
    · rename_i c' x' y' ho
      simp only [Bool.and_eq_true] at hm
      simp only [exec1] at h
      split at h
      · rename_i t ht
        simp only [Option.some.injEq, Prod.mk.injEq] at h
        obtain ⟨rfl, rfl⟩ := h
        exact (gives_pick r ho hm.1.1 hm.1.2 hm.2 ht rfl).makes r
      · cases h
    · cases hm
  | bin b tag x y =>
    simp only [mOp] at hm
    split at hm
    · rename_i b' t x' y' t' ho
      simp only [Bool.and_eq_true, beq_iff_eq] at hm
      obtain ⟨⟨⟨rfl, hx⟩, hy⟩, ht⟩ := hm
      simp only [exec1] at h
      split at h
      · rename_i p q hp hq
        cases hb : binW b tag p q with
        | none => simp [hb] at h
        | some c =>
          simp only [hb, Option.map_some, Option.some.injEq, Prod.mk.injEq] at h
          obtain ⟨rfl, rfl⟩ := h
          exact (gives_bin r ho hx hy ht hp hq hb rfl).makes r
      · cases h
    · cases hm
  | un b x =>
    simp only [mOp] at hm
    split at hm
    · rename_i b' t x' ho
      simp only [Bool.and_eq_true, beq_iff_eq] at hm
      obtain ⟨rfl, hx⟩ := hm
      simp only [exec1] at h
      split at h
      · rename_i p hp
        cases hb : unW b p with
        | none => simp [hb] at h
        | some c =>
          simp only [hb, Option.map_some, Option.some.injEq, Prod.mk.injEq] at h
          obtain ⟨rfl, rfl⟩ := h
          exact (gives_un r ho hx hp hb rfl).makes r
      · cases h
    · cases hm
  | new cells own =>
    simp only [mOp] at hm
    split at hm
    · rename_i t ho
      simp only [Bool.and_eq_true] at hm
      obtain ⟨h1, h2⟩ := hm
      split at h1
      · rename_i i hi
        split at h1
        · rename_i z hz
          exact makes_new r ho hi hz h1 (pos_of h2) h
        · cases h1
      · cases h1
    · cases hm
  | box x =>
    simp only [mOp] at hm
    split at hm
    · rename_i t x' ho; exact makes_box r ho hm h
    · cases hm
  | build zero ps =>
    simp only [mOp] at hm
    split at hm
    · rename_i t parts ho
      simp only [Bool.and_eq_true] at hm
      obtain ⟨h1, h2⟩ := hm
      split at h1
      · rename_i i hi
        split at h1
        · rename_i z hz
          simp only [exec1] at h
          split at h
          · cases h
          · rename_i qs hqs
            cases hf : fillW zero qs with
            | none => simp [hf] at h
            | some cs =>
              simp only [hf, Option.map_some, Option.some.injEq, Prod.mk.injEq] at h
              obtain ⟨rfl, rfl⟩ := h
              unfold mPlace at h2
              split at h2
              · rename_i fs hu
                split at h2
                · rename_i l hl
                  exact (gives_build r ho hi hz h1 (.inl ⟨fs, l, hu, hl, rfl⟩) h2 hqs hf rfl).makes r
                · cases h2
              · rename_i n e hu
                split at h2
                · rename_i ie hie
                  exact (gives_build r ho hi hz h1 (.inr ⟨n, e, ie, hu, hie, rfl⟩) h2 hqs hf rfl).makes r
                · cases h2
              · cases h2
        · cases h1
      · cases h1
    · cases hm
  | mkSl s xs =>
    simp only [mOp] at hm
    split at hm
    · rename_i t len parts ho
      simp only [Bool.and_eq_true, beq_iff_eq] at hm
      obtain ⟨⟨⟨⟨h1, h2⟩, h3⟩, h4⟩, h5⟩ := hm
      split at h1
      · rename_i e he
        split at h1
        · rename_i i hi
          simp only [Bool.and_eq_true, beq_iff_eq] at h1
          obtain ⟨rfl, hz⟩ := h1
          obtain ⟨z, hz⟩ := Option.isSome_iff_exists.1 hz
          exact makes_mkSl r ho (sliceElem_ok he) hi hz (Nat.le_of_ble_eq_true (show Nat.ble (0 + 1) i.size = true from h2)) (Nat.le_of_ble_eq_true h3) h4 h5 h
        · cases h1
      · cases h1
    · cases hm
  | load ag n x =>
    simp only [mOp] at hm
    split at hm
    · rename_i t x' ho
      simp only [Bool.and_eq_true, beq_iff_eq] at hm
      obtain ⟨⟨h1, h2⟩, rfl⟩ := hm
      obtain ⟨hu, i, hi, rfl⟩ := tyOk_ok h2
      obtain ⟨rfl, hg⟩ := gives_load r ho h1 hu hi (u := u) h
      exact hg.makes r
    · cases hm
  | store n x y own =>
    simp only [mOp] at hm
    split at hm
    · rename_i t x' y' ho
      simp only [Bool.and_eq_true] at hm
      obtain ⟨⟨⟨h1, h2⟩, h3⟩, h4⟩ := hm
      obtain ⟨hu, i, hi, rfl⟩ := tyOk_ok h3
      exact makes_store r ho h1 h2 hi (pos_of h4) h
    · cases hm
  | fld off x =>
    simp only [mOp] at hm
    split at hm
    · rename_i t x' f ho
      simp only [Bool.and_eq_true] at hm
      obtain ⟨h1, h2⟩ := hm
      split at h2
      · rename_i fs hu
        split at h2
        · rename_i fd hf
          simp only [Bool.and_eq_true, beq_iff_eq] at h2
          obtain ⟨rfl, h3⟩ := h2
          split at h3
          · rename_i i hi
            have hu0 : u = [] := by
              simp only [exec1] at h
              unfold onBy at h
              split at h
              · simp only [Option.some.injEq, Prod.mk.injEq] at h; exact h.2.symm
              · rename_i k M j q hv
                cases he : elOk L k M j with
                | false => simp [he] at h
                | true => simp only [he, cond_true, Option.some.injEq, Prod.mk.injEq] at h; exact h.2.symm
              · simp only [Option.some.injEq, Prod.mk.injEq] at h; exact h.2.symm
              · cases h
            subst hu0
            exact (gives_fld r ho h1 hu hf hi (by simpa using h3) h).makes r
          · cases h3
        · cases h2
      · cases h2
    · cases hm
  | part ag off n x =>
    simp only [mOp] at hm
    split at hm
    · rename_i t x' f ho
      simp only [Bool.and_eq_true] at hm
      obtain ⟨h1, h2⟩ := hm
      split at h2
      · rename_i fs hu
        split at h2
        · rename_i fd hf
          simp only [Bool.and_eq_true, beq_iff_eq] at h2
          obtain ⟨⟨rfl, h3⟩, rfl⟩ := h2
          obtain ⟨hu2, i, hi, rfl⟩ := tyOk_ok h3
          simp only [exec1] at h
          split at h
          · rename_i cs hcs
            split at h
            · rename_i ds hds
              cases hav : asV (isAggB P fd.type) ds with
              | none => simp [hav] at h
              | some v' =>
                simp only [hav, Option.map_some, Option.some.injEq, Prod.mk.injEq] at h
                obtain ⟨rfl, rfl⟩ := h
                exact (gives_part r ho h1 hu hf hu2 hi hcs hds hav).makes r
            · cases h
          · cases h
        · cases h2
      · cases h2
    · cases hm
  | idxA s x i =>
    simp only [mOp] at hm
    split at hm
    · rename_i t x' i' ho
      simp only [Bool.and_eq_true] at hm
      obtain ⟨⟨h1, h2⟩, h3⟩ := hm
      split at h3
      · rename_i e he
        split at h3
        · rename_i q hq
          have : q.size = s := by simpa using h3
          subst this
          obtain ⟨rfl, hg⟩ := gives_idxA r ho h1 h2 (sliceElem_ok he) hq (u := u) h
          exact hg.makes r
        · cases h3
      · cases h3
    · cases hm
  | idxAA s len x i =>
    simp only [mOp] at hm
    split at hm
    · rename_i t x' i' ho
      simp only [Bool.and_eq_true] at hm
      obtain ⟨⟨h1, h2⟩, h3⟩ := hm
      split at h3
      · rename_i len' e hu
        simp only [Bool.and_eq_true, beq_iff_eq] at h3
        obtain ⟨rfl, h3⟩ := h3
        split at h3
        · rename_i q hq
          have : q.size = s := by simpa using h3
          subst this
          simp only [exec1] at h
          split at h
          · cases h
          · rename_i j hj
            have hu0 : u = [] := by
              unfold onBy at h
              split at h
              · simp only [Option.some.injEq, Prod.mk.injEq] at h; exact h.2.symm
              · rename_i k M j q hv
                cases he : elOk L k M j with
                | false => simp [he] at h
                | true => simp only [he, cond_true, Option.some.injEq, Prod.mk.injEq] at h; exact h.2.symm
              · simp only [Option.some.injEq, Prod.mk.injEq] at h; exact h.2.symm
              · cases h
            subst hu0
            exact (gives_idxAA r ho h1 h2 hu hq hj h).makes r
        · cases h3
      · cases h3
    · cases hm
  | idxS x i =>
    simp only [mOp] at hm
    split at hm
    · rename_i t x' i' ho
      simp only [Bool.and_eq_true] at hm
      obtain ⟨⟨h1, h2⟩, h3⟩ := hm
      split at h3
      · rename_i hu
        simp only [exec1] at h
        split at h
        · rename_i s hs
          split at h
          · rename_i j hj
            cases hb : s[j]? with
            | none => simp [hb] at h
            | some b =>
              simp only [hb, Option.map_some, Option.some.injEq, Prod.mk.injEq] at h
              obtain ⟨rfl, rfl⟩ := h
              exact (gives_idxS r ho h1 h2 hu hs hj hb rfl).makes r
          · cases h
        · cases h
      · cases h3
    · cases hm
  | slS x lo hi =>
    simp only [mOp] at hm
    split at hm
    · rename_i t x' lo' hi' ho
      simp only [Bool.and_eq_true] at hm
      obtain ⟨⟨⟨h1, h2⟩, h3⟩, h4⟩ := hm
      split at h4
      · rename_i hu
        simp only [exec1] at h
        split at h
        · rename_i s hs
          split at h
          · cases h
          · rename_i hh hhh
            cases hl : boundOr (lo.map (·.val C E)) 0 hh with
            | none => simp [hl] at h
            | some l =>
              simp only [hl, Option.map_some, Option.some.injEq, Prod.mk.injEq] at h
              obtain ⟨rfl, rfl⟩ := h
              exact (gives_slS r ho h1 h2 h3 hu hs hhh hl rfl).makes r
        · cases h
      · cases h4
    · cases hm
  | sl s x lo hi mx =>
    simp only [mOp] at hm
    split at hm
    · rename_i t x' lo' hi' mx' ho
      simp only [Bool.and_eq_true] at hm
      obtain ⟨⟨⟨⟨⟨h1, h2⟩, h3⟩, h4⟩, h5⟩, h6⟩ := hm
      split at h6
      · rename_i e he
        split at h6
        · rename_i q hq
          have : q.size = s := by simpa using h6
          subst this
          obtain ⟨rfl, hg⟩ := gives_sl r ho h1 h2 h3 h4 (by intro hs; simpa [hs] using h5) (sliceElem_ok he) hq (u := u) h
          exact hg.makes r
        · cases h6
      · cases h6
    · cases hm
  | len str x =>
    simp only [mOp] at hm
    split at hm
    · rename_i x' t ho
      simp only [Bool.and_eq_true] at hm
      obtain ⟨h1, h2⟩ := hm
      simp only [exec1] at h
      cases hb : (isStr (x.val C E) == str) with
      | false => simp [hb] at h
      | true =>
        simp only [hb, cond_true] at h
        cases hn : lenV L (x.val C E) with
        | none => simp [hn] at h
        | some n =>
          rw [hn] at h
          cases h
          exact (gives_len r ho h1 h2 (by simpa using hb) hn rfl).makes r
    · cases hm
  | mx x y =>
    simp only [mOp] at hm
    split at hm
    · rename_i x' y' ts ho
      simp only [Bool.and_eq_true] at hm
      simp only [exec1] at h
      split at h
      · rename_i k p j q hp hq
        simp only [Option.some.injEq, Prod.mk.injEq] at h
        obtain ⟨rfl, rfl⟩ := h
        exact (gives_mx r (.inl rfl) ho hm.1 hm.2 hp hq (by simp)).makes r
      · cases h
    · cases hm
  | mn x y =>
    simp only [mOp] at hm
    split at hm
    · rename_i x' y' ts ho
      simp only [Bool.and_eq_true] at hm
      simp only [exec1] at h
      split at h
      · rename_i k p j q hp hq
        simp only [Option.some.injEq, Prod.mk.injEq] at h
        obtain ⟨rfl, rfl⟩ := h
        exact (gives_mx r (.inr rfl) ho hm.1 hm.2 hp hq (by simp)).makes r
      · cases h
    · cases hm
  | app s bytes mk x y =>
    simp only [mOp] at hm
    split at hm
    · rename_i x' y' t u' ho
      simp only [Bool.and_eq_true, beq_iff_eq] at hm
      obtain ⟨⟨⟨⟨h1, h2⟩, rfl⟩, h3⟩, h4⟩ := hm
      split at h4
      · rename_i e he
        split at h4
        · rename_i q hq
          simp only [Bool.and_eq_true, beq_iff_eq] at h4
          obtain ⟨⟨rfl, rfl⟩, h5⟩ := h4
          split at h5
          · rename_i z hz
            exact makes_app r ho h1 h2 (sliceElem_ok he) hq hz (by simpa using h5) (Nat.le_of_ble_eq_true (show Nat.ble (0 + 1) q.size = true from h3)) h
          · cases h5
        · cases h4
      · cases h4
    · cases hm
  | mkS s bytes zero x =>
    simp only [mOp] at hm
    split at hm
    · rename_i t x' y' ho
      simp only [Bool.and_eq_true] at hm
      obtain ⟨⟨h1, h2⟩, h4⟩ := hm
      split at h4
      · rename_i e he
        split at h4
        · rename_i q hq
          simp only [Bool.and_eq_true, beq_iff_eq] at h4
          obtain ⟨⟨rfl, rfl⟩, h5⟩ := h4
          split at h5
          · rename_i z hz
            simp only [Bool.and_eq_true, beq_iff_eq] at h5
            exact makes_mkS r ho h1 h2 (sliceElem_ok he) hq hz h5.2 h5.1 h
          · cases h5
        · cases h4
      · cases h4
    · cases hm
  | fn f xs =>
    simp only [mOp] at hm
    split at hm
    · rename_i g ys ho
      simp only [Bool.and_eq_true, beq_iff_eq] at hm
      obtain ⟨rfl, h1⟩ := hm
      obtain ⟨rfl, hg⟩ := gives_fn r ho h1 (u := u) h
      exact hg.makes r
    · cases hm
  | call f args own => simp [mOp] at hm
  | ext i x =>
    simp only [mOp] at hm
    split at hm
    · rename_i x' j ho
      simp only [Bool.and_eq_true, beq_iff_eq] at hm
      obtain ⟨h1, rfl⟩ := hm
      simp only [exec1] at h
      split at h
      · rename_i l hl
        cases hi : l[i]? with
        | none => simp [hi] at h
        | some v' =>
          simp only [hi, Option.map_some, Option.some.injEq, Prod.mk.injEq] at h
          obtain ⟨rfl, rfl⟩ := h
          exact (gives_ext r ho h1 hl hi).makes r
      · cases h
    · cases hm
  | cvI k x =>
    simp only [mOp] at hm
    split at hm
    · rename_i src dst x' ho
      simp only [Bool.and_eq_true] at hm
      obtain ⟨⟨h1, h2⟩, h3⟩ := hm
      split at h2
      · rename_i k0 hs
        split at h3
        · rename_i k' hd
          have : k = k' := by simpa using h3
          subst this
          simp only [exec1] at h
          split at h
          · rename_i j n hn
            simp only [Option.some.injEq, Prod.mk.injEq] at h
            obtain ⟨rfl, rfl⟩ := h
            exact (gives_cvI r ho h1 hs hd hn rfl).makes r
          · cases h
        · cases h3
      · cases h2
    · cases hm
  | ifc t x =>
    simp only [mOp] at hm
    split at hm
    · rename_i t' x' ho
      simp only [Bool.and_eq_true, beq_iff_eq] at hm
      obtain ⟨⟨rfl, h1⟩, h2⟩ := hm
      simp only [exec1] at h
      have hu0 : u = [] := by
        split at h
        · simp only [Option.some.injEq, Prod.mk.injEq] at h; exact h.2.symm
        · rename_i y _ _
          cases hn : notUn y with
          | false => simp [hn] at h
          | true => simp only [hn, cond_true, Option.some.injEq, Prod.mk.injEq] at h; exact h.2.symm
        · split at h <;> (simp only [Option.some.injEq, Prod.mk.injEq] at h; exact h.2.symm)
        · cases h
      subst hu0
      exact (gives_ifc r ho h1 h2 h).makes r
    · cases hm
  | nn x =>
    simp only [mOp] at hm
    split at hm
    · rename_i x' ho
      simp only [exec1] at h
      have hu0 : u = [] := by
        split at h
        · simp only [Option.some.injEq, Prod.mk.injEq] at h; exact h.2.symm
        · simp only [Option.some.injEq, Prod.mk.injEq] at h; exact h.2.symm
        · rename_i k M j q hv
          cases he : elOk L k M j with
          | false => simp [he] at h
          | true => simp only [he, cond_true, Option.some.injEq, Prod.mk.injEq] at h; exact h.2.symm
        · cases h
      subst hu0
      exact (gives_nn r ho hm h).makes r
    · cases hm

end
end Go.Vs
