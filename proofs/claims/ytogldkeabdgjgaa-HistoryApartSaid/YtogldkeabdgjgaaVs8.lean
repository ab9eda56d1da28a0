/- The value semantics, 8: strings, slices and loads. -/
import Derived.Test.YtogldkeabdgjgaaVs7
namespace Go.Vs
open Go

section
variable {P : Program} {C : Ctx} {N : Nat} {w0 : World} {ω0 : Nat → Nat} {S : Fr} {E : Nat → Option V} {L : Nat → Option Obj} {a : Act} {w : World} {ω : Nat → Nat} {β : Nat → Option Nat}
variable {o : Oper} {v : V}

theorem gives_idxS (r : Rel C.gl N w0 ω0 S E L a w ω β) {x y : Operand} {x' y' : Opd} {t : TypeId} (ho : o.op = .index t x y) (hx : mOpd x x' = true) (hy : mOpd y y' = true)
    (ht : P.underlying t = some .string) {s : List UInt8} (hs : x'.val C E = .sc (.c (.str s))) {j : Nat} (hj : natBelow (y'.val C E) s.length = some j) {b : UInt8} (hb : s[j]? = some b)
    (h : v = .sc (.c (.int .u8 b.toNat))) : Gives P o a w ω β L v := by
  subst h
  have h1 := mOpd_ok r hx
  rw [hs] at h1
  simp only [RV, RV1, RW, RD] at h1
  obtain ⟨arr, h1, rfl⟩ := h1
  obtain ⟨k, h3, h4⟩ := natBelow_ok hj (mOpd_ok r hy)
  have hget : arr[j]? = some b := by
    have h5 : arr.data[j]? = some b := by rw [← Array.getElem?_toList]; exact hb
    have hlt : j < arr.size := by
      have := (Array.getElem?_eq_some_iff.1 h5).1
      exact this
    rw [getElem?_pos arr j hlt]
    have := (Array.getElem?_eq_some_iff.1 h5).2
    exact congrArg some this
  refine ⟨.int .u8 b.toNat, ?_, by simp [RV, RV1, RW, RD]⟩
  have h0 : (0 : Int) ≤ (j : Int) := by omega
  simp only [execOp, ho, Instr.index, Sem.run_bind, run_underlying ht, Result.andThen_ok, h1, h3, asIntOf, Sem.run_pure, h0, if_true, Int.toNat_natCast, hget]

/-- How the model's own bound relates to ours: absent both, or both this number. -/
def BoundIs (x : Option Value) (d n b : Nat) : Prop := (x = none ∧ n = d) ∨ (∃ k, x = some (.int k n) ∧ n ≤ b)

theorem BoundIs.self {x : Option Value} {d n b : Nat} (h : BoundIs x d n b) : BoundIs x d n n :=
  h.imp id fun ⟨k, h1, _⟩ => ⟨k, h1, Nat.le_refl _⟩

def mOpt : Option Operand → Option Opd → Bool
  | none, none => true
  | some y, some x => mOpd y x
  | _, _ => false

theorem boundOr_ok {x : Option Opd} {y : Option Operand} (r : Rel C.gl N w0 ω0 S E L a w ω β) (hm : mOpt y x = true) {d b n : Nat}
    (h : boundOr (x.map (·.val C E)) d b = some n) : BoundIs (y.map a.eval) d n b ∧ n ≤ b := by
  unfold boundOr at h
  cases x with
  | none => cases y with
    | none =>
      simp only [Option.map_none] at h
      cases hb : Nat.ble d b with
      | false => simp [hb] at h
      | true =>
        simp only [hb, cond_true, Option.some.injEq] at h
        subst h
        exact ⟨.inl ⟨rfl, rfl⟩, Nat.le_of_ble_eq_true hb⟩
    | some _ => simp [mOpt] at hm
  | some x => cases y with
    | none => simp [mOpt] at hm
    | some y =>
      simp only [Option.map_some] at h
      obtain ⟨k, h1, h2⟩ := natBelow_ok h (mOpd_ok r hm)
      exact ⟨.inr ⟨k, by simp [h1], by omega⟩, by omega⟩

theorem sliceBound_run {k : IntKind} {n b : Nat} (h : n ≤ b) (c : BoundsCode) : (Instr.sliceBound (.int k n) b c).run P w = .ok n w := by
  have h0 : (0 : Int) ≤ (n : Int) ∧ (n : Int) ≤ (b : Int) := ⟨by omega, by omega⟩
  simp only [Instr.sliceBound, Sem.run_bind, asIntOf, Sem.run_pure, Result.andThen_ok, h0, and_self, if_true, Int.toNat_natCast]

theorem sliceBounds_run {isS : Bool} {len cap : Nat} {lo hi mx : Option Value} {l h m b1 b2 b3 : Nat} (hmx : BoundIs mx cap m b1) (hb1 : b1 ≤ cap) (hhi : BoundIs hi len h b2) (hb2 : b2 ≤ m) (hlo : BoundIs lo 0 l b3) (hb3 : b3 ≤ h)
    (hno : mx.isSome = true → hi.isSome = true) : (Instr.sliceBounds isS len cap lo hi mx).run P w = .ok (l, h, m) w := by
  unfold Instr.sliceBounds
  rcases hmx with ⟨rfl, rfl⟩ | ⟨k1, rfl, hm⟩
  · rcases hhi with ⟨rfl, rfl⟩ | ⟨k2, rfl, hh⟩
    · rcases hlo with ⟨rfl, rfl⟩ | ⟨k3, rfl, hl⟩
      · rfl
      · simp only [Sem.run_bind, Sem.run_pure, Result.andThen_ok, sliceBound_run (P := P) (w := w) (k := k3) (show l ≤ h by omega)]
    · rcases hlo with ⟨rfl, rfl⟩ | ⟨k3, rfl, hl⟩
      · simp only [Sem.run_bind, Sem.run_pure, Result.andThen_ok, sliceBound_run (P := P) (w := w) (k := k2) (show h ≤ m by omega)]
      · simp only [Sem.run_bind, Sem.run_pure, Result.andThen_ok, sliceBound_run (P := P) (w := w) (k := k2) (show h ≤ m by omega), sliceBound_run (P := P) (w := w) (k := k3) (show l ≤ h by omega)]
  · rcases hhi with ⟨rfl, rfl⟩ | ⟨k2, rfl, hh⟩
    · simp at hno
    · rcases hlo with ⟨rfl, rfl⟩ | ⟨k3, rfl, hl⟩
      · simp only [Sem.run_bind, Sem.run_pure, Result.andThen_ok, sliceBound_run (P := P) (w := w) (k := k1) (show m ≤ cap by omega), sliceBound_run (P := P) (w := w) (k := k2) (show h ≤ m by omega)]
      · simp only [Sem.run_bind, Sem.run_pure, Result.andThen_ok, sliceBound_run (P := P) (w := w) (k := k1) (show m ≤ cap by omega), sliceBound_run (P := P) (w := w) (k := k2) (show h ≤ m by omega), sliceBound_run (P := P) (w := w) (k := k3) (show l ≤ h by omega)]

theorem gives_slS (r : Rel C.gl N w0 ω0 S E L a w ω β) {x : Operand} {x' : Opd} {t : TypeId} {lo hi : Option Operand} {lo' hi' : Option Opd} (ho : o.op = .slice t x lo hi none) (hx : mOpd x x' = true)
    (hlo : mOpt lo lo' = true) (hhi : mOpt hi hi' = true)
    (ht : P.underlying t = some .string) {s : List UInt8} (hs : x'.val C E = .sc (.c (.str s))) {l hh : Nat} (hh1 : boundOr (hi'.map (·.val C E)) s.length s.length = some hh) (hl1 : boundOr (lo'.map (·.val C E)) 0 hh = some l)
    (h : v = .sc (.c (.str ((s.take hh).drop l)))) : Gives P o a w ω β L v := by
  subst h
  have h1 := mOpd_ok r hx
  rw [hs] at h1
  simp only [RV, RV1, RW, RD] at h1
  obtain ⟨arr, h1, rfl⟩ := h1
  have hsz : arr.data.toList.length = arr.size := by show _ = arr.data.size; simp
  rw [hsz] at hh1
  obtain ⟨h2, h3⟩ := boundOr_ok r hhi hh1
  obtain ⟨h4, h5⟩ := boundOr_ok r hlo hl1
  have hb := sliceBounds_run (P := P) (w := w) (isS := false) (mx := none) (.inl ⟨rfl, rfl⟩) (Nat.le_refl _) h2 (Nat.le_refl arr.size) h4 (Nat.le_refl _) (by simp)
  refine ⟨.string (arr.extract l hh), ?_, ?_⟩
  · simp only [execOp, ho, Instr.sliceAt, Instr.slice, Sem.run_bind, run_underlying ht, Result.andThen_ok, h1, Option.map_none, Option.isSome_none, Bool.false_eq_true, if_false, hb, Sem.run_pure]
  · simp only [RV, RV1, RW, RD]
    refine ⟨_, rfl, ?_⟩
    simp [ByteArray.data_extract, List.drop_take]

theorem gives_mx (r : Rel C.gl N w0 ω0 S E L a w ω β) {x y : Operand} {x' y' : Opd} {ts : Array TypeId} {bi : Builtin} (hbi : bi = .max ∨ bi = .min) (ho : o.op = .call { callee := .builtin bi, args := #[x, y], argTypes := ts })
    (hx : mOpd x x' = true) (hy : mOpd y y' = true) {k j : IntKind} {m n : Int} (hm : x'.val C E = .sc (.c (.int k m))) (hn : y'.val C E = .sc (.c (.int j n)))
    (h : v = .sc (.c (.int k (if bi = .max then (if n > m then n else m) else (if n < m then n else m))))) : Gives P o a w ω β L v := by
  subst h
  have h1 := mOpd_ok r hx
  have h2 := mOpd_ok r hy
  rw [hm] at h1
  rw [hn] at h2
  simp only [RV, RV1, RW, RD] at h1 h2
  rcases hbi with rfl | rfl
  · exact ⟨_, by simp [execOp, ho, resolve, invoke, builtin, h1, h2, Builtin.max_, Builtin.max2]; rfl, by simp [RV, RV1, RW, RD]⟩
  · exact ⟨_, by simp [execOp, ho, resolve, invoke, builtin, h1, h2, Builtin.min_, Builtin.min2]; rfl, by simp [RV, RV1, RW, RD]⟩

/- lengths -/

theorem lenV_ok {x : V} {vv : Value} {n : Nat} (h : lenV L x = some n) (hr : RV w ω β L x vv) : (∃ s : ByteArray, vv = .string s ∧ s.size = n ∧ ∃ l, x = .sc (.c (.str l))) ∨ ∃ base cap, vv = .slice base n cap := by
  unfold lenV at h
  split at h
  · simp only [Option.some.injEq] at h
    subst h
    simp only [RV, RV1, RW, RD] at hr
    obtain ⟨arr, h1, rfl⟩ := hr
    exact .inl ⟨arr, h1, by show arr.data.size = _; simp, _, rfl⟩
  · simp only [Option.some.injEq] at h
    subst h
    simp only [RV, RV1, RW, RD] at hr
    obtain ⟨base, cap, h1, _⟩ := hr
    exact .inr ⟨base, cap, h1⟩
  · simp only [Option.some.injEq] at h
    subst h
    exact .inr ⟨none, 0, by simpa only [RV, RV1, RW] using hr⟩
  · simp only [Option.some.injEq] at h
    subst h
    simp only [RV, RV1, RW, RD] at hr
    obtain ⟨⟨base, cap, h1, _⟩, _⟩ := hr
    exact .inr ⟨base, cap, h1⟩
  · rename_i k m
    split at h
    · rename_i s rows p hL
      cases hb : (rows.length == m) with
      | false => simp [hb] at h
      | true =>
        simp only [hb, cond_true, Option.some.injEq] at h
        subst h
        simp only [RV, RV1, RW] at hr
        obtain ⟨s', rows', p', h1, h2, _, h3⟩ := hr
        rw [hL] at h1
        cases h1
        have e : m = rows.length := (by simpa using hb : rows.length = m).symm
        rcases h3 e with ⟨b, cap, cur, t, _, h4, _⟩ | ⟨_, h4, base, h5⟩
        · exact .inr ⟨_, cap, h4⟩
        · exact .inr ⟨base, 0, by rw [h4]; exact h5⟩
    · cases h
  · rename_i k M lo m
    split at h
    · rename_i s rows p hL
      cases hb : (rows.length == M) with
      | false => simp [hb] at h
      | true =>
        simp only [hb, cond_true] at h
        cases hc : cut rows lo m with
        | none => simp [hc] at h
        | some q =>
          simp only [hc, Option.map_some, Option.some.injEq] at h
          subst h
          simp only [RV, RV1, RW] at hr
          obtain ⟨s', rows', p', h1, h2, _, h3⟩ := hr
          rw [hL] at h1
          cases h1
          have e : M = rows.length := (by simpa using hb : rows.length = M).symm
          have hle : lo + m ≤ M := by
            unfold cut at hc
            cases hb2 : Nat.ble (lo + m) rows.length with
            | false => simp [hb2] at hc
            | true => rw [e]; exact Nat.le_of_ble_eq_true hb2
          rcases h3 e hle with ⟨h4, base, cap, h5, _⟩ | ⟨b, cap, cur, t, _, h4, _⟩
          · exact .inr ⟨base, cap, by rw [h4]; exact h5⟩
          · exact .inr ⟨_, cap, h4⟩
    · cases h
  · cases h

theorem gives_len (r : Rel C.gl N w0 ω0 S E L a w ω β) {x : Operand} {x' : Opd} {t : TypeId} (ho : o.op = .call { callee := .builtin .len, args := #[x], argTypes := #[t] }) (hx : mOpd x x' = true) {tag : Bool}
    (ht : (match P.underlying t, tag with | some .string, true => true | some (.slice _), false => true | _, _ => false) = true)
    (htag : isStr (x'.val C E) = tag) {n : Nat} (hn : lenV L (x'.val C E) = some n) (h : v = .sc (.c (.int .i64 n))) : Gives P o a w ω β L v := by
  subst h
  refine ⟨.int .i64 n, ?_, by simp [RV, RV1, RW, RD]⟩
  rcases lenV_ok hn (mOpd_ok r hx) with ⟨s, h1, h2, l, h3⟩ | ⟨base, cap, h1⟩
  · rw [h3] at htag
    simp only [isStr] at htag
    subst htag
    cases hu : P.underlying t with
    | none => simp [hu] at ht
    | some d =>
      rw [hu] at ht
      cases d <;> first | (simp at ht; done) | skip
      simp [execOp, ho, resolve, invoke, builtin, Builtin.len_, run_underlying hu, h1, h2, goInt]
  · have htag' : tag = false := by
      have h4 := mOpd_ok r hx
      cases tag with
      | false => rfl
      | true =>
        unfold isStr at htag
        split at htag
        · rename_i s hs
          rw [hs] at h4
          simp only [RV, RV1, RW, RD] at h4
          obtain ⟨arr, h4, _⟩ := h4
          rw [h1] at h4
          cases h4
        · cases htag
    subst htag'
    cases hu : P.underlying t with
    | none => simp [hu] at ht
    | some d =>
      rw [hu] at ht
      cases d <;> first | (simp at ht; done) | skip
      simp [execOp, ho, resolve, invoke, builtin, Builtin.len_, run_underlying hu, h1, goInt]

end
end Go.Vs
