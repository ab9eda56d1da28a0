/- The value semantics, 6: when an operation of the value semantics stands for an operation of the model; the operations that leave memory alone. -/
import Derived.Test.YtogldkeabdgjgaaVs5
namespace Go.Vs
open Go

def cvCell : Value → Cell → Bool
  | .int k n, .int k' n' => k == k' && n == n'
  | .bool b, .bool b' => b == b'
  | .string s, .str l => s.data.toList == l
  | .slice none 0 0, .sl [] => true
  | .pointer none, .nilptr => true
  | .nilFunc, .nilfn => true
  | .nilIface, .nilif => true
  | _, _ => false

def cvW : Value → W → Bool
  | .slice none 0 0, .nil => true
  | v, .c x => cvCell v x
  | _, _ => false

def cvList : List Value → List W → Bool
  | [], [] => true
  | v :: vs, x :: xs => cvW v x && cvList vs xs
  | _, _ => false

def cvV : Value → V → Bool
  | .agg a, .ag xs => cvList a.toList xs
  | v, .sc x => cvW v x
  | _, _ => false

def mOpd : Operand → Opd → Bool
  | .tmp t, .t n => t == n
  | .global g, .g n => g == n
  | .const v, .k x => cvV v x
  | .func f, .k (.sc (.c (.fn g [] []))) => f == g
  | _, _ => false

section
variable {w : World} {ω : Nat → Nat} {β : Nat → Option Nat} {L : Nat → Option Obj}

theorem cvCell_ok {v : Value} {x : Cell} (h : cvCell v x = true) : RD w ω x v := by
  unfold cvCell at h
  split at h
  case h_4 => simp only [RD]; exact ⟨none, 0, rfl, Nat.le_refl _, by decide, .inl trivial⟩
  all_goals simp_all [RD]

theorem cvW_ok {v : Value} {x : W} (h : cvW v x = true) : RW w ω β L x v := by
  unfold cvW at h
  split at h
  · simp [RW]
  · simp only [RW]; exact cvCell_ok h
  · cases h

theorem cvList_ok : ∀ {vs : List Value} {xs : List W}, cvList vs xs = true → RWlist w ω β L xs vs
  | [], [], _ => by simp [RWlist]
  | [], _ :: _, h => by simp [cvList] at h
  | _ :: _, [], h => by simp [cvList] at h
  | _ :: _, _ :: _, h => by
    simp only [cvList, Bool.and_eq_true] at h
    simp only [RWlist]
    exact ⟨cvW_ok h.1, cvList_ok h.2⟩

theorem cvV_ok {v : Value} {x : V} (h : cvV v x = true) : RV w ω β L x v := by
  unfold cvV at h
  split at h
  · exact ⟨_, rfl, cvList_ok h⟩
  · exact cvW_ok h
  · cases h

theorem mOpd_ok {C : Ctx} {N : Nat} {w0 : World} {ω0 : Nat → Nat} {S : Fr} {E : Nat → Option V} {a : Act} (r : Rel C.gl N w0 ω0 S E L a w ω β) {y : Operand} {x : Opd} (h : mOpd y x = true) :
    RV w ω β L (x.val C E) (a.eval y) := by
  unfold mOpd at h
  split at h
  · rename_i t n
    have : t = n := by simpa using h
    subst this
    simp only [Opd.val, Act.eval]
    cases hE : E t with
    | none => simp [RV, RV1, RW]
    | some v => exact r.val hE
  · rename_i g n
    have : g = n := by simpa using h
    subst this
    simp only [Opd.val, Act.eval, RV, RV1, RW, RD]
    exact ⟨g, 0, by simp, r.gl g⟩
  · exact cvV_ok h
  · rename_i f g
    have : f = g := by simpa using h
    subst this
    simp only [Opd.val, Act.eval]
    simp only [RV, RV1, RW, RD]
    exact ⟨#[], rfl, by simp [RDcaps]⟩
  · cases h
end

/-- A run that only gives a value. -/
def Gives (P : Program) (o : Oper) (a : Act) (w : World) (ω : Nat → Nat) (β : Nat → Option Nat) (L : Nat → Option Obj) (v : V) : Prop :=
  ∃ vv, (execOp a.eval o).run P w = .ok (.value vv) w ∧ RV w ω β L v vv

section
variable {P : Program} {C : Ctx} {N : Nat} {w0 : World} {ω0 : Nat → Nat} {S : Fr} {E : Nat → Option V} {L : Nat → Option Obj} {a : Act} {w : World} {ω : Nat → Nat} {β : Nat → Option Nat}
variable {o : Oper} {v : V}

theorem run_value {s : Sem Value} {vv : Value} (h : s.run P w = .ok vv w) : (do pure (Next.value (← s)) : Sem Next).run P w = .ok (.value vv) w := by
  simp only [Sem.run_bind, h, Result.andThen_ok, Sem.run_pure]

theorem gives_mv (r : Rel C.gl N w0 ω0 S E L a w ω β) {y : Operand} {x : Opd} (ho : o.op = .move y ∨ o.op = .assign y) (hm : mOpd y x = true) (h : v = x.val C E) : Gives P o a w ω β L v := by
  subst h
  refine ⟨a.eval y, ?_, mOpd_ok r hm⟩
  rcases ho with ho | ho <;> simp [execOp, ho]

theorem gives_pick (r : Rel C.gl N w0 ω0 S E L a w ω β) {c x y : Operand} {c' x' y' : Opd} (ho : o.op = .pick c x y) (hc : mOpd c c' = true) (hx : mOpd x x' = true) (hy : mOpd y y' = true)
    {t : Bool} (ht : c'.val C E = .sc (.c (.bool t))) (h : v = bif t then x'.val C E else y'.val C E) : Gives P o a w ω β L v := by
  have h1 := mOpd_ok r hc
  rw [ht] at h1
  simp only [RV, RV1, RW, RD] at h1
  subst h
  refine ⟨if t then a.eval x else a.eval y, ?_, ?_⟩
  · simp [execOp, ho, h1, asBool]
  · cases t
    · exact mOpd_ok r hy
    · exact mOpd_ok r hx

theorem shift_is {op : BinOp} {k k' : IntKind} {p q : Int} {x : Cell} (h : intShift op k p q = some x) :
    ∃ m, x = .int k m ∧ (Op.shift op k p k' q).run P w = .ok (.int k m) w := by
  unfold intShift at h
  split at h
  · cases h
  · rename_i hq
    unfold Op.shift
    rw [if_neg hq]
    cases op <;> simp only [reduceCtorEq, Option.some.injEq] at h
    · subst h; exact ⟨_, rfl, rfl⟩
    · subst h; exact ⟨_, rfl, rfl⟩

theorem intBin_is {op : BinOp} {k : IntKind} {p q : Int} {x : Cell} (hs : isShift op = false) (t : TypeId) (h : intBin op k p q = some x) :
    ∃ vv, RD w ω x vv ∧ (binOp op t (.int k p) (.int k q)).run P w = .ok vv w := by
  unfold intBin at h
  cases op <;> simp only [isShift, reduceCtorEq, Option.some.injEq] at h hs <;>
    first
    | (subst h
       first
       | exact ⟨_, by simp [wrapI, RD]; rfl, by simp [binOp, Op.intArith, Op.intCmp, Op.intBits]⟩)
    | (split at h
       · cases h
       · rename_i hq
         simp only [Option.some.injEq] at h
         subst h
         exact ⟨_, by simp [wrapI, RD]; rfl, by simp [binOp, Op.intDiv, hq]⟩)

theorem strBin_is {op : BinOp} {p q : ByteArray} {x : Cell} (t : TypeId) (h : strBin op p.data.toList q.data.toList = some x) :
    ∃ vv, RD w ω x vv ∧ (binOp op t (.string p) (.string q)).run P w = .ok vv w := by
  unfold strBin at h
  cases op <;> simp only [reduceCtorEq, Option.some.injEq] at h <;>
    first
    | (subst h
       refine ⟨_, (by simp only [RD]; rfl), ?_⟩
       simp only [binOp, Op.stringOp, ByteArray.toList_eq]
       rfl)
    | (split at h
       · rename_i hl
         simp only [Option.some.injEq] at h
         subst h
         refine ⟨.string (p ++ q), ?_, ?_⟩
         · simp only [RD]
           exact ⟨p ++ q, rfl, by simp⟩
         · have hl' : ¬ ((p.size + q.size : Nat) : Int) > IntKind.i64.max := by
             have e : IntKind.i64.max = 9223372036854775807 := by decide
             have e1 : p.size = p.data.toList.length := by show p.data.size = _; simp
             have e2 : q.size = q.data.toList.length := by show q.data.size = _; simp
             rw [e]; omega
           simp only [binOp, Op.stringOp]
           rw [if_neg hl']
           rfl
       · cases h)

theorem shiftOp_is {op : BinOp} {k k' : IntKind} {p q : Int} {x : Cell} (hs : isShift op = true) (t : TypeId) (h : intShift op k p q = some x) :
    ∃ vv, RD w ω x vv ∧ (binOp op t (.int k p) (.int k' q)).run P w = .ok vv w := by
  obtain ⟨m, rfl, hr⟩ := shift_is (P := P) (w := w) (k' := k') h
  refine ⟨.int k m, by simp [RD], ?_⟩
  cases op <;> first | (simp [isShift] at hs; done) | (simp only [binOp]; exact hr)

/-- The comparison's own look ahead finds nothing, where one operand is no nil interface and no struct. -/
theorem eqGuard_none {op : BinOp} {t : TypeId} {x y : Operand} {p q : Value} (h : (match p, q with | .nilIface, .nilIface => false | .agg _, .agg _ => false | _, _ => true) = true) :
    (eqGuard op t x y p q).run P w = .ok () w := by
  unfold eqGuard
  split <;> simp only [Bool.not_true, Bool.not_false, Bool.false_eq_true, if_true, if_false] <;> first
    | rfl
    | (cases p <;> cases q <;> first | (simp at h; done) | rfl)

theorem eqGuard_const {op : BinOp} {t : TypeId} {x y : Operand} (h : (match y with | .const _ => true | _ => false) = true) :
    (eqGuard op t x y .nilIface .nilIface).run P w = .ok () w := by
  unfold eqGuard
  split <;> simp only [Bool.not_true, Bool.not_false, Bool.false_eq_true, if_true, if_false] <;> first
    | rfl
    | (cases y <;> first | (simp at h; done) | (simp; done))

/-- The type that a comparison's tag asks for. -/
def mTag (P : Program) (t : TypeId) (y : Operand) : Nat → Bool
  | 0 => true
  | 1 => match P.underlying t with | some .bool => true | _ => false
  | 2 => match P.underlying t with | some (.slice _) => true | _ => false
  | 3 => match P.underlying t with | some (.pointer _) => true | _ => false
  | 4 => match P.underlying t with | some (.func ..) => true | _ => false
  | 5 => (match P.underlying t with | some (.interface _) => true | _ => false) && (match y with | .const _ => true | _ => false)
  | _ => false

theorem nilEq_is {op : BinOp} {t : TypeId} {p q : Value} {b : Bool} {x : Cell} (h : nilEq op b = some x) (hnum : (match p with | .int .. | .float .. | .complex .. | .string _ => false | _ => true) = true)
    (he : (Op.equal t p q).run P w = .ok b w) : ∃ vv, RD w ω x vv ∧ (binOp op t p q).run P w = .ok vv w := by
  cases op <;> simp only [nilEq, reduceCtorEq, Option.some.injEq] at h
  · subst h
    refine ⟨.bool b, by simp [RD], ?_⟩
    cases p <;> first | (simp at hnum; done) | simp [binOp, he]
  · subst h
    refine ⟨.bool (!b), by simp [RD], ?_⟩
    cases p <;> first | (simp at hnum; done) | simp [binOp, he]

theorem equal_run {t : TypeId} {p q : Value} {b : Bool} (h : ∀ n : Nat, (Op.equalIn (n + 1) t p q).run P w = .ok b w) : (Op.equal t p q).run P w = .ok b w := h 9999

theorem gives_bin (r : Rel C.gl N w0 ω0 S E L a w ω β) {op : BinOp} {t t' : TypeId} {x y : Operand} {x' y' : Opd} {tag : Nat} (ho : o.op = .binOp op t x y t') (hx : mOpd x x' = true) (hy : mOpd y y' = true) (ht : mTag P t y tag = true)
    {p q : W} (hp : x'.val C E = .sc p) (hq : y'.val C E = .sc q) {c : Cell} (hc : binW op tag p q = some c) (h : v = .sc (.c c)) : Gives P o a w ω β L v := by
  subst h
  have h1 := mOpd_ok r hx
  have h2 := mOpd_ok r hy
  rw [hp] at h1
  rw [hq] at h2
  simp only [RV, RV1] at h1 h2
  suffices ∃ vv, RD w ω c vv ∧ (eqGuard op t x y (a.eval x) (a.eval y)).run P w = .ok () w ∧ (binOp op t (a.eval x) (a.eval y)).run P w = .ok vv w by
    obtain ⟨vv, h3, h4, h5⟩ := this
    refine ⟨vv, ?_, h3⟩
    simp only [execOp, ho, Sem.run_bind, h4, Result.andThen_ok, h5, Sem.run_pure]
  unfold binW at hc
  split at hc
  · split at hc
    · rename_i k m k' n
      simp only [RW, RD] at h1 h2
      rw [h1, h2]
      cases hs : isShift op with
      | true =>
        simp only [hs, cond_true] at hc
        obtain ⟨vv, h3, h4⟩ := shiftOp_is (P := P) (w := w) (ω := ω) (k' := k') hs t hc
        exact ⟨vv, h3, eqGuard_none rfl, h4⟩
      | false =>
        simp only [hs, cond_false] at hc
        split at hc
        · rename_i hk
          subst hk
          obtain ⟨vv, h3, h4⟩ := intBin_is (P := P) (w := w) (ω := ω) hs t hc
          exact ⟨vv, h3, eqGuard_none rfl, h4⟩
        · cases hc
    · rename_i p q
      simp only [RW, RD] at h1 h2
      obtain ⟨p', h1, rfl⟩ := h1
      obtain ⟨q', h2, rfl⟩ := h2
      rw [h1, h2]
      obtain ⟨vv, h3, h4⟩ := strBin_is (P := P) (w := w) (ω := ω) t hc
      exact ⟨vv, h3, eqGuard_none rfl, h4⟩
    · cases hc
  · split at hc
    · rename_i m n
      simp only [RW, RD] at h1 h2
      rw [h1, h2]
      have hd : P.underlying t = some .bool := by
        simp only [mTag] at ht; split at ht <;> simp_all
      obtain ⟨vv, h3, h4⟩ := nilEq_is (P := P) (w := w) (ω := ω) (t := t) (p := .bool m) (q := .bool n) hc rfl
        (equal_run fun n => by simp [Op.equalIn, run_underlying hd])
      exact ⟨vv, h3, eqGuard_none rfl, h4⟩
    · cases hc
  · obtain ⟨e, hd⟩ : ∃ e, P.underlying t = some (.slice e) := by
      simp only [mTag] at ht; split at ht <;> simp_all
    split at hc
    · simp only [RW] at h1 h2
      rw [h1, h2]
      obtain ⟨vv, h3, h4⟩ := nilEq_is (P := P) (w := w) (ω := ω) (t := t) (p := .slice none 0 0) (q := .slice none 0 0) hc rfl
        (equal_run fun n => by simp [Op.equalIn, run_underlying hd])
      exact ⟨vv, h3, eqGuard_none rfl, h4⟩
    · simp only [RW, RD] at h1 h2
      obtain ⟨base, cap, h1, _, _, h3⟩ := h1
      rcases h3 with h3 | ⟨b, off, s, rfl, _⟩
      · cases h3
      · rw [h1, h2]
        obtain ⟨vv, h3, h4⟩ := nilEq_is (P := P) (w := w) (ω := ω) (t := t) (p := .slice (some ⟨b, off, none⟩) _ cap) (q := .slice none 0 0) hc rfl
          (equal_run fun n => by simp [Op.equalIn, run_underlying hd])
        exact ⟨vv, h3, eqGuard_none rfl, h4⟩
    · cases hc
  · obtain ⟨e, hd⟩ : ∃ e, P.underlying t = some (.pointer e) := by
      simp only [mTag] at ht; split at ht <;> simp_all
    split at hc
    · simp only [RW, RD] at h1 h2
      rw [h1, h2]
      obtain ⟨vv, h3, h4⟩ := nilEq_is (P := P) (w := w) (ω := ω) (t := t) (p := .pointer none) (q := .pointer none) hc rfl
        (equal_run fun n => by simp [Op.equalIn, run_underlying hd])
      exact ⟨vv, h3, eqGuard_none rfl, h4⟩
    · simp only [RW, RD] at h1 h2
      obtain ⟨cells, b, _, _, h1⟩ := h1
      rw [h1, h2]
      obtain ⟨vv, h3, h4⟩ := nilEq_is (P := P) (w := w) (ω := ω) (t := t) (p := .pointer (some ⟨b, _, none⟩)) (q := .pointer none) hc rfl
        (equal_run fun n => by simp [Op.equalIn, run_underlying hd])
      exact ⟨vv, h3, eqGuard_none rfl, h4⟩
    · simp only [RW, RD] at h1 h2
      obtain ⟨b, off, h1, _⟩ := h1
      rw [h1, h2]
      obtain ⟨vv, h3, h4⟩ := nilEq_is (P := P) (w := w) (ω := ω) (t := t) (p := .pointer (some ⟨b, _, none⟩)) (q := .pointer none) hc rfl
        (equal_run fun n => by simp [Op.equalIn, run_underlying hd])
      exact ⟨vv, h3, eqGuard_none rfl, h4⟩
    · cases hc
  · obtain ⟨e1, e2, e3, hd⟩ : ∃ e1 e2 e3, P.underlying t = some (.func e1 e2 e3) := by
      simp only [mTag] at ht; split at ht <;> simp_all
    split at hc
    · simp only [RW, RD] at h1 h2
      rw [h1, h2]
      obtain ⟨vv, h3, h4⟩ := nilEq_is (P := P) (w := w) (ω := ω) (t := t) (p := .nilFunc) (q := .nilFunc) hc rfl
        (equal_run fun n => by simp [Op.equalIn, run_underlying hd])
      exact ⟨vv, h3, eqGuard_none rfl, h4⟩
    · simp only [RW, RD] at h1 h2
      obtain ⟨cs, h1, _⟩ := h1
      rw [h1, h2]
      obtain ⟨vv, h3, h4⟩ := nilEq_is (P := P) (w := w) (ω := ω) (t := t) (p := .func (.func _) #[] cs) (q := .nilFunc) hc rfl
        (equal_run fun n => by simp [Op.equalIn, run_underlying hd])
      exact ⟨vv, h3, eqGuard_none rfl, h4⟩
    · simp only [RW, RD] at h1 h2
      obtain ⟨cs, h1, _⟩ := h1
      rw [h1, h2]
      obtain ⟨vv, h3, h4⟩ := nilEq_is (P := P) (w := w) (ω := ω) (t := t) (p := .func (.func _) #[] cs) (q := .nilFunc) hc rfl
        (equal_run fun n => by simp [Op.equalIn, run_underlying hd])
      exact ⟨vv, h3, eqGuard_none rfl, h4⟩
    · cases hc
  · simp only [mTag, Bool.and_eq_true] at ht
    obtain ⟨ht1, ht2⟩ := ht
    obtain ⟨e, hd⟩ : ∃ e, P.underlying t = some (.interface e) := by
      split at ht1 <;> simp_all
    split at hc
    · simp only [RW, RD] at h1 h2
      rw [h1, h2]
      obtain ⟨vv, h3, h4⟩ := nilEq_is (P := P) (w := w) (ω := ω) (t := t) (p := .nilIface) (q := .nilIface) hc rfl
        (equal_run fun n => by simp [Op.equalIn, run_underlying hd])
      exact ⟨vv, h3, eqGuard_const ht2, h4⟩
    · simp only [RW, RD] at h1 h2
      obtain ⟨x0, vs, h1, _⟩ := h1
      rw [h1, h2]
      obtain ⟨vv, h3, h4⟩ := nilEq_is (P := P) (w := w) (ω := ω) (t := t) (p := .iface _ x0) (q := .nilIface) hc rfl
        (equal_run fun n => by simp [Op.equalIn, run_underlying hd])
      exact ⟨vv, h3, eqGuard_none rfl, h4⟩
    · simp only [RW, RD] at h1 h2
      obtain ⟨x0, vs, h1, _⟩ := h1
      rw [h1, h2]
      obtain ⟨vv, h3, h4⟩ := nilEq_is (P := P) (w := w) (ω := ω) (t := t) (p := .iface _ x0) (q := .nilIface) hc rfl
        (equal_run fun n => by simp [Op.equalIn, run_underlying hd])
      exact ⟨vv, h3, eqGuard_none rfl, h4⟩
    · cases hc
  · cases hc

theorem gives_un (r : Rel C.gl N w0 ω0 S E L a w ω β) {op : UnOp} {t : TypeId} {x : Operand} {x' : Opd} (ho : o.op = .unOp op t x) (hx : mOpd x x' = true)
    {p : W} (hp : x'.val C E = .sc p) {c : Cell} (hc : unW op p = some c) (h : v = .sc (.c c)) : Gives P o a w ω β L v := by
  subst h
  have h1 := mOpd_ok r hx
  rw [hp] at h1
  simp only [RV, RV1] at h1
  unfold unW at hc
  split at hc
  · simp only [RW, RD] at h1
    cases op <;> simp only [reduceCtorEq, Option.some.injEq] at hc
    subst hc
    refine ⟨_, by simp only [execOp, ho, h1]; rfl, ?_⟩
    simp [RV, RV1, RW, wrapI, RD]
  · simp only [RW, RD] at h1
    cases op <;> simp only [reduceCtorEq, Option.some.injEq] at hc
    subst hc
    refine ⟨_, by simp only [execOp, ho, h1]; rfl, ?_⟩
    simp [RV, RV1, RW, RD]
  · cases hc

end
end Go.Vs
