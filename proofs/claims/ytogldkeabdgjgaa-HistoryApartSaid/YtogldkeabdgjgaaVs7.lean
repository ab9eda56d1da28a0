/- The value semantics, 7: the other operations that leave memory alone. -/
import Derived.Test.YtogldkeabdgjgaaVs6
namespace Go.Vs
open Go

section
variable {P : Program} {C : Ctx} {N : Nat} {w0 : World} {ω0 : Nat → Nat} {S : Fr} {E : Nat → Option V} {L : Nat → Option Obj} {a : Act} {w : World} {ω : Nat → Nat} {β : Nat → Option Nat}
variable {o : Oper} {v : V}

theorem RVs.get : ∀ {l : List V} {vs : List Value} {i : Nat} {x : V}, RVs w ω β L l vs → l[i]? = some x → ∃ vv, vs[i]? = some vv ∧ RV1 w ω β L x vv
  | [], _, _, _, _, h => by simp at h
  | _ :: _, [], _, _, h, _ => h.elim
  | y :: l, u :: vs, i, x, h, hi => by
    cases i with
    | zero => simp at hi; subst hi; exact ⟨u, by simp, h.1⟩
    | succ i =>
      obtain ⟨vv, h1, h2⟩ := RVs.get h.2 (by simpa using hi)
      exact ⟨vv, by simpa using h1, h2⟩

theorem RV1.RV {x : V} {vv : Value} (h : RV1 w ω β L x vv) : RV w ω β L x vv := by
  cases x with
  | sc x => exact h
  | ag x => exact h
  | tu x => exact h.elim

theorem gives_ext (r : Rel C.gl N w0 ω0 S E L a w ω β) {x : Operand} {x' : Opd} {i : Nat} (ho : o.op = .extract x i) (hx : mOpd x x' = true) {l : List V} (hl : x'.val C E = .tu l) (hi : l[i]? = some v) :
    Gives P o a w ω β L v := by
  have h1 := mOpd_ok r hx
  rw [hl] at h1
  obtain ⟨arr, h1, h2⟩ := h1
  obtain ⟨vv, h3, h4⟩ := h2.get hi
  refine ⟨vv, ?_, h4.RV⟩
  have h3' : arr[i]? = some vv := by rw [← Array.getElem?_toList]; exact h3
  simp [execOp, ho, h1, Instr.extract, h3']

theorem gives_cvI (r : Rel C.gl N w0 ω0 S E L a w ω β) {x : Operand} {x' : Opd} {src dst : TypeId} {k k0 : IntKind} (ho : o.op = .convert src dst x) (hx : mOpd x x' = true)
    (hs : P.underlying src = some (.int k0)) (hd : P.underlying dst = some (.int k)) {j : IntKind} {n : Int} (hn : x'.val C E = .sc (.c (.int j n))) (h : v = .sc (.c (wrapI k n))) : Gives P o a w ω β L v := by
  subst h
  have h1 := mOpd_ok r hx
  rw [hn] at h1
  simp only [RV, RV1, RW, RD] at h1
  refine ⟨.int k (k.wrap n), ?_, by simp [RV, RV1, RW, wrapI, RD]⟩
  simp [execOp, ho, h1, convert, run_underlying hs, run_underlying hd, Conv.intToInt]

theorem notIface_run {t : TypeId} (h : (match P.underlying t with | some (.interface _) => false | some _ => true | none => false) = true) (x : Value) :
    (Instr.makeInterface t x).run P w = .ok (.iface t x) w := by
  unfold Instr.makeInterface
  cases hu : P.underlying t with
  | none => simp [hu] at h
  | some d =>
    simp only [Sem.run_bind, run_underlying hu, Result.andThen_ok]
    cases d <;> first | (simp [hu] at h; done) | rfl

theorem listM_some {α γ : Type} {f : α → Option γ} : ∀ {l : List α} {r : List γ}, listM f l = some r → r.length = l.length ∧ ∀ (i : Nat) (x : α), l[i]? = some x → ∃ y, r[i]? = some y ∧ f x = some y
  | [], r, h => by simp [listM] at h; subst h; simp
  | a :: l, r, h => by
    simp only [listM] at h
    cases hf : f a with
    | none => simp [hf] at h
    | some b =>
      simp only [hf] at h
      cases hr : listM f l with
      | none => simp [hr] at h
      | some r' =>
        simp only [hr, Option.some.injEq] at h
        subst h
        obtain ⟨h1, h2⟩ := listM_some hr
        refine ⟨by simp [h1], fun i x hx => ?_⟩
        cases i with
        | zero => simp at hx; subst hx; exact ⟨b, by simp, hf⟩
        | succ i =>
          obtain ⟨y, h3, h4⟩ := h2 i x (by simpa using hx)
          exact ⟨y, by simpa using h3, h4⟩

def isC : W → Option Cell := fun w => match w with | .c y => some y | _ => none

theorem listM_isC : ∀ {cs : List W} {l : List Cell}, listM (fun w => match w with | .c y => some y | _ => none) cs = some l → cs = l.map W.c
  | [], l, h => by simp [listM] at h; subst h; rfl
  | x :: cs, l, h => by
    simp only [listM] at h
    cases x with
    | c y =>
      simp only at h
      cases hr : listM (fun w => match w with | W.c y => some y | _ => none) cs with
      | none => simp [hr] at h
      | some l' =>
        simp only [hr, Option.some.injEq] at h
        subst h
        simp [listM_isC hr]
    | _ => simp at h

theorem gives_ifc (r : Rel C.gl N w0 ω0 S E L a w ω β) {x : Operand} {x' : Opd} {t : TypeId} (ho : o.op = .makeInterface t x) (hx : mOpd x x' = true)
    (ht : (match P.underlying t with | some (.interface _) => false | some _ => true | none => false) = true)
    (h : (match x'.val C E with
      | .sc (.c y) => some (V.sc (.c (.ifc t true [y])), ([] : Upd))
      | .sc w => bif notUn w then some (.sc (.ifw t true [w]), []) else none
      | .ag cs => match listM (fun w => match w with | .c y => some y | _ => none) cs with
        | some l => some (.sc (.c (.ifc t false l)), [])
        | none => some (.sc (.ifw t false cs), [])
      | .tu _ => none) = some (v, [])) : Gives P o a w ω β L v := by
  have h1 := mOpd_ok r hx
  refine ⟨.iface t (a.eval x), ?_, ?_⟩
  · simp only [execOp, ho, Sem.run_bind, notIface_run ht, Result.andThen_ok, Sem.run_pure]
  · split at h
    · rename_i y hv
      rw [hv] at h1
      simp only [Option.some.injEq, Prod.mk.injEq, and_true] at h
      subst h
      simp only [RV, RV1, RW] at h1 ⊢
      simp only [RD]
      exact ⟨_, [a.eval x], rfl, by simp only [RDlist]; exact ⟨h1, trivial⟩, rfl⟩
    · rename_i y _ hv
      rw [hv] at h1
      cases hn : notUn y with
      | false => simp [hn] at h
      | true =>
        simp only [hn, cond_true, Option.some.injEq, Prod.mk.injEq, and_true] at h
        subst h
        simp only [RV, RV1] at h1 ⊢
        simp only [RW]
        exact ⟨_, [a.eval x], rfl, by simp only [RWlist]; exact ⟨h1, trivial⟩, rfl⟩
    · rename_i cs hv
      rw [hv] at h1
      obtain ⟨arr, h2, h3⟩ := h1
      split at h
      · rename_i l hl
        simp only [Option.some.injEq, Prod.mk.injEq, and_true] at h
        subst h
        have := listM_isC hl
        subst this
        simp only [RV, RV1, RW, RD]
        exact ⟨_, arr.toList, rfl, RDlist.of h3, by simp [packs, h2]⟩
      · simp only [Option.some.injEq, Prod.mk.injEq, and_true] at h
        subst h
        simp only [RV, RV1, RW]
        exact ⟨_, arr.toList, rfl, h3, by simp [packs, h2]⟩
    · cases h

theorem elOk_ok {k M i : Nat} (h : elOk L k M i = true) : ∃ s rows p, L k = some (.arr s rows p) ∧ rows.length = M ∧ i < M := by
  unfold elOk at h
  split at h
  · rename_i s rows p hL
    simp only [Bool.and_eq_true, beq_iff_eq] at h
    exact ⟨s, rows, p, hL, h.1, by have := Nat.le_of_ble_eq_true (show Nat.ble (i + 1) M = true from h.2); omega⟩
  · cases h

theorem el_place {k M i off : Nat} {vv : Value} (h : elOk L k M i = true) (hr : RW w ω β L (.el k M i off) vv) :
    ∃ s rows p b, L k = some (.arr s rows p) ∧ rows.length = M ∧ i < M ∧ β k = some b ∧ vv = .pointer (some ⟨b, i * s + off, none⟩) := by
  obtain ⟨s, rows, p, h1, h2, h3⟩ := elOk_ok h
  simp only [RW] at hr
  obtain ⟨s', rows', p', h4, h5, _, h6⟩ := hr
  rw [h1] at h4
  cases h4
  obtain ⟨b, h7, h8⟩ := h6 h2.symm h3
  exact ⟨s, rows, p, b, h1, h2, h3, h7, h8⟩

theorem gives_nn (r : Rel C.gl N w0 ω0 S E L a w ω β) {x : Operand} {x' : Opd} (ho : o.op = .nilCheck x) (hx : mOpd x x' = true)
    (h : (match x'.val C E with
      | .sc (.ptr k o) => some (V.sc (.ptr k o), ([] : Upd))
      | .sc (.c (.ro r o)) => some (.sc (.c (.ro r o)), [])
      | .sc (.el k N i o) => bif elOk L k N i then some (.sc (.el k N i o), []) else none
      | _ => none) = some (v, [])) : Gives P o a w ω β L v := by
  have h1 := mOpd_ok r hx
  split at h
  · rename_i k off hv
    rw [hv] at h1
    simp only [Option.some.injEq, Prod.mk.injEq, and_true] at h
    subst h
    have h2 := h1
    simp only [RV, RV1, RW] at h2
    obtain ⟨cells, b, _, _, h2⟩ := h2
    exact ⟨a.eval x, by simp [execOp, ho, h2], h1⟩
  · rename_i row off hv
    rw [hv] at h1
    simp only [Option.some.injEq, Prod.mk.injEq, and_true] at h
    subst h
    have h2 := h1
    simp only [RV, RV1, RW, RD] at h2
    obtain ⟨b, o', h2, _⟩ := h2
    exact ⟨a.eval x, by simp [execOp, ho, h2], h1⟩
  · rename_i k M i off hv
    rw [hv] at h1
    cases he : elOk L k M i with
    | false => simp [he] at h
    | true =>
      simp only [he, cond_true, Option.some.injEq, Prod.mk.injEq, and_true] at h
      subst h
      obtain ⟨s, rows, p, b, _, _, _, _, h2⟩ := el_place (w := w) (ω := ω) he h1
      exact ⟨a.eval x, by simp [execOp, ho, h2], h1⟩
  · cases h

theorem natBelow_ok {x : V} {b n : Nat} {vv : Value} (h : natBelow x b = some n) (hr : RV w ω β L x vv) : ∃ k, vv = .int k n ∧ n < b := by
  unfold natBelow at h
  split at h
  · rename_i k m
    cases hb : Nat.blt m b with
    | false => simp [hb] at h
    | true =>
      simp only [hb, cond_true, Option.some.injEq] at h
      subst h
      simp only [RV, RV1, RW, RD] at hr
      exact ⟨k, hr, by have := Nat.le_of_ble_eq_true (show Nat.ble (m + 1) b = true from hb); omega⟩
  · cases h

/- addresses -/

theorem sureAddr_run (A : Addr) : (Instr.sureAddr (.pointer (some A))).run P w = .ok A w := rfl

theorem fieldPlace_run {A : Addr} {f : Field} {i : TypeInfo} (hi : P.info? f.type = some i) (hz : i.size ≠ 0) : (fieldPlace A f).run P w = .ok (A.add f.offset) w := by
  unfold fieldPlace
  simp only [Sem.run_bind, run_sizeOf' hi, Result.andThen_ok, hz, if_false, Sem.run_pure]

theorem addr_add (b o n : Nat) : (⟨b, o, none⟩ : Addr).add n = ⟨b, o + n, none⟩ := by unfold Addr.add; split <;> simp_all

theorem onBy_ok {x : V} {vv : Value} {n : Nat} (hr : RV w ω β L x vv) (h : onBy L n x = some (v, [])) :
    ∃ b off, vv = .pointer (some ⟨b, off, none⟩) ∧ RV w ω β L v (.pointer (some ⟨b, off + n, none⟩)) := by
  unfold onBy at h
  split at h
  · rename_i k off
    simp only [Option.some.injEq, Prod.mk.injEq, and_true] at h
    subst h
    simp only [RV, RV1, RW] at hr
    obtain ⟨cells, b, h2, h3, h4⟩ := hr
    exact ⟨b, off, h4, by simp only [RV, RV1, RW]; exact ⟨cells, b, h2, h3, rfl⟩⟩
  · rename_i k M i off
    cases he : elOk L k M i with
    | false => simp [he] at h
    | true =>
      simp only [he, cond_true, Option.some.injEq, Prod.mk.injEq, and_true] at h
      subst h
      obtain ⟨s, rows, p, b, h1, h2, h3, h4, h5⟩ := el_place (w := w) (ω := ω) he hr
      refine ⟨b, _, h5, ?_⟩
      simp only [RV, RV1, RW]
      exact ⟨s, rows, p, h1, Nat.le_of_eq h2.symm, ⟨_, rfl⟩, fun _ _ => ⟨b, h4, by rw [Nat.add_assoc]⟩⟩
  · rename_i row off
    simp only [Option.some.injEq, Prod.mk.injEq, and_true] at h
    subst h
    simp only [RV, RV1, RW, RD] at hr
    obtain ⟨b, o', h2, h3⟩ := hr
    refine ⟨b, _, h2, ?_⟩
    simp only [RV, RV1, RW, RD]
    exact ⟨b, o', by rw [Nat.add_assoc], h3⟩
  · cases h

theorem gives_fld (r : Rel C.gl N w0 ω0 S E L a w ω β) {x : Operand} {x' : Opd} {t : TypeId} {f : Nat} {fs : Array Field} {fd : Field} {i : TypeInfo} (ho : o.op = .fieldAddr t x f) (hx : mOpd x x' = true)
    (ht : P.underlying t = some (.struct fs)) (hf : fs[f]? = some fd) (hi : P.info? fd.type = some i) (hz : i.size ≠ 0)
    (h : onBy L fd.offset (x'.val C E) = some (v, [])) : Gives P o a w ω β L v := by
  obtain ⟨b, off, he, h2⟩ := onBy_ok (mOpd_ok r hx) h
  refine ⟨_, ?_, h2⟩
  simp only [execOp, ho, Instr.fieldAt, Sem.run_bind, run_underlying ht, Result.andThen_ok, hf, he, sureAddr_run, fieldPlace_run hi hz, addr_add, Sem.run_pure]

theorem gives_idxAA (r : Rel C.gl N w0 ω0 S E L a w ω β) {x y : Operand} {x' y' : Opd} {t e : TypeId} {len : Nat} {i : TypeInfo} (ho : o.op = .indexAddr t x y) (hx : mOpd x x' = true) (hy : mOpd y y' = true)
    (ht : P.underlying t = some (.array len e)) (hi : P.info? e = some i) {j : Nat} (hj : natBelow (y'.val C E) len = some j)
    (h : onBy L (j * i.size) (x'.val C E) = some (v, [])) : Gives P o a w ω β L v := by
  obtain ⟨b, off, he, h2⟩ := onBy_ok (mOpd_ok r hx) h
  obtain ⟨k, h3, h4⟩ := natBelow_ok hj (mOpd_ok r hy)
  refine ⟨_, ?_, h2⟩
  have h5 : (0 : Int) ≤ (j : Int) ∧ (j : Int) < (len : Int) := ⟨by omega, by omega⟩
  simp only [execOp, ho, Instr.indexAt, Sem.run_bind, run_underlying ht, Result.andThen_ok, he, h3, asIntOf, sureAddr_run, Sem.run_pure, h5, and_self, if_true, run_sizeOf' hi, addr_add, Int.toNat_natCast]

theorem gives_part (r : Rel C.gl N w0 ω0 S E L a w ω β) {x : Operand} {x' : Opd} {t : TypeId} {f : Nat} {fs : Array Field} {fd : Field} {i : TypeInfo} (ho : o.op = .field t x f) (hx : mOpd x x' = true)
    (ht : P.underlying t = some (.struct fs)) (hf : fs[f]? = some fd) (hu : (P.underlying fd.type).isSome = true) (hi : P.info? fd.type = some i)
    {cs ds : List W} (hcs : x'.val C E = .ag cs) (hcut : cut cs fd.offset i.size = some ds) (h : asV (isAggB P fd.type) ds = some v) : Gives P o a w ω β L v := by
  have h1 := mOpd_ok r hx
  rw [hcs] at h1
  obtain ⟨arr, h1, h2⟩ := h1
  obtain ⟨h3, h4⟩ := h2.cut hcut
  unfold asV at h
  cases hag : isAggB P fd.type with
  | true =>
    simp only [hag, cond_true, Option.some.injEq] at h
    subst h
    refine ⟨.agg (arr.extract fd.offset (fd.offset + i.size)), ?_, ?_⟩
    · simp only [execOp, ho, Instr.field, Sem.run_bind, run_underlying ht, Result.andThen_ok, hf, h1, asAgg, Sem.run_pure, part, run_isAgg hu, hag, if_true, run_sizeOf' hi]
    · refine ⟨_, rfl, ?_⟩
      have e : (arr.extract fd.offset (fd.offset + i.size)).toList = (arr.toList.drop fd.offset).take i.size := by
        simp
      rw [e]; exact h3
  | false =>
    simp only [hag, cond_false] at h
    split at h
    · rename_i x0
      simp only [Option.some.injEq] at h
      subst h
      have hl := h3.length
      simp only [List.length_cons, List.length_nil] at hl
      cases hd : (arr.toList.drop fd.offset).take i.size with
      | nil => rw [hd] at hl; simp at hl
      | cons y ys =>
        rw [hd] at h3
        have hget : arr[fd.offset]? = some y := by
          rw [← Array.getElem?_toList]
          have : ((arr.toList.drop fd.offset).take i.size)[0]? = some y := by rw [hd]; rfl
          rw [List.getElem?_take] at this
          split at this
          · simpa [List.getElem?_drop] using this
          · cases this
        simp only [RWlist] at h3
        refine ⟨y, ?_, h3.1⟩
        simp only [execOp, ho, Instr.field, Sem.run_bind, run_underlying ht, Result.andThen_ok, hf, h1, asAgg, Sem.run_pure, part, run_isAgg hu, hag, Bool.false_eq_true, if_false, hget]
    · cases h

end
end Go.Vs
