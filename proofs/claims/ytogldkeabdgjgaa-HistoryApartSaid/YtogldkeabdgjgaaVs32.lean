/- The value semantics, 32: code put together, and loops that count. -/
import Derived.Test.YtogldkeabdgjgaaVs31
namespace Go.Vs
open Go

section
variable {C : Ctx} {p : Nat}

theorem runSeq {a b : VCode} {s s' : St} (h : run C p a s = some (.normal, s')) : run C p (.seq a b) s = run C p b s' := by
  rw [run, h]

theorem runSeqStop {a b : VCode} {s s' : St} {e : Ex} (h : run C p a s = some (e, s')) (he : e ≠ .normal) : run C p (.seq a b) s = some (e, s') := by
  rw [run, h]
  cases e with
  | normal => exact absurd rfl he
  | exit _ => rfl
  | ret => rfl

theorem runCond {t : Nat} {x y : VCode} {s : St} {b : Bool} (h : get? s.env t = some (.sc (.c (.bool b)))) : run C p (.cond (.t t) x y) s = bif b then run C p x s else run C p y s := by
  simp [run, Opd.val, h]

theorem runBlock {k : Nat} {a : VCode} {s s' : St} (h : run C p a s = some (.normal, s')) : run C p (.block k a) s = some (.normal, s') := by
  rw [run, h]

theorem runBlockExit {k : Nat} {a : VCode} {s s' : St} (h : run C p a s = some (.exit k, s')) : run C p (.block k a) s = some (.normal, s') := by
  rw [run, h]
  simp

/-- A loop that counts to m: its head, and its body with the step. -/
theorem countLoop {lc lb : VCode} {b e : Nat} (I : Nat → St → Prop) {m : Nat}
    (hc : ∀ i s, i ≤ m → I i s → ∃ s', run C p lc s = some (.normal, s') ∧ get? s'.env b = some (.sc (.c (.bool (decide (i < m))))) ∧ I i s')
    (hb : ∀ i s, i < m → I i s → ∃ s', run C p lb s = some (.normal, s') ∧ I (i + 1) s') (hm : m < p) {s : St} (h : I 0 s) :
    ∃ s', run C p (.loop (.seq (.seq lc (.cond (.t b) .skip (.exit e))) lb)) s = some (.exit e, s') ∧ I m s' := by
  obtain ⟨x, s', h1, h2, h3⟩ := iter_inv I (R := fun x => x.1 = .exit e ∧ I m x.2) (m := m) (f := run C p (.seq (.seq lc (.cond (.t b) .skip (.exit e))) lb)) (fun i s hi h => by
    obtain ⟨s1, e1, b1, h1⟩ := hc i s hi h
    by_cases hlt : i < m
    · obtain ⟨s2, e2, h2⟩ := hb i s1 hlt h1
      refine .inl ⟨s2, ?_, hlt, h2⟩
      rw [runSeq (s' := s1) (by rw [runSeq e1, runCond b1]; simp [hlt, run])]
      exact e2
    · have : i = m := by omega
      subst this
      exact .inr ⟨_, s1, runSeqStop (by rw [runSeq e1, runCond b1]; simp [run]) (by simp), by simp, rfl, h1⟩) p 0 s (Nat.zero_le _) (by omega) h
  simp only at h2 h3
  subst h2
  exact ⟨s', h1, h3⟩

/-- The code ends so. -/
def Ends (C : Ctx) (p : Nat) (c : VCode) (s : St) (Q : Ex → St → Prop) : Prop := ∃ e s', run C p c s = some (e, s') ∧ Q e s'

theorem Ends.seqP {a b : VCode} {s : St} {Q : Ex → St → Prop} (R : St → Prop) (h1 : ∃ s', run C p a s = some (.normal, s') ∧ R s') (h2 : ∀ s', R s' → Ends C p b s' Q) : Ends C p (.seq a b) s Q := by
  obtain ⟨s', e1, hr⟩ := h1
  obtain ⟨e, s2, e2, hq⟩ := h2 s' hr
  exact ⟨e, s2, by rw [runSeq e1]; exact e2, hq⟩

theorem Ends.seqStop {a b : VCode} {s : St} {Q : Ex → St → Prop} (h : ∃ e s', run C p a s = some (e, s') ∧ e ≠ .normal ∧ Q e s') : Ends C p (.seq a b) s Q := by
  obtain ⟨e, s', e1, he, hq⟩ := h
  exact ⟨e, s', runSeqStop e1 he, hq⟩

theorem Ends.seqAssoc {a b c : VCode} {s : St} {Q : Ex → St → Prop} (h : Ends C p (.seq a (.seq b c)) s Q) : Ends C p (.seq (.seq a b) c) s Q := by
  obtain ⟨e, s', h, hq⟩ := h
  refine ⟨e, s', ?_, hq⟩
  simp only [run] at h ⊢
  cases ha : run C p a s with
  | none => rw [ha] at h; cases h
  | some x =>
    obtain ⟨e1, s1⟩ := x
    rw [ha] at h
    cases e1 <;> simpa using h

theorem Ends.condP {t : Nat} {x y : VCode} {s : St} {b : Bool} {Q : Ex → St → Prop} (h : get? s.env t = some (.sc (.c (.bool b)))) (h2 : Ends C p (bif b then x else y) s Q) : Ends C p (.cond (.t t) x y) s Q := by
  obtain ⟨e, s', h2, hq⟩ := h2
  refine ⟨e, s', ?_, hq⟩
  rw [runCond h]
  cases b <;> exact h2

theorem Ends.ret {s : St} {Q : Ex → St → Prop} (h : Q .ret s) : Ends C p .ret s Q := ⟨_, s, rfl, h⟩

/-- A function that returns one truth, from its body. -/
theorem evalFn_bool {T : FuncId → Option VFun} {X : Oracle} {gl : Nat → List Cell} {n f t : Nat} {vf : VFun} {args : List V} {b : Bool} (hT : T f = some vf) (hn : args.length = vf.nparams) (hr : vf.results = [.tmp t]) (hk : vf.keep = false)
    (h : Ends ⟨evalFn T X gl n, gl⟩ n vf.body ⟨enumF 0 args, []⟩ fun e s => e = .ret ∧ get? s.env t = some (.sc (.c (.bool b)))) : evalFn T X gl (n + 1) f args [] = some (.sc (.c (.bool b)), []) := by
  obtain ⟨e, s', h, rfl, hb⟩ := h
  have h0 : (args.length == vf.nparams && Nat.ble ([] : List Obj).length 64) = true := by simp [hn]
  simp only [evalFn, hT, h0, cond_true, List.map_nil, enumF, h, finish, hr, hk]
  simp [listM, resV, hb, notTu, V.toD, W.toC, deep, V.cells, W.ids, export1, packR, V.ren, W.ren]

end
end Go.Vs
