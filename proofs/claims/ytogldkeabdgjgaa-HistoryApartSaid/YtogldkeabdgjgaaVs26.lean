/- The value semantics, 26: functions. -/
import Derived.Test.YtogldkeabdgjgaaVs25
namespace Go.Vs
open Go

def enumF {α : Type} : Nat → List α → List (Nat × α)
  | _, [] => []
  | i, x :: r => (i, x) :: enumF (i + 1) r

def packR : List V → V
  | [v] => v
  | vs => .tu vs

def notTu : V → Bool
  | .tu _ => false
  | _ => true

/-- What a function hands back: its values, and the objects ks under new names. -/
def export1 (L : Nat → Option Obj) (ks : List Nat) (vs : List V) : Option (V × List Obj) :=
  match listM L ks with
  | none => none
  | some os => some (packR (vs.map (V.ren (indexIn ks))), os.map (Obj.ren (indexIn ks)))

def resV (s : St) : VRes → Option V
  | .tmp t => get? s.env t
  | .cell t ag n => (exec1 ⟨fun _ _ _ => none, fun _ => []⟩ (get? s.env) (look s.objs) 0 (.load ag n (.t t))).map (·.1)

def finish (keep : Bool) (m : Nat) (rs : List VRes) (s : St) : Option (V × List Obj) :=
  match listM (resV s) rs with
  | none => none
  | some vs =>
    bif vs.all notTu then
      bif keep then
        export1 (look s.objs) (List.range m ++ (reach (look s.objs) (vs.flatMap V.refs ++ (List.range m).flatMap fun k => match look s.objs k with | some o => o.refs | none => [])).filter fun k => Nat.ble 64 k) vs
      else match listM (V.toD (look s.objs)) vs with
        | none => none
        | some ds => bif vs.all (fun v => v.cells.all fun x => (W.ids (look s.objs) deep x).all fun k => Nat.ble 64 k) then export1 (look s.objs) (List.range m) ds else none
    else none

/-- The functions of a table; those outside of it by X. -/
def evalFn (T : FuncId → Option VFun) (X : Oracle) (gl : Nat → List Cell) : Nat → Oracle
  | 0, _, _, _ => none
  | n + 1, f, args, objs => match T f with
    | none => X f args objs
    | some vf => bif args.length == vf.nparams && Nat.ble objs.length 64 then
        match run ⟨evalFn T X gl n, gl⟩ n vf.body ⟨enumF 0 args, enumF 0 (objs.map some)⟩ with
        | some (.exit _, _) => none
        | some (_, s) => finish vf.keep objs.length vf.results s
        | none => none
      else none

def mRes (P : Program) : List ResultVar → List VRes → Bool
  | [], [] => true
  | .tmp t :: r, .tmp t' :: r' => t == t' && mRes P r r'
  | .cell t ty :: r, .cell t' ag n :: r' => t == t' && tyOk P ty n && isAggB P ty == ag && mRes P r r'
  | _, _ => false

def mFun (P : Program) (f : FuncId) (vf : VFun) : Bool := match P.funcs[f]? with
  | some fn => !(fn.name == "runtime.NumGoroutine") && (match fn.body with
    | some c => mCode P fn.ntmps c vf.body && mRes P fn.results.toList vf.results && Nat.ble vf.nparams fn.ntmps
    | none => false)
  | none => false

section
variable {P : Program} {C : Ctx} {N : Nat} {w0 : World} {ω0 : Nat → Nat} {S : Fr} {E : Nat → Option V} {L : Nat → Option Obj} {a : Act} {w : World} {ω : Nat → Nat} {β : Nat → Option Nat}

theorem get?_enumF {α : Type} : ∀ (l : List α) (i k : Nat), get? (enumF i l) k = if i ≤ k then l[k - i]? else none
  | [], i, k => by simp [enumF, get?]
  | x :: r, i, k => by
    simp only [enumF, get?]
    cases h : (i == k) with
    | true =>
      have : i = k := by simpa using h
      subst this
      simp
    | false =>
      have hne : i ≠ k := by simpa using h
      simp only [cond_false, get?_enumF r (i + 1) k]
      by_cases hle : i + 1 ≤ k
      · rw [if_pos hle, if_pos (by omega), show k - i = (k - (i + 1)) + 1 by omega]
        simp
      · rw [if_neg hle, if_neg (by omega)]

theorem get?_enum0 {α : Type} (l : List α) (k : Nat) : get? (enumF 0 l) k = l[k]? := by simp [get?_enumF]

theorem look_enum (objs : List Obj) : look (enumF 0 (objs.map some)) = Lof objs := by
  funext k
  simp only [look, get?_enum0, List.getElem?_map, Lof]
  cases objs[k]? <;> rfl

theorem RVs_get : ∀ {xs : List V} {vs : List Value}, RVs w ω β L xs vs → xs.length = vs.length ∧ ∀ (i : Nat) (x : V), xs[i]? = some x → ∃ v, vs[i]? = some v ∧ RV1 w ω β L x v
  | [], [], _ => ⟨rfl, fun i x h => by simp at h⟩
  | [], _ :: _, h => h.elim
  | _ :: _, [], h => h.elim
  | y :: xs, v :: vs, h => by
    obtain ⟨h1, h2⟩ := RVs_get h.2
    refine ⟨by simp [h1], fun i x hi => ?_⟩
    cases i with
    | zero =>
      simp only [List.getElem?_cons_zero, Option.some.injEq] at hi
      subst hi
      exact ⟨v, rfl, h.1⟩
    | succ i => simpa using h2 i x (by simpa using hi)

theorem RV_of1 {x : V} {v : Value} (h : RV1 w ω β L x v) : RV w ω β L x v := by
  cases x with
  | tu l => exact h.elim
  | _ => exact h

theorem RV1_of {x : V} {v : Value} (hx : notTu x = true) (h : RV w ω β L x v) : RV1 w ω β L x v := by
  cases x with
  | tu l => cases hx
  | _ => exact h

/-- How a result variable is read. -/
def resSem (tmps : Array Value) : ResultVar → Sem Value
  | .tmp t => pure (tmps.getD t undef)
  | .cell a t => do loadVar t (← asAddr (tmps.getD a undef))

theorem exec1_load_gl {C C' : Ctx} {E : Nat → Option V} {L : Nat → Option Obj} {oid n t : Nat} {ag : Bool} : exec1 C E L oid (.load ag n (.t t)) = exec1 C' E L oid (.load ag n (.t t)) := rfl

/-- The values of the results' variables. -/
theorem listM_res {s : St} (r : Rel C.gl N w0 ω0 S (get? s.env) (look s.objs) a w ω β) : ∀ {rs : List ResultVar} {vrs : List VRes} {vs : List V}, mRes P rs vrs = true → listM (resV s) vrs = some vs → vs.all notTu = true →
    ∃ us : List Value, (rs.mapM (resSem a.tmps)).run P w = .ok us w ∧ us.length = rs.length ∧ RVs w ω β (look s.objs) vs us
  | [], [], vs, _, h, _ => by simp [listM] at h; subst h; exact ⟨[], by simp, rfl, trivial⟩
  | [], _ :: _, _, h, _, _ => by simp [mRes] at h
  | .tmp _ :: _, [], _, h, _, _ => by simp [mRes] at h
  | .cell .. :: _, [], _, h, _, _ => by simp [mRes] at h
  | .cell .. :: _, .tmp _ :: _, _, h, _, _ => by simp [mRes] at h
  | .tmp _ :: _, .cell .. :: _, _, h, _, _ => by simp [mRes] at h
  | .tmp t :: rs, .tmp t' :: vrs, vs, hm, h, hn => by
    simp only [mRes, Bool.and_eq_true, beq_iff_eq] at hm
    obtain ⟨rfl, hm⟩ := hm
    simp only [listM, resV] at h
    cases hx : get? s.env t with
    | none => simp [hx] at h
    | some x =>
      simp only [hx] at h
      cases hl : listM (resV s) vrs with
      | none => simp [hl] at h
      | some vs' =>
        simp only [hl, Option.some.injEq] at h
        subst h
        simp only [List.all_cons, Bool.and_eq_true] at hn
        obtain ⟨us, h1, h2, h3⟩ := listM_res r hm hl hn.2
        refine ⟨a.tmps.getD t undef :: us, ?_, by simp [h2], RV1_of hn.1 (r.env t x hx).2, h3⟩
        simp only [List.mapM_cons, resSem, pure_bind, Sem.run_bind, h1, Result.andThen_ok, Sem.run_pure]
  | .cell t ty :: rs, .cell t' ag n :: vrs, vs, hm, h, hn => by
    simp only [mRes, Bool.and_eq_true, beq_iff_eq] at hm
    obtain ⟨⟨⟨rfl, hty⟩, rfl⟩, hm⟩ := hm
    obtain ⟨hu, i, hi, rfl⟩ := tyOk_ok hty
    simp only [listM, resV] at h
    cases hx : exec1 ⟨fun _ _ _ => none, fun _ => []⟩ (get? s.env) (look s.objs) 0 (.load (isAggB P ty) i.size (.t t)) with
    | none => simp [hx] at h
    | some q =>
      obtain ⟨x, u⟩ := q
      simp only [hx, Option.map_some] at h
      cases hl : listM (resV s) vrs with
      | none => simp [hl] at h
      | some vs' =>
        simp only [hl, Option.some.injEq] at h
        subst h
        simp only [List.all_cons, Bool.and_eq_true] at hn
        obtain ⟨us, h1, h2, h3⟩ := listM_res r hm hl hn.2
        rw [exec1_load_gl (C' := C)] at hx
        obtain ⟨_, b, off, vv, he, hrun, hv⟩ := load_key (x := .tmp t) r (by simp [mOpd]) hu hi hx
        refine ⟨vv :: us, ?_, by simp [h2], RV1_of hn.1 hv, h3⟩
        have he' : a.tmps.getD t undef = .pointer (some ⟨b, off, none⟩) := he
        simp only [List.mapM_cons, resSem, he', asAddr, pure_bind, Sem.run_bind, hrun, h1, Result.andThen_ok, Sem.run_pure]

theorem results_run {fn : Func} {tmps : Array Value} {us : List Value} (h : (fn.results.toList.mapM (resSem tmps)).run P w = .ok us w) {vs : List V} (hr : RVs w ω β L vs us) :
    ∃ v, (results fn tmps).run P w = .ok v w ∧ RV w ω β L (packR vs) v := by
  have h1 : (fn.results.mapM (resSem tmps)).run P w = .ok us.toArray w := by
    rw [← Array.toArray_toList (xs := fn.results), List.mapM_toArray, map_eq_pure_bind, Sem.run_bind, h, Result.andThen_ok, Sem.run_pure]
  refine ⟨if h : us.toArray.size = 1 then us.toArray[0] else .tuple us.toArray, ?_, ?_⟩
  · show ((fn.results.mapM (resSem tmps)) >>= fun vs => pure (if h : vs.size = 1 then vs[0] else .tuple vs)).run P w = _
    simp only [Sem.run_bind, h1, Result.andThen_ok, Sem.run_pure]
  · have hlen := (RVs_get hr).1
    match vs, us, hlen, hr with
    | [], [], _, hr => exact ⟨_, rfl, hr⟩
    | [x], [u], _, hr => exact RV_of1 hr.1
    | x :: y :: vs, u :: z :: us, _, hr => 
      rw [dif_neg (by simp)]
      exact ⟨_, rfl, hr⟩

end
end Go.Vs
