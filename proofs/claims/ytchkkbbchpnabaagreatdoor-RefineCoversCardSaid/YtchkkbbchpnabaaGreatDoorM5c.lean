/- The value semantics, 36: without fuel: what the evaluator says for some fuel, and code by what holds behind it. -/
import Derived.Test.YtchkkbbchpnabaaGreatDoorM4c
set_option linter.unusedSimpArgs false
set_option linter.unusedVariables false
set_option linter.deprecated false

/- The value semantics, 36: without fuel: what the evaluator says for some fuel, and code by what holds behind it. -/
namespace Go.Vs
open Go

/- ## The evaluator whose structs hold no nil -/

def nilW : W → W
  | .nil => .c (.sl [])
  | w => w
def nilC : V → V
  | .ag cs => .ag (cs.map nilW)
  | v => v
def nilV : V → V
  | .sc w => .sc w
  | .ag cs => .ag (cs.map nilW)
  | .tu l => .tu (l.map nilC)
def normR (keep : Bool) (r : V × List Obj) : V × List Obj := bif keep then r else (nilV r.1, r.2)

/-- The functions of a table; those outside of it by X; slices in results' structs are data. -/
def evalN (T : FuncId → Option VFun) (X : Oracle) (gl : Nat → List Cell) : Nat → Oracle
  | 0, _, _, _ => none
  | n + 1, f, args, objs => match T f with
    | none => X f args objs
    | some vf => bif args.length == vf.nparams && Nat.ble objs.length 64 then
        match run ⟨evalN T X gl n, gl⟩ n vf.body ⟨enumF 0 args, enumF 0 (objs.map some)⟩ with
        | some (.exit _, _) => none
        | some (_, s) => (finish vf.keep objs.length vf.results s).map (normR vf.keep)
        | none => none
      else none

section
variable {P : Program} {gl : Nat → List Cell} {w : World} {ω : Nat → Nat} {β : Nat → Option Nat} {L : Nat → Option Obj}

theorem nilW_ok {x : W} {v : Value} (h : RW w ω β L x v) : RW w ω β L (nilW x) v := by
  cases x <;> grind [RW, nilW, RD]
theorem nilWs_ok : ∀ {cs : List W} {vs : List Value}, RWlist w ω β L cs vs → RWlist w ω β L (cs.map nilW) vs
  | [], [], _ => trivial
  | [], _ :: _, h => h.elim
  | _ :: _, [], h => h.elim
  | x :: cs, v :: vs, h => ⟨nilW_ok h.1, nilWs_ok h.2⟩
theorem nilV1_ok {x : V} {v : Value} (h : RV1 w ω β L x v) : RV1 w ω β L (nilC x) v := by
  cases x with
  | ag cs =>
    obtain ⟨a, h1, h2⟩ := h
    exact ⟨a, h1, nilWs_ok h2⟩
  | _ => exact h
theorem nilVs_ok : ∀ {xs : List V} {vs : List Value}, RVs w ω β L xs vs → RVs w ω β L (xs.map nilC) vs
  | [], [], _ => trivial
  | [], _ :: _, h => h.elim
  | _ :: _, [], h => h.elim
  | x :: xs, v :: vs, h => ⟨nilV1_ok h.1, nilVs_ok h.2⟩
theorem nilV_ok {x : V} {v : Value} (h : RV w ω β L x v) : RV w ω β L (nilV x) v := by
  cases x with
  | sc x => exact h
  | ag cs => exact nilV1_ok (x := .ag cs) h
  | tu l =>
    obtain ⟨a, h1, h2⟩ := h
    exact ⟨a, h1, nilVs_ok h2⟩

theorem FnOk.norm {f : FuncId} {args : List V} {objs objs' : List Obj} {rv : V} (h : FnOk P gl f args objs rv objs') (keep : Bool) : FnOk P gl f args objs (normR keep (rv, objs')).1 (normR keep (rv, objs')).2 := by
  cases keep with
  | true => exact h
  | false =>
    refine ⟨h.1, fun w ω β cargs h1 h2 h3 h4 => (h.2 w ω β cargs h1 h2 h3 h4).mono ?_⟩
    rintro e w' ⟨vv, ω', β', q1, q2, q3⟩
    exact ⟨vv, ω', β', q1, nilV_ok q2, q3⟩

/-- One call, its callees by o0. -/
theorem step_ok {o0 : Oracle} (hP : P.follows .mixedOrders = true) (hOr : OracleOk P ⟨o0, gl⟩) {n : Nat} {f : FuncId} {vf : VFun} (hm : mFun P f vf = true) {args : List V} {objs : List Obj} {rv : V} {objs' : List Obj}
    (hc : args.length = vf.nparams ∧ Nat.ble objs.length 64 = true)
    (h : (match run ⟨o0, gl⟩ n vf.body ⟨enumF 0 args, enumF 0 (objs.map some)⟩ with
        | some (.exit _, _) => none
        | some (_, s) => finish vf.keep objs.length vf.results s
        | none => none) = some (rv, objs')) : FnOk P gl f args objs rv objs' := by
  have hlen : objs.length ≤ 64 := Nat.le_of_ble_eq_true hc.2
  unfold mFun at hm
  split at hm
  · rename_i fn hfn
    simp only [Bool.and_eq_true, Bool.not_eq_true'] at hm
    obtain ⟨hname, hm⟩ := hm
    split at hm
    · rename_i c hbody
      simp only [Bool.and_eq_true] at hm
      obtain ⟨⟨m1, m2⟩, m3⟩ := hm
      refine ⟨⟨fn, hfn, by grind, hname⟩, ?_⟩
      intro w ω β cargs hgl hargs hobj hinj
      obtain ⟨al, ag⟩ := RVs_get hargs
      have al' : args.length = cargs.size := by omega
      have hnp : cargs.size ≤ fn.ntmps := by simp_all
      have r0 : Rel gl fn.ntmps w ω (callFr objs w β) (get? (enumF 0 args)) (look (enumF 0 (objs.map some))) { tmps := cargs ++ Array.replicate (fn.ntmps - cargs.size) undef, defers := [] } w ω β := by
        rw [look_enum]
        refine ⟨by grind, trivial, ?_, hobj, hinj, Keeps.refl _ _ _, fun k b hk hb => .inl ⟨k, hk, hb⟩, hgl, fun k _ => Tr.refl k⟩
        intro t x ht
        rw [get?_enum0] at ht
        obtain ⟨v, hv1, hv2⟩ := ag t x ht
        have hlt : t < cargs.size := by
          grind
        refine ⟨by omega, ?_⟩
        have : (cargs ++ Array.replicate (fn.ntmps - cargs.size) undef).getD t undef = v := by
          rw [Array.getD_eq_getD_getElem?, Array.getElem?_append_left hlt, ← Array.getElem?_toList, hv1]
          rfl
        grind [RV_of1]
      have post : ∀ {s : St}, finish vf.keep objs.length vf.results s = some (rv, objs') → ∀ (a : Act) (w' : World) (ω' : Nat → Nat) (β' : Nat → Option Nat), Rel gl fn.ntmps w ω (callFr objs w β) (get? s.env) (look s.objs) a w' ω' β' →
          LeavesInM Fence.wide 0 P fn a.tmps (fun e w' => ∃ vv ω2 β2, e = .returned vv ∧ RV w' ω2 β2 (Lof objs') rv vv ∧
          (∀ k o, Lof objs' k = some o → ObjOk w' ω2 β2 (Lof objs') k o) ∧
          (∀ j k b, Lof objs' j ≠ none → Lof objs' k ≠ none → β2 j = some b → β2 k = some b → j = k) ∧
          Keeps w ω (fun b => ∃ k, Lof objs k ≠ none ∧ β k = some b) w' ω2 ∧
          (∀ k b, Lof objs' k ≠ none → β2 k = some b → (∃ j, Lof objs j ≠ none ∧ β j = some b) ∨ w.heap.size ≤ b) ∧
          (∀ k, Tr w β w' β2 (Lof objs) (Lof objs') k)) a.defers .returning w' := by
        intro s hs a w' ω' β' r
        refine leave_ok (S := callFr objs w β) (Nat.le_refl _) rfl (fun w' ω' β' r => ?_) r
        obtain ⟨v, ω2, β2, q1, q2⟩ := finish_ok (P := P) (C := ⟨o0, gl⟩) r hlen m2 hs
        grind
      refine (callsIn_wide (n := 0)).1 (callsIn_of_wp_marks hfn hbody trivial ((wpIn_wide (n := 0)).2 ?_))
      split at h
      grind
      · rename_i ex s hne hrun
        refine run_ok (C := ⟨o0, gl⟩) hOr hP (S := callFr objs w β) (fun k hk => Nat.lt_of_lt_of_le hk hlen) (Nat.le_refl _) m1 hrun r0 fun a w' ω' β' r => ?_
        cases ex with
        | normal => exact post h a w' ω' β' r
        | exit id => grind
        | ret => exact post h a w' ω' β' r
      grind
    grind
  grind

theorem evalN_ok {T : FuncId → Option VFun} {X : Oracle} (hP : P.follows .mixedOrders = true) (hT : ∀ f vf, T f = some vf → mFun P f vf = true)
    (hX : ∀ f args objs rv objs', X f args objs = some (rv, objs') → FnOk P gl f args objs rv objs') :
    ∀ (n : Nat) {f : FuncId} {args : List V} {objs : List Obj} {rv : V} {objs' : List Obj}, evalN T X gl n f args objs = some (rv, objs') → FnOk P gl f args objs rv objs' := by
  intro n
  induction n with
  | zero => grind [evalN]
  | succ n ih =>
    intro f args objs rv objs' h
    simp only [evalN] at h
    split at h
    grind
    · rename_i vf hvf
      cases hc : (args.length == vf.nparams && Nat.ble objs.length 64) with
      | false => grind
      | true =>
        rw [hc] at h
        simp only [cond_true] at h
        simp only [Bool.and_eq_true, beq_iff_eq] at hc
        have key : ∀ {rv : V} {objs' : List Obj}, (match run ⟨evalN T X gl n, gl⟩ n vf.body ⟨enumF 0 args, enumF 0 (objs.map some)⟩ with
            | some (.exit _, _) => none
            | some (_, s) => finish vf.keep objs.length vf.results s
            | none => none) = some (rv, objs') → FnOk P gl f args objs rv objs' := fun h => step_ok hP (fun f args objs rv objs' h => ih h) (hT f vf hvf) hc h
        cases hr : run ⟨evalN T X gl n, gl⟩ n vf.body ⟨enumF 0 args, enumF 0 (objs.map some)⟩ with
        | none => grind
        | some x =>
          obtain ⟨e, s⟩ := x
          rw [hr] at h key
          have fin : (finish vf.keep objs.length vf.results s).map (normR vf.keep) = some (rv, objs') → (∀ {rv : V} {objs' : List Obj}, finish vf.keep objs.length vf.results s = some (rv, objs') → FnOk P gl f args objs rv objs') → FnOk P gl f args objs rv objs' := by
            intro h1 h2
            obtain ⟨y, h3, h4⟩ := Option.map_eq_some_iff.1 h1
            have := (h2 h3).norm vf.keep
            grind
          grind

end

def Le (c c' : Oracle) : Prop := ∀ f a o r, c f a o = some r → c' f a o = some r

theorem Le.refl (c : Oracle) : Le c c := fun _ _ _ _ h => h
theorem Le.trans {c c' c'' : Oracle} (h : Le c c') (h' : Le c' c'') : Le c c'' := fun f a o r e => h' f a o r (h f a o r e)

/-- Oracles that grow. -/
structure Fam where
  A : Nat → Oracle
  mono : ∀ {m n : Nat}, m ≤ n → Le (A m) (A n)

/-- l says what one of them says. -/
def Fam.Lim (F : Fam) (l : Oracle) : Prop := ∀ f a o r, l f a o = some r → ∃ m, F.A m f a o = some r

/-- What l makes of it is what a great enough one makes of it. -/
def Cont {α : Type} (F : Fam) (l : Oracle) (G : Oracle → Option α) : Prop := ∀ r, G l = some r → ∃ m, ∀ c', Le (F.A m) c' → G c' = some r

section
variable {F : Fam} {l : Oracle}

theorem Cont.const {α : Type} {G : Oracle → Option α} (h : ∀ c, G c = G l) : Cont F l G := fun r e => ⟨0, fun c' _ => (h c').trans e⟩

theorem Cont.bind {α γ : Type} {G : Oracle → Option α} {H : α → Oracle → Option γ} {K : Oracle → Option γ} (hK : ∀ c, K c = (G c).bind fun x => H x c) (hG : Cont F l G) (hH : ∀ x, Cont F l (H x)) : Cont F l K := by
  intro r e
  rw [hK] at e
  obtain ⟨x, h1, h2⟩ := Option.bind_eq_some_iff.1 e
  obtain ⟨m, hm⟩ := hG x h1
  obtain ⟨m', hm'⟩ := hH x r h2
  refine ⟨max m m', fun c' hc => ?_⟩
  rw [hK, hm c' ((F.mono (Nat.le_max_left ..)).trans hc), Option.bind_some]
  exact hm' c' ((F.mono (Nat.le_max_right ..)).trans hc)

theorem cont_call (hl : F.Lim l) {f : FuncId} {a : List V} {o : List Obj} : Cont F l fun c => c f a o := fun r e => by
  obtain ⟨m, hm⟩ := hl f a o r e
  exact ⟨m, fun c' hc => hc f a o r hm⟩

theorem cont_call1 (hl : F.Lim l) {L : Nat → Option Obj} {oid : Nat} {f : V} {args : List (Bool × V)} : Cont F l fun c => call1 c L oid f args := by
  intro r e
  unfold call1 at e ⊢
  cases hf : calleeOf f with
  | none => rw [hf] at e; cases e
  | some gc =>
    obtain ⟨g, caps⟩ := gc
    rw [hf] at e
    dsimp only at e ⊢
    cases ha : argsOf L (args ++ caps) with
    | none => grind
    | some q =>
      obtain ⟨vs, ds, rs⟩ := q
      rw [ha] at e
      dsimp only at e ⊢
      cases hL : listM L (reach L rs) with
      | none => grind
      | some os =>
        rw [hL] at e
        dsimp only at e ⊢
        cases hb : ((reach L rs).all fun k => !ds.contains k) && (reach L (reach L rs)).length == (reach L rs).length with
        | false => grind
        | true =>
          rw [hb] at e
          simp only [cond_true] at e ⊢
          cases hc : l g (vs.map (V.ren (indexIn (reach L rs)))) (os.map (Obj.ren (indexIn (reach L rs)))) with
          | none => grind
          | some x =>
            obtain ⟨m, hm⟩ := hl _ _ _ _ hc
            rw [hc] at e
            refine ⟨m, fun c' hcc => ?_⟩
            rw [hcc _ _ _ _ hm]
            exact e

theorem cont_exec1 (hl : F.Lim l) {gl : Nat → List Cell} {E : Nat → Option V} {L : Nat → Option Obj} {oid : Nat} {op : VOp} : Cont F l fun c => exec1 ⟨c, gl⟩ E L oid op := by
  cases op with
  | call f args own =>
    intro r e
    have hv : ∀ c, exec1 ⟨c, gl⟩ E L oid (.call f args own) = (bif (ownArgs oid own 0 (vals ⟨l, gl⟩ E args)).2.all (fun u => (L u.1).isNone) then match call1 c (updL L (ownArgs oid own 0 (vals ⟨l, gl⟩ E args)).2) (oid + 32) (f.val ⟨l, gl⟩ E) (ownArgs oid own 0 (vals ⟨l, gl⟩ E args)).1 with
      | none => none
      | some (v, u) => some (v, (ownArgs oid own 0 (vals ⟨l, gl⟩ E args)).2 ++ u)
      else none) := by
      intro c
      rfl
    try dsimp only at e ⊢
    rw [hv] at e
    simp only [hv]
    cases hb : (ownArgs oid own 0 (vals ⟨l, gl⟩ E args)).2.all (fun u => (L u.1).isNone) with
    | false => grind
    | true =>
      rw [hb] at e
      simp only [cond_true] at e ⊢
      cases hc : call1 l (updL L (ownArgs oid own 0 (vals ⟨l, gl⟩ E args)).2) (oid + 32) (f.val ⟨l, gl⟩ E) (ownArgs oid own 0 (vals ⟨l, gl⟩ E args)).1 with
      | none => grind
      | some x =>
        obtain ⟨m, hm⟩ := cont_call1 hl _ hc
        rw [hc] at e
        refine ⟨m, fun c' hcc => ?_⟩
        grind
  | _ => exact fun r e => ⟨0, fun c' _ => e⟩

theorem cont_runO (hl : F.Lim l) {gl : Nat → List Cell} {o : VOper} {E : Nat → Option V} {L : Nat → Option Obj} : Cont F l fun c => runO ⟨c, gl⟩ o E L := by
  have base : ∀ r, (match exec1 ⟨l, gl⟩ E L o.oid o.op with
      | none => none
      | some r => ownV o.oid o.own L r) = some r → ∃ m, ∀ c', Le (F.A m) c' → (match exec1 ⟨c', gl⟩ E L o.oid o.op with
      | none => none
      | some r => ownV o.oid o.own L r) = some r := by
    intro r e
    cases hc : exec1 ⟨l, gl⟩ E L o.oid o.op with
    | none => rw [hc] at e; cases e
    | some x =>
      obtain ⟨m, hm⟩ := cont_exec1 hl _ hc
      rw [hc] at e
      refine ⟨m, fun c' hcc => ?_⟩
      grind
  unfold runO
  cases o.guard with
  | none => exact base
  | some q =>
    obtain ⟨t, want⟩ := q
    dsimp only
    cases E t with
    | none => exact .const fun _ => rfl
    | some v => cases v with
      | sc w => cases w with
        | c x => cases x with
          | bool b =>
            dsimp only
            cases b == want with
            | true => exact base
            | false => exact .const fun _ => rfl
          | _ => exact .const fun _ => rfl
        | _ => exact .const fun _ => rfl
      | _ => exact .const fun _ => rfl

def St.next (s : St) (d : Option Nat) (v : V) (u : Upd) : St := ⟨match d with | some d => put s.env d v | none => s.env, putAll s.objs u⟩

theorem execL_cons {C : Ctx} {o : VOper} {r : List VOper} {s : St} : execL C (o :: r) s = (runO C o (get? s.env) (look s.objs)).bind fun x => execL C r (s.next o.dst x.1 x.2) := by
  simp only [execL, execO, St.next]
  cases runO C o (get? s.env) (look s.objs) with
  | none => rfl
  | some x => cases o.dst <;> rfl

theorem execR_cons {C : Ctx} {o : VOper} {r : List VOper} {s : St} : execR C (o :: r) s = (runO C o (get? s.env) (look s.objs)).bind fun x => (execR C r (s.next o.dst x.1 x.2)).bind fun y =>
    some (⟨(recO C (get? s.env) (look s.objs) o x.2).1, (recO C (get? s.env) (look s.objs) o x.2).2, x.2.map (·.1)⟩ :: y.1, y.2) := by
  simp only [execR, St.next]
  cases runO C o (get? s.env) (look s.objs) with
  | none => rfl
  | some x =>
    simp only [Option.bind_some]
    cases o.dst with
    | none => simp only; cases execR C r ⟨s.env, putAll s.objs x.2⟩ <;> rfl
    | some d => simp only; cases execR C r ⟨put s.env d x.1, putAll s.objs x.2⟩ <;> rfl

theorem cont_execL (hl : F.Lim l) {gl : Nat → List Cell} : ∀ (ops : List VOper) (s : St), Cont F l fun c => execL ⟨c, gl⟩ ops s
  | [], s => fun r e => ⟨0, fun c' _ => e⟩
  | o :: r, s => Cont.bind (G := fun c => runO ⟨c, gl⟩ o (get? s.env) (look s.objs)) (H := fun x c => execL ⟨c, gl⟩ r (s.next o.dst x.1 x.2)) (fun c => execL_cons) (cont_runO hl) fun x => cont_execL hl r _

theorem cont_execR (hl : F.Lim l) {gl : Nat → List Cell} : ∀ (ops : List VOper) (s : St), Cont F l fun c => execR ⟨c, gl⟩ ops s
  | [], s => fun r e => ⟨0, fun c' _ => e⟩
  | o :: r, s => by
    have h1 : ∀ (c : Oracle) (u : Upd), recO ⟨c, gl⟩ (get? s.env) (look s.objs) o u = recO ⟨l, gl⟩ (get? s.env) (look s.objs) o u := by
      intro c u
      rfl
    refine Cont.bind (G := fun c => runO ⟨c, gl⟩ o (get? s.env) (look s.objs)) (H := fun x c => (execR ⟨c, gl⟩ r (s.next o.dst x.1 x.2)).bind fun y =>
      some (⟨(recO ⟨l, gl⟩ (get? s.env) (look s.objs) o x.2).1, (recO ⟨l, gl⟩ (get? s.env) (look s.objs) o x.2).2, x.2.map (·.1)⟩ :: y.1, y.2)) (fun c => ?_) (cont_runO hl) fun x => ?_
    grind [execR_cons]
    · exact Cont.bind (G := fun c => execR ⟨c, gl⟩ r (s.next o.dst x.1 x.2)) (H := fun y _ => some (⟨(recO ⟨l, gl⟩ (get? s.env) (look s.objs) o x.2).1, (recO ⟨l, gl⟩ (get? s.env) (look s.objs) o x.2).2, x.2.map (·.1)⟩ :: y.1, y.2)) (fun c => rfl) (cont_execR hl r _) fun y => .const fun _ => rfl

theorem cont_runOps (hl : F.Lim l) {gl : Nat → List Cell} {ops : List VOper} {chk : List (Nat × Nat)} {s : St} : Cont F l fun c => runOps ⟨c, gl⟩ ops chk s := by
  intro r e
  unfold runOps at e ⊢
  cases chk with
  | nil => exact cont_execL hl ops s r e
  | cons x y =>
    dsimp only at e ⊢
    cases hc : execR ⟨l, gl⟩ ops s with
    | none => grind
    | some q =>
      rw [hc] at e
      obtain ⟨m, hm⟩ := cont_execR hl ops s _ hc
      refine ⟨m, fun c' hcc => ?_⟩
      grind

end

/-- The same with more fuel, too. -/
def ContN {α : Type} (F : Fam) (l : Oracle) (n : Nat) (G : Oracle → Nat → Option α) : Prop := ∀ r, G l n = some r → ∃ m, ∀ c', Le (F.A m) c' → ∀ n', n ≤ n' → G c' n' = some r

section
variable {F : Fam} {l : Oracle} {n : Nat}

theorem ContN.of {α : Type} {G : Oracle → Option α} (h : Cont F l G) : ContN F l n fun c _ => G c := fun r e => by
  obtain ⟨m, hm⟩ := h r e
  exact ⟨m, fun c' hc _ _ => hm c' hc⟩

theorem ContN.const {α : Type} {G : Oracle → Nat → Option α} (h : ∀ c k, G c k = G l n) : ContN F l n G := fun r e => ⟨0, fun c' _ n' _ => (h c' n').trans e⟩

theorem ContN.bind {α γ : Type} {G : Oracle → Nat → Option α} {H : α → Oracle → Nat → Option γ} {K : Oracle → Nat → Option γ} (hK : ∀ c k, K c k = (G c k).bind fun x => H x c k) (hG : ContN F l n G) (hH : ∀ x, ContN F l n (H x)) : ContN F l n K := by
  intro r e
  rw [hK] at e
  obtain ⟨x, h1, h2⟩ := Option.bind_eq_some_iff.1 e
  obtain ⟨m, hm⟩ := hG x h1
  obtain ⟨m', hm'⟩ := hH x r h2
  refine ⟨max m m', fun c' hc n' hn => ?_⟩
  rw [hK, hm c' ((F.mono (Nat.le_max_left ..)).trans hc) n' hn, Option.bind_some]
  exact hm' c' ((F.mono (Nat.le_max_right ..)).trans hc) n' hn

theorem contN_iter {f : Oracle → Nat → St → Option (Ex × St)} (hf : ∀ s, ContN F l n fun c k => f c k s) : ∀ (j : Nat) (s : St) (r : Ex × St), iter (f l n) j s = some r → ∃ m, ∀ c', Le (F.A m) c' → ∀ n', n ≤ n' → ∀ j', j ≤ j' → iter (f c' n') j' s = some r := by
  intro j
  induction j with
  | zero => intro s r h; cases h
  | succ j ih =>
    intro s r h
    simp only [iter] at h
    cases hs : f l n s with
    | none => grind
    | some q =>
      obtain ⟨e, s1⟩ := q
      obtain ⟨m, hm⟩ := hf s _ hs
      have stop : e ≠ .normal → (r = (e, s1)) → ∃ m, ∀ c', Le (F.A m) c' → ∀ n', n ≤ n' → ∀ j', j + 1 ≤ j' → iter (f c' n') j' s = some r := by
        intro he hr
        refine ⟨m, fun c' hc n' hn j' hj => ?_⟩
        obtain ⟨j', rfl⟩ : ∃ i, j' = i + 1 := ⟨j' - 1, by omega⟩
        grind [iter]
      rw [hs] at h
      cases e with
      | normal =>
        simp only at h
        obtain ⟨m2, hm2⟩ := ih s1 r h
        refine ⟨max m m2, fun c' hc n' hn j' hj => ?_⟩
        obtain ⟨j', rfl⟩ : ∃ i, j' = i + 1 := ⟨j' - 1, by omega⟩
        simp only [iter, hm c' ((F.mono (Nat.le_max_left ..)).trans hc) n' hn]
        exact hm2 c' ((F.mono (Nat.le_max_right ..)).trans hc) n' hn j' (by omega)
      | exit i => simp_all
      | ret => simp_all

theorem contN_rounds {fA fB : Oracle → Nat → St → Option (Ex × St)} (hA : ∀ s, ContN F l n fun c k => fA c k s) (hB : ∀ s, ContN F l n fun c k => fB c k s) {drops dB : List Nat} {s p q : Nat} {ag : Bool} {rows : List (List Cell)} :
    ∀ (i : Nat) (st : St), ContN F l n fun c k => rounds (fA c k) (fB c k) drops dB s ag p q rows i st := by
  intro i
  induction i with
  | zero => intro st; exact .const fun _ _ => rfl
  | succ i ih =>
    intro st
    simp only [rounds]
    cases rows[i]? with
    | none => exact .const fun _ _ => rfl
    | some row =>
      simp only
      cases (row.length == s) with
      | false => exact .const fun _ _ => rfl
      | true =>
        simp only [cond_true]
        cases asV ag (row.map W.c) with
        | none => exact .const fun _ _ => rfl
        | some v =>
          simp only
          refine ContN.bind (G := fun c k => fA c k ⟨put (put (st.scrub drops).env p (.sc (.c (.int .i64 i)))) q v, (st.scrub drops).objs⟩) (H := fun x c k => match x with
            | (.normal, s1) => bif dB.all (fun k => (look s1.objs k).isNone) then match fB c k s1 with
              | some (.normal, s2) => rounds (fA c k) (fB c k) drops dB s ag p q rows i ⟨(st.scrub drops).env, s2.objs⟩
              | some (.exit id, s2) => some (.exit id, ⟨(st.scrub drops).env, s2.objs⟩)
              | some (.ret, s2) => some (.ret, ⟨(st.scrub drops).env, s2.objs⟩)
              | none => none
              else none
            | _ => none) (fun c k => ?_) (hA ⟨put (put (st.scrub drops).env p (.sc (.c (.int .i64 i)))) q v, (st.scrub drops).objs⟩) fun x => ?_
          · cases fA c k ⟨put (put (st.scrub drops).env p (.sc (.c (.int .i64 i)))) q v, (st.scrub drops).objs⟩ with
            | none => rfl
            | some x => obtain ⟨e, s1⟩ := x; cases e <;> rfl
          · obtain ⟨e, s1⟩ := x
            cases e with
            | exit _ => exact .const fun _ _ => rfl
            | ret => exact .const fun _ _ => rfl
            | normal =>
              simp only
              cases dB.all (fun k => (look s1.objs k).isNone) with
              | false => exact .const fun _ _ => rfl
              | true =>
                simp only [cond_true]
                refine ContN.bind (G := fun c k => fB c k s1) (H := fun x c k => match x with
                  | (.normal, s2) => rounds (fA c k) (fB c k) drops dB s ag p q rows i ⟨(st.scrub drops).env, s2.objs⟩
                  | (.exit id, s2) => some (Ex.exit id, ⟨(st.scrub drops).env, s2.objs⟩)
                  | (.ret, s2) => some (Ex.ret, ⟨(st.scrub drops).env, s2.objs⟩)) (fun c k => ?_) (hB s1) fun x => ?_
                · cases fB c k s1 with
                  | none => rfl
                  | some x => obtain ⟨e, s2⟩ := x; cases e <;> rfl
                · obtain ⟨e, s2⟩ := x
                  cases e with
                  | normal => exact ih _
                  | exit _ => exact .const fun _ _ => rfl
                  | ret => exact .const fun _ _ => rfl

theorem contN_run (hl : F.Lim l) {gl : Nat → List Cell} : ∀ (c : VCode) (s : St), ContN F l n fun o k => run ⟨o, gl⟩ k c s := by
  intro c
  induction c with
  | skip => intro s; exact .const fun _ _ => rfl
  | exit i => intro s; exact .const fun _ _ => rfl
  | ret => intro s; exact .const fun _ _ => rfl
  | bad => intro s; exact .const fun _ _ => rfl
  | melt k b ih => intro s; exact ih (s.melt k)
  | region drop ops chk live =>
    intro s
    refine ContN.bind (G := fun o _ => runOps ⟨o, gl⟩ ops chk (match drop with | [] => s | _ => s.scrub drop)) (H := fun s' _ _ => some (Ex.normal, s'.live live)) (fun o k => ?_) (.of (cont_runOps hl)) fun x => .const fun _ _ => rfl
    simp only [run]
    cases runOps ⟨o, gl⟩ ops chk (match drop with | [] => s | _ => s.scrub drop) with
    | none => rfl
    | some s' => rfl
  | seq a b iha ihb =>
    intro s
    refine ContN.bind (G := fun o k => run ⟨o, gl⟩ k a s) (H := fun x o k => match x with | (.normal, s') => run ⟨o, gl⟩ k b s' | r => some r) (fun o k => ?_) (iha s) fun x => ?_
    · simp only [run]
      cases run ⟨o, gl⟩ k a s <;> grind
    · obtain ⟨e, s'⟩ := x
      cases e with
      | normal => simp_all
      | exit _ => exact .const fun _ _ => rfl
      | ret => exact .const fun _ _ => rfl
  | cond c x y ihx ihy =>
    intro s
    simp only [run]
    have hv : ∀ o, c.val ⟨o, gl⟩ (get? s.env) = c.val ⟨l, gl⟩ (get? s.env) := fun o => by rfl
    simp only [hv]
    split
    · rename_i t _
      cases t <;> simp_all
    · exact .const fun _ _ => rfl
  | block id b ih =>
    intro s
    refine ContN.bind (G := fun o k => run ⟨o, gl⟩ k b s) (H := fun x _ _ => match x with | (.exit id', s') => bif id' == id then some (.normal, s') else some (.exit id', s') | r => some r) (fun o k => ?_) (ih s) fun x => .const fun _ _ => rfl
    simp only [run]
    cases run ⟨o, gl⟩ k b s <;> grind
  | loop b ih =>
    intro s r h
    simp only [run] at h
    obtain ⟨m, hm⟩ := contN_iter (f := fun o k => run ⟨o, gl⟩ k b) ih n s r h
    exact ⟨m, fun c' hc n' hn => hm c' hc n' hn n' hn⟩
  | rangeB x f s ag p q asg body iha ihb =>
    intro st
    simp only [run]
    have hv : ∀ o, x.val ⟨o, gl⟩ (get? st.env) = x.val ⟨l, gl⟩ (get? st.env) := fun o => by rfl
    simp only [hv]
    split
    · rename_i f' k _
      cases (f' == f && Nat.ble 64 k) with
      | false => exact .const fun _ _ => rfl
      | true =>
        simp only [cond_true]
        split
        · rename_i rows _
          cases Nat.ble rows.length maxRows2 with
          | false => exact .const fun _ _ => rfl
          | true =>
            simp only [cond_true]
            exact contN_rounds iha ihb _ _
        · exact .const fun _ _ => rfl
    · exact .const fun _ _ => rfl

end

/-- A family that does not grow. -/
def Fam.one (c : Oracle) : Fam := ⟨fun _ => c, fun _ => Le.refl c⟩

theorem run_mono {gl : Nat → List Cell} {c c' : Oracle} (h : Le c c') {n n' : Nat} (hn : n ≤ n') {code : VCode} {s : St} {r : Ex × St} (e : run ⟨c, gl⟩ n code s = some r) : run ⟨c', gl⟩ n' code s = some r := by
  obtain ⟨m, hm⟩ := contN_run (F := .one c) (l := c) (gl := gl) (fun f a o r h => ⟨0, h⟩) code s r e
  exact hm c' h n' hn

section
variable {T : FuncId → Option VFun} {X : Oracle} {gl : Nat → List Cell}

theorem evalN_le : ∀ {n n' : Nat}, n ≤ n' → Le (evalN T X gl n) (evalN T X gl n') := by
  intro n
  induction n with
  | zero => intro n' _ f a o r h; cases h
  | succ n ih =>
    intro n' hn f a o r h
    obtain ⟨n', rfl⟩ : ∃ k, n' = k + 1 := ⟨n' - 1, by omega⟩
    grind [evalN, run_mono]

/-- What the functions say for some fuel. -/
noncomputable def lim (T : FuncId → Option VFun) (X : Oracle) (gl : Nat → List Cell) : Oracle := fun f a o =>
  open Classical in if h : ∃ r n, evalN T X gl n f a o = some r then some (Classical.choose h) else none

def fam (T : FuncId → Option VFun) (X : Oracle) (gl : Nat → List Cell) : Fam := ⟨evalN T X gl, evalN_le⟩

theorem lim_lim : (fam T X gl).Lim (lim T X gl) := by
  intro f a o r h
  unfold lim at h
  split at h
  · rename_i hx
    cases h
    exact Classical.choose_spec hx
  grind

theorem lim_of {n : Nat} {f : FuncId} {a : List V} {o : List Obj} {r : V × List Obj} (h : evalN T X gl n f a o = some r) : lim T X gl f a o = some r := by
  have hx : ∃ r n, evalN T X gl n f a o = some r := ⟨r, n, h⟩
  unfold lim
  rw [dif_pos hx]
  obtain ⟨n', h'⟩ := Classical.choose_spec hx
  rcases Nat.le_total n n' with hn | hn
  · have := evalN_le hn f a o r h
    grind
  · have := evalN_le hn f a o _ h'
    grind

theorem lim_ex {f : FuncId} {a : List V} {o : List Obj} {r : V × List Obj} (h : lim T X gl f a o = some r) : ∃ n, evalN T X gl n f a o = some r := lim_lim f a o r h

/-- Code by what holds behind it. -/
def wp (C : Ctx) (c : VCode) (Q : Ex → St → Prop) (s : St) : Prop := ∃ n e s', run C n c s = some (e, s') ∧ Q e s'

/-- How a function ends. -/
def doneQ (keep : Bool) (m : Nat) (rs : List VRes) (r : V × List Obj) : Ex → St → Prop := fun e s => (∀ id, e ≠ .exit id) ∧ (finish keep m rs s).map (normR keep) = some r

theorem evalN_body {n f : Nat} {vf : VFun} {args : List V} {objs : List Obj} {r : V × List Obj} (hT : T f = some vf) (hn : args.length = vf.nparams) (ho : objs.length ≤ 64)
    (h : ∃ e s', run ⟨evalN T X gl n, gl⟩ n vf.body ⟨enumF 0 args, enumF 0 (objs.map some)⟩ = some (e, s') ∧ doneQ vf.keep objs.length vf.results r e s') : evalN T X gl (n + 1) f args objs = some r := by
  obtain ⟨e, s', h, he, hb⟩ := h
  grind [Nat.ble_eq_true_of_le, evalN]

/-- A function, from its body. -/
theorem lim_wp {f : FuncId} {vf : VFun} {args : List V} {objs : List Obj} {r : V × List Obj} (hT : T f = some vf) (hn : args.length = vf.nparams) (ho : objs.length ≤ 64)
    (h : wp ⟨lim T X gl, gl⟩ vf.body (doneQ vf.keep objs.length vf.results r) ⟨enumF 0 args, enumF 0 (objs.map some)⟩) : lim T X gl f args objs = some r := by
  obtain ⟨n, e, s', h1, h2, h3⟩ := h
  obtain ⟨m, hm⟩ := contN_run (F := fam T X gl) lim_lim vf.body _ _ h1
  refine lim_of (n := max m n + 1) (evalN_body hT hn ho ⟨e, s', ?_, h2, h3⟩)
  exact hm _ (evalN_le (Nat.le_max_left ..)) _ (Nat.le_max_right ..)

theorem lim_X {f : FuncId} {args : List V} {objs : List Obj} {r : V × List Obj} (hT : T f = none) (h : X f args objs = some r) : lim T X gl f args objs = some r := by
  refine lim_of (n := 1) ?_
  grind [evalN]

end

end Go.Vs

/- The value semantics, 37: what holds behind code, by rewriting. -/
namespace Go.Vs
open Go

section
variable {C : Ctx}

theorem wp_mono {c : VCode} {Q R : Ex → St → Prop} {s : St} (h : wp C c Q s) (hq : ∀ e s, Q e s → R e s) : wp C c R s := by
  obtain ⟨n, e, s', h1, h2⟩ := h
  exact ⟨n, e, s', h1, hq _ _ h2⟩

/-- Behind a: b. -/
def thenQ (C : Ctx) (b : VCode) (Q : Ex → St → Prop) : Ex → St → Prop
  | .normal, s => wp C b Q s
  | .exit i, s => Q (.exit i) s
  | .ret, s => Q .ret s

@[simp] theorem thenQ_normal {b : VCode} {Q : Ex → St → Prop} {E : Env} {O : Objs} : thenQ C b Q .normal ⟨E, O⟩ = wp C b Q ⟨E, O⟩ := rfl
@[simp] theorem thenQ_exit {b : VCode} {Q : Ex → St → Prop} {s : St} {i : Nat} : thenQ C b Q (.exit i) s = Q (.exit i) s := rfl
@[simp] theorem thenQ_ret {b : VCode} {Q : Ex → St → Prop} {s : St} : thenQ C b Q .ret s = Q .ret s := rfl

def blockQ (id : Nat) (Q : Ex → St → Prop) : Ex → St → Prop
  | .normal, s => Q .normal s
  | .exit i, s => bif i == id then Q .normal s else Q (.exit i) s
  | .ret, s => Q .ret s

@[simp] theorem blockQ_normal {id : Nat} {Q : Ex → St → Prop} {E : Env} {O : Objs} : blockQ id Q .normal ⟨E, O⟩ = Q .normal ⟨E, O⟩ := rfl
@[simp] theorem blockQ_exit {id : Nat} {Q : Ex → St → Prop} {s : St} {i : Nat} : blockQ id Q (.exit i) s = bif i == id then Q .normal s else Q (.exit i) s := rfl
@[simp] theorem blockQ_ret {id : Nat} {Q : Ex → St → Prop} {s : St} : blockQ id Q .ret s = Q .ret s := rfl

@[simp] theorem wp_skip {Q : Ex → St → Prop} {s : St} : wp C .skip Q s = Q .normal s := propext ⟨by rintro ⟨n, e, s', h1, h2⟩; cases h1; exact h2, fun h => ⟨0, _, _, rfl, h⟩⟩
@[simp] theorem wp_ret {Q : Ex → St → Prop} {s : St} : wp C .ret Q s = Q .ret s := propext ⟨by rintro ⟨n, e, s', h1, h2⟩; cases h1; exact h2, fun h => ⟨0, _, _, rfl, h⟩⟩
@[simp] theorem wp_exit {Q : Ex → St → Prop} {s : St} {i : Nat} : wp C (.exit i) Q s = Q (.exit i) s := propext ⟨by rintro ⟨n, e, s', h1, h2⟩; cases h1; exact h2, fun h => ⟨0, _, _, rfl, h⟩⟩

@[simp] theorem wp_seq {a b : VCode} {Q : Ex → St → Prop} {s : St} : wp C (.seq a b) Q s = wp C a (thenQ C b Q) s := by
  apply propext
  constructor
  · rintro ⟨n, e, s', h1, h2⟩
    simp only [run] at h1
    cases ha : run C n a s with
    | none => rw [ha] at h1; cases h1
    | some x =>
      obtain ⟨e1, s1⟩ := x
      rw [ha] at h1
      refine ⟨n, e1, s1, ha, ?_⟩
      cases e1 with
      | normal => exact ⟨n, e, s', h1, h2⟩
      | exit i => cases h1; exact h2
      | ret => cases h1; exact h2
  · rintro ⟨n, e1, s1, h1, h2⟩
    cases e1 with
    | normal =>
      obtain ⟨n2, e, s', h3, h4⟩ := h2
      refine ⟨max n n2, e, s', ?_, h4⟩
      simp only [run]
      have := run_mono (gl := C.gl) (c := C.call) (Le.refl _) (Nat.le_max_left n n2) h1
      rw [show run C (max n n2) a s = _ from this]
      exact run_mono (gl := C.gl) (c := C.call) (Le.refl _) (Nat.le_max_right n n2) h3
    | exit i => exact ⟨n, _, s1, by simp only [run, h1], h2⟩
    | ret => exact ⟨n, _, s1, by simp only [run, h1], h2⟩

@[simp] theorem wp_block {a : VCode} {id : Nat} {Q : Ex → St → Prop} {s : St} : wp C (.block id a) Q s = wp C a (blockQ id Q) s := by
  apply propext
  constructor
  · rintro ⟨n, e, s', h1, h2⟩
    simp only [run] at h1
    cases ha : run C n a s with
    | none => rw [ha] at h1; cases h1
    | some x =>
      obtain ⟨e1, s1⟩ := x
      rw [ha] at h1
      refine ⟨n, e1, s1, ha, ?_⟩
      cases e1 with
      | normal => cases h1; exact h2
      | exit i =>
        simp only at h1
        simp only [blockQ]
        cases hi : (i == id) with
        | true => rw [hi] at h1; cases h1; exact h2
        | false => rw [hi] at h1; cases h1; exact h2
      | ret => cases h1; exact h2
  · rintro ⟨n, e1, s1, h1, h2⟩
    cases e1 with
    | normal => exact ⟨n, _, s1, by simp only [run, h1], h2⟩
    | exit i =>
      simp only [blockQ] at h2
      cases hi : (i == id) with
      | true => rw [hi] at h2; exact ⟨n, _, s1, by simp only [run, h1, hi, cond_true], h2⟩
      | false => rw [hi] at h2; exact ⟨n, _, s1, by simp only [run, h1, hi, cond_false], h2⟩
    | ret => exact ⟨n, _, s1, by simp only [run, h1], h2⟩

/-- By a truth. -/
def condK (v : V) (p q : St → Prop) (s : St) : Prop := match v with
  | .sc (.c (.bool t)) => bif t then p s else q s
  | _ => False
@[simp] theorem condK_true {p q : St → Prop} {s : St} : condK (.sc (.c (.bool true))) p q s = p s := rfl
@[simp] theorem condK_false {p q : St → Prop} {s : St} : condK (.sc (.c (.bool false))) p q s = q s := rfl

theorem condK_split {b : Bool} {p q : St → Prop} {s : St} (h1 : b = true → p s) (h2 : b = false → q s) : condK (.sc (.c (.bool b))) p q s := by
  cases b with
  | true => exact h1 rfl
  | false => exact h2 rfl

@[simp] theorem wp_cond {c : Opd} {x y : VCode} {Q : Ex → St → Prop} {s : St} : wp C (.cond c x y) Q s = condK (c.val C (get? s.env)) (wp C x Q) (wp C y Q) s := by
  apply propext
  unfold wp
  simp only [run]
  generalize c.val C (get? s.env) = v
  constructor
  · rintro ⟨n, e, s', h1, h2⟩
    split at h1
    · rename_i t
      cases t with
      | true => exact ⟨n, e, s', h1, h2⟩
      | false => exact ⟨n, e, s', h1, h2⟩
    · cases h1
  · intro h
    unfold condK at h
    split at h
    · rename_i t
      cases t with
      | true => exact h
      | false => exact h
    · exact h.elim

/-- With what came out. -/
def stepK (x : Option (V × Upd)) (k : V → Upd → Prop) : Prop := match x with
  | none => False
  | some (v, u) => k v u
@[simp] theorem stepK_some {v : V} {u : Upd} {k : V → Upd → Prop} : stepK (some (v, u)) k = k v u := rfl

def dput (E : Env) (d : Option Nat) (v : V) : Env := match d with
  | none => E
  | some d => put E d v
@[simp] theorem dput_none {E : Env} {v : V} : dput E none v = E := rfl
@[simp] theorem dput_some {E : Env} {v : V} {d : Nat} : dput E (some d) v = put E d v := rfl

/-- The state behind an operation. -/
def nextV (E : Env) (O : Objs) (d : Option Nat) (v : V) (u : Upd) : St := ⟨dput E d v, putAll O u⟩
@[simp] theorem nextV_sc {E : Env} {O : Objs} {d : Option Nat} {w : W} {u : Upd} : nextV E O d (.sc w) u = ⟨dput E d (.sc w), putAll O u⟩ := rfl
@[simp] theorem nextV_ag {E : Env} {O : Objs} {d : Option Nat} {cs : List W} {u : Upd} : nextV E O d (.ag cs) u = ⟨dput E d (.ag cs), putAll O u⟩ := rfl
@[simp] theorem nextV_tu {E : Env} {O : Objs} {d : Option Nat} {l : List V} {u : Upd} : nextV E O d (.tu l) u = ⟨dput E d (.tu l), putAll O u⟩ := rfl

/-- Operations in turn. -/
def wpL (C : Ctx) (ops : List VOper) (s : St) (K : St → Prop) : Prop := ∃ s', execL C ops s = some s' ∧ K s'

@[simp] theorem wpL_nil {K : St → Prop} {s : St} : wpL C [] s K = K s := propext ⟨by rintro ⟨s', h1, h2⟩; cases h1; exact h2, fun h => ⟨_, rfl, h⟩⟩

theorem next_eq {s : St} {d : Option Nat} {v : V} {u : Upd} : s.next d v u = nextV s.env s.objs d v u := by cases d <;> rfl

theorem wpL_any {K : St → Prop} {E : Env} {O : Objs} {o : VOper} {r : List VOper} : wpL C (o :: r) ⟨E, O⟩ K = stepK (runO C o (get? E) (look O)) fun v u => wpL C r (nextV E O o.dst v u) K := by
  unfold wpL
  simp only [execL_cons, next_eq]
  apply propext
  cases runO C o (get? E) (look O) with
  | none => exact ⟨fun ⟨s', h1, _⟩ => (nomatch h1), False.elim⟩
  | some x => exact Iff.rfl

@[simp] theorem wpL_cons {K : St → Prop} {E : Env} {O : Objs} {d : Option Nat} {op : VOp} {oid : Nat} {r : List VOper} :
    wpL C (⟨d, op, none, oid, []⟩ :: r) ⟨E, O⟩ K = stepK (exec1 C (get? E) (look O) oid op) fun v u => wpL C r (nextV E O d v u) K := by
  rw [wpL_any]
  unfold runO
  simp only
  cases exec1 C (get? E) (look O) oid op with
  | none => rfl
  | some x => rfl

@[simp] theorem wpL_own {K : St → Prop} {E : Env} {O : Objs} {d : Option Nat} {op : VOp} {oid : Nat} {x : Nat × Nat} {xs : List (Nat × Nat)} {r : List VOper} :
    wpL C (⟨d, op, none, oid, x :: xs⟩ :: r) ⟨E, O⟩ K = stepK ((exec1 C (get? E) (look O) oid op).bind (ownV oid (x :: xs) (look O))) fun v u => wpL C r (nextV E O d v u) K := by
  rw [wpL_any]
  unfold runO
  simp only
  cases exec1 C (get? E) (look O) oid op with
  | none => rfl
  | some x => rfl

/-- By a guard. -/
def guardK (v : Option V) (want : Bool) (x : Option (V × Upd)) : Option (V × Upd) := match v with
  | some (.sc (.c (.bool b))) => bif b == want then x else some (.sc .sk, [])
  | some (.sc .sk) => some (.sc .sk, [])
  | _ => none
@[simp] theorem guardK_sk {want : Bool} {x : Option (V × Upd)} : guardK (some (.sc .sk)) want x = some (.sc .sk, []) := rfl
@[simp] theorem guardK_tt {x : Option (V × Upd)} : guardK (some (.sc (.c (.bool true)))) true x = x := rfl
@[simp] theorem guardK_ff {x : Option (V × Upd)} : guardK (some (.sc (.c (.bool false)))) false x = x := rfl
@[simp] theorem guardK_tf {x : Option (V × Upd)} : guardK (some (.sc (.c (.bool true)))) false x = some (.sc .sk, []) := rfl
@[simp] theorem guardK_ft {x : Option (V × Upd)} : guardK (some (.sc (.c (.bool false)))) true x = some (.sc .sk, []) := rfl

theorem runO_guard {E : Nat → Option V} {L : Nat → Option Obj} {d : Option Nat} {op : VOp} {oid t : Nat} {want : Bool} {own : List (Nat × Nat)} :
    runO C ⟨d, op, some (t, want), oid, own⟩ E L = guardK (E t) want ((exec1 C E L oid op).bind (ownV oid own L)) := by
  unfold runO guardK
  dsimp only
  cases E t with
  | none => rfl
  | some v => cases v with
    | sc w => cases w with
      | c x => cases x with
        | bool b => dsimp only; cases exec1 C E L oid op <;> rfl
        | _ => rfl
      | _ => rfl
    | _ => rfl

@[simp] theorem wpL_guard {K : St → Prop} {E : Env} {O : Objs} {d : Option Nat} {op : VOp} {oid t : Nat} {want : Bool} {own : List (Nat × Nat)} {r : List VOper} :
    wpL C (⟨d, op, some (t, want), oid, own⟩ :: r) ⟨E, O⟩ K = stepK (guardK (get? E t) want ((exec1 C (get? E) (look O) oid op).bind (ownV oid own (look O)))) fun v u => wpL C r (nextV E O d v u) K := by
  rw [wpL_any, runO_guard]

@[simp] theorem ownV_nil {oid : Nat} {L : Nat → Option Obj} {r : V × Upd} : ownV oid [] L r = some r := rfl

/-- Operations in an open order. -/
def wpR (C : Ctx) (ops : List VOper) (s : St) (acc : List Rec) (K : List Rec → St → Prop) : Prop := ∃ rs s', execR C ops s = some (rs, s') ∧ K (acc ++ rs) s'
@[simp] theorem wpR_nil {K : List Rec → St → Prop} {s : St} {acc : List Rec} : wpR C [] s acc K = K acc s := propext ⟨by rintro ⟨rs, s', h1, h2⟩; cases h1; simpa using h2, fun h => ⟨[], _, rfl, by simpa using h⟩⟩

def mkRec (q : Bool × List Nat) (u : Upd) : Rec := ⟨q.1, q.2, u.map (·.1)⟩

theorem wpR_any {K : List Rec → St → Prop} {E : Env} {O : Objs} {acc : List Rec} {o : VOper} {r : List VOper} :
    wpR C (o :: r) ⟨E, O⟩ acc K = stepK (runO C o (get? E) (look O)) fun v u => wpR C r (nextV E O o.dst v u) (acc ++ [mkRec (recO C (get? E) (look O) o u) u]) K := by
  unfold wpR
  simp only [execR_cons, next_eq]
  apply propext
  cases runO C o (get? E) (look O) with
  | none => exact ⟨fun ⟨rs, s', h1, _⟩ => (nomatch h1), False.elim⟩
  | some x =>
    obtain ⟨v, u⟩ := x
    simp only [stepK_some, Option.bind_some]
    constructor
    · rintro ⟨rs, s', h1, h2⟩
      obtain ⟨y, h3, h4⟩ := Option.bind_eq_some_iff.1 h1
      cases h4
      exact ⟨y.1, y.2, h3, by simpa [mkRec] using h2⟩
    · rintro ⟨rs, s', h1, h2⟩
      rw [h1]
      exact ⟨_, _, rfl, by simpa [mkRec] using h2⟩

@[simp] theorem wpR_cons {K : List Rec → St → Prop} {E : Env} {O : Objs} {acc : List Rec} {d : Option Nat} {op : VOp} {oid : Nat} {r : List VOper} :
    wpR C (⟨d, op, none, oid, []⟩ :: r) ⟨E, O⟩ acc K = stepK (exec1 C (get? E) (look O) oid op) fun v u => wpR C r (nextV E O d v u) (acc ++ [mkRec (recO C (get? E) (look O) ⟨d, op, none, oid, []⟩ u) u]) K := by
  rw [wpR_any]
  unfold runO
  simp only
  cases exec1 C (get? E) (look O) oid op with
  | none => rfl
  | some x => rfl

@[simp] theorem wpR_own {K : List Rec → St → Prop} {E : Env} {O : Objs} {acc : List Rec} {d : Option Nat} {op : VOp} {oid : Nat} {x : Nat × Nat} {xs : List (Nat × Nat)} {r : List VOper} :
    wpR C (⟨d, op, none, oid, x :: xs⟩ :: r) ⟨E, O⟩ acc K = stepK ((exec1 C (get? E) (look O) oid op).bind (ownV oid (x :: xs) (look O))) fun v u => wpR C r (nextV E O d v u) (acc ++ [mkRec (true, []) u]) K := by
  rw [wpR_any]
  unfold runO
  simp only
  cases exec1 C (get? E) (look O) oid op with
  | none => rfl
  | some x => rfl

@[simp] theorem wpR_guard {K : List Rec → St → Prop} {E : Env} {O : Objs} {acc : List Rec} {d : Option Nat} {op : VOp} {oid t : Nat} {want : Bool} {own : List (Nat × Nat)} {r : List VOper} :
    wpR C (⟨d, op, some (t, want), oid, own⟩ :: r) ⟨E, O⟩ acc K = stepK (guardK (get? E t) want ((exec1 C (get? E) (look O) oid op).bind (ownV oid own (look O)))) fun v u => wpR C r (nextV E O d v u) (acc ++ [mkRec (recO C (get? E) (look O) ⟨d, op, some (t, want), oid, own⟩ u) u]) K := by
  rw [wpR_any, runO_guard]

/-- Objects forgotten at a region's head. -/
def scrubD (drop : List Nat) (s : St) : St := match drop with | [] => s | _ => s.scrub drop
@[simp] theorem scrubD_nil {s : St} : scrubD [] s = s := rfl
/-- Is it in the list? -/
def memN : List Nat → Nat → Bool
  | [], _ => false
  | a :: l, k => bif a == k then true else memN l k
@[simp] theorem memN_nil {k : Nat} : memN [] k = false := rfl
@[simp] theorem memN_cons {a k : Nat} {l : List Nat} : memN (a :: l) k = bif a == k then true else memN l k := rfl
theorem memN_eq : ∀ (l : List Nat) (k : Nat), l.contains k = memN l k
  | [], k => rfl
  | a :: l, k => by
    rw [memN_cons, List.contains_cons, memN_eq l k, Bool.beq_comm]
    cases a == k <;> rfl
def keepE (ts : List Nat) : Env → Env
  | [] => []
  | (t, v) :: r => bif memN ts t then (t, v) :: keepE ts r else keepE ts r
@[simp] theorem keepE_nil {ts : List Nat} : keepE ts [] = [] := rfl
@[simp] theorem keepE_cons {ts : List Nat} {t : Nat} {v : V} {r : Env} : keepE ts ((t, v) :: r) = bif memN ts t then (t, v) :: keepE ts r else keepE ts r := rfl
theorem keepE_eq (ts : List Nat) : ∀ E : Env, (E.filter fun x => ts.contains x.1) = keepE ts E
  | [] => rfl
  | (t, v) :: r => by
    rw [keepE_cons, List.filter_cons, memN_eq, keepE_eq ts r]
    cases memN ts t <;> rfl
def renE (ks : List Nat) : Env → Env
  | [] => []
  | (t, v) :: r => (t, v.ren (dropR ks)) :: renE ks r
@[simp] theorem renE_nil {ts : List Nat} : renE ts [] = [] := rfl
@[simp] theorem renE_cons {ts : List Nat} {t : Nat} {v : V} {r : Env} : renE ts ((t, v) :: r) = (t, v.ren (dropR ts)) :: renE ts r := rfl
def anyO (ks : List Nat) : Objs → Bool
  | [] => false
  | (_, none) :: r => anyO ks r
  | (k, some _) :: r => bif memN ks k then true else anyO ks r
@[simp] theorem anyO_nil {ks : List Nat} : anyO ks [] = false := rfl
@[simp] theorem anyO_none {ks : List Nat} {k : Nat} {r : Objs} : anyO ks ((k, none) :: r) = anyO ks r := rfl
@[simp] theorem anyO_some {ks : List Nat} {k : Nat} {o : Obj} {r : Objs} : anyO ks ((k, some o) :: r) = bif memN ks k then true else anyO ks r := rfl
def dropO (ks : List Nat) : Objs → Objs
  | [] => []
  | (k, o) :: r => bif memN ks k then dropO ks r else (k, o.map (Obj.ren (dropR ks))) :: dropO ks r
@[simp] theorem dropO_nil {ks : List Nat} : dropO ks [] = [] := rfl
@[simp] theorem dropO_cons {ks : List Nat} {k : Nat} {o : Option Obj} {r : Objs} : dropO ks ((k, o) :: r) = bif memN ks k then dropO ks r else (k, o.map (Obj.ren (dropR ks))) :: dropO ks r := rfl
theorem anyO_eq (ks : List Nat) : ∀ O : Objs, (O.any fun x => x.2.isSome && ks.contains x.1) = anyO ks O
  | [] => rfl
  | (k, none) :: r => by rw [anyO_none, List.any_cons, anyO_eq ks r]; rfl
  | (k, some o) :: r => by
    rw [anyO_some, List.any_cons, anyO_eq ks r, memN_eq]
    cases memN ks k <;> rfl
theorem dropO_eq (ks : List Nat) : ∀ O : Objs, ((O.filter fun x => !ks.contains x.1).map fun x => (x.1, x.2.map (Obj.ren (dropR ks)))) = dropO ks O
  | [] => rfl
  | (k, o) :: r => by
    rw [dropO_cons, List.filter_cons, memN_eq, ← dropO_eq ks r]
    cases memN ks k <;> rfl
theorem renE_eq (ks : List Nat) : ∀ E : Env, (E.map fun x => (x.1, x.2.ren (dropR ks))) = renE ks E
  | [] => rfl
  | (t, v) :: r => by rw [renE_cons, List.map_cons, renE_eq ks r]
@[simp] theorem scrubD_cons {k : Nat} {ks : List Nat} {E : Env} {O : Objs} : scrubD (k :: ks) ⟨E, O⟩ = bif anyO (k :: ks) O then ⟨renE (k :: ks) E, dropO (k :: ks) O⟩ else ⟨E, O⟩ := by
  rw [← anyO_eq, ← renE_eq, ← dropO_eq]
  rfl

@[simp] theorem live_nil {s : St} : St.live [] s = s := rfl
@[simp] theorem live_cons {k : Nat} {ks : List Nat} {E : Env} {O : Objs} : St.live (k :: ks) ⟨E, O⟩ = ⟨keepE (k :: ks) E, O⟩ := by
  rw [← keepE_eq]
  rfl

/-- The record at a place. -/
def nthR : List Rec → Nat → Rec
  | [], _ => ⟨true, [0], [0]⟩
  | a :: _, 0 => a
  | _ :: l, k + 1 => nthR l k
@[simp] theorem nthR_zero {a : Rec} {l : List Rec} : nthR (a :: l) 0 = a := rfl
@[simp] theorem nthR_succ {a : Rec} {l : List Rec} {k : Nat} : nthR (a :: l) (k + 1) = nthR l k := rfl
def apartN : List Nat → List Nat → Prop
  | [], _ => True
  | a :: l, m => memN m a = false ∧ apartN l m
@[simp] theorem apartN_nil {m : List Nat} : apartN [] m = True := rfl
@[simp] theorem apartN_cons {a : Nat} {l m : List Nat} : apartN (a :: l) m = (memN m a = false ∧ apartN l m) := rfl
theorem apart_iff : ∀ {l m : List Nat}, apart l m = true ↔ apartN l m
  | [], m => by simp [apart]
  | a :: l, m => by
    have := @apart_iff l m
    unfold apart at this ⊢
    rw [List.all_cons, Bool.and_eq_true, this, memN_eq, Bool.not_eq_true']
    rfl
def indepP (a b : Rec) : Prop := a.touch = false ∨ b.touch = false ∨ (a.all = false ∧ b.all = false ∧ apartN a.reads b.keys ∧ apartN b.reads a.keys ∧ apartN a.keys b.keys)
theorem indepP_iff {a b : Rec} : indep a b = true ↔ indepP a b := by
  unfold indep indepP
  simp only [Bool.or_eq_true, Bool.and_eq_true, Bool.not_eq_true', apart_iff]
  constructor
  · rintro ((h | h) | h)
    · exact .inl h
    · exact .inr (.inl h)
    · exact .inr (.inr ⟨h.1.1.1.1, h.1.1.1.2, h.1.1.2, h.1.2, h.2⟩)
  · rintro (h | h | ⟨h1, h2, h3, h4, h5⟩)
    · exact .inl (.inl h)
    · exact .inl (.inr h)
    · exact .inr ⟨⟨⟨⟨h1, h2⟩, h3⟩, h4⟩, h5⟩
@[simp] theorem indepP_left {b : Rec} : indepP ⟨false, [], []⟩ b = True := eq_true (.inl rfl)
@[simp] theorem indepP_right {a : Rec} : indepP a ⟨false, [], []⟩ = True := eq_true (.inr (.inl rfl))
theorem indepP_any {r1 k1 r2 k2 : List Nat} : indepP ⟨false, r1, k1⟩ ⟨false, r2, k2⟩ = ((r1 = [] ∧ k1 = []) ∨ (r2 = [] ∧ k2 = []) ∨ (apartN r1 k2 ∧ apartN r2 k1 ∧ apartN k1 k2)) := by
  simp only [indepP, Rec.touch, Bool.false_or, Bool.or_eq_false_iff, Bool.not_eq_false', List.isEmpty_iff, true_and]
attribute [simp] indepP_any
def chkP (rs : List Rec) : List (Nat × Nat) → Prop
  | [] => True
  | (i, j) :: r => indepP (nthR rs i) (nthR rs j) ∧ chkP rs r
@[simp] theorem chkP_nil {rs : List Rec} : chkP rs [] = True := rfl
@[simp] theorem chkP_cons {rs : List Rec} {i j : Nat} {r : List (Nat × Nat)} : chkP rs ((i, j) :: r) = (indepP (nthR rs i) (nthR rs j) ∧ chkP rs r) := rfl
theorem nthR_some : ∀ {rs : List Rec} {i : Nat}, i < rs.length → rs[i]? = some (nthR rs i)
  | [], i, h => by simp at h
  | a :: l, 0, _ => rfl
  | a :: l, k + 1, h => by simpa using nthR_some (rs := l) (i := k) (by simpa using h)
theorem nthR_none : ∀ {rs : List Rec} {i : Nat}, rs.length ≤ i → nthR rs i = ⟨true, [0], [0]⟩
  | [], i, _ => rfl
  | a :: l, 0, h => by simp at h
  | a :: l, k + 1, h => nthR_none (rs := l) (by simpa using h)
/-- All pairs within the records. -/
def chkIn (n : Nat) : List (Nat × Nat) → Bool
  | [] => true
  | (i, j) :: r => Nat.blt i n && Nat.blt j n && chkIn n r
theorem chkP_ok {rs : List Rec} : ∀ {chk : List (Nat × Nat)}, chkIn rs.length chk = true → (chkOk rs chk = true ↔ chkP rs chk)
  | [], _ => by simp [chkOk]
  | (i, j) :: r, h => by
    simp only [chkIn, Bool.and_eq_true] at h
    have hi : i < rs.length := Nat.le_of_ble_eq_true h.1.1
    have hj : j < rs.length := Nat.le_of_ble_eq_true h.1.2
    have := @chkP_ok rs r h.2
    unfold chkOk at this ⊢
    rw [List.all_cons, Bool.and_eq_true, this, chkP_cons, ← indepP_iff]
    simp only [nthR_some hi, nthR_some hj]

theorem run_region {n : Nat} {drop : List Nat} {ops : List VOper} {chk : List (Nat × Nat)} {live : List Nat} {s : St} : run C n (.region drop ops chk live) s = (runOps C ops chk (scrubD drop s)).bind fun s' => some (.normal, s'.live live) := by
  have hd : (match drop with | [] => s | _ => s.scrub drop) = scrubD drop s := rfl
  cases drop with
  | nil => simp only [run, scrubD]; cases runOps C ops chk s <;> rfl
  | cons k ks => simp only [run, scrubD]; cases runOps C ops chk (s.scrub (k :: ks)) <;> rfl

@[simp] theorem wp_region {drop : List Nat} {ops : List VOper} {live : List Nat} {Q : Ex → St → Prop} {s : St} : wp C (.region drop ops [] live) Q s = wpL C ops (scrubD drop s) fun s' => Q .normal (s'.live live) := by
  apply propext
  unfold wp wpL
  simp only [run_region, runOps]
  constructor
  · rintro ⟨n, e, s', h1, h2⟩
    obtain ⟨y, h3, h4⟩ := Option.bind_eq_some_iff.1 h1
    cases h4
    exact ⟨y, h3, h2⟩
  · rintro ⟨s', h1, h2⟩
    rw [h1]
    exact ⟨0, _, _, rfl, h2⟩

theorem execR_len : ∀ {ops : List VOper} {s s' : St} {rs : List Rec}, execR C ops s = some (rs, s') → rs.length = ops.length
  | [], s, s', rs, h => by cases h; rfl
  | o :: r, s, s', rs, h => by
    rw [execR_cons] at h
    obtain ⟨x, h1, h2⟩ := Option.bind_eq_some_iff.1 h
    obtain ⟨y, h3, h4⟩ := Option.bind_eq_some_iff.1 h2
    cases h4
    simp [execR_len h3]

@[simp] theorem wp_regionR {drop : List Nat} {ops : List VOper} {p : Nat × Nat} {chk : List (Nat × Nat)} {live : List Nat} {Q : Ex → St → Prop} {s : St} :
    wp C (.region drop ops (p :: chk) live) Q s = wpR C ops (scrubD drop s) [] fun rs s' => chkOk rs (p :: chk) = true ∧ Q .normal (s'.live live) := by
  apply propext
  unfold wp wpR
  simp only [run_region, runOps]
  cases execR C ops (scrubD drop s) with
  | none => exact ⟨fun ⟨n, e, s', h1, _⟩ => (nomatch h1), fun ⟨rs, s', h1, _⟩ => (nomatch h1)⟩
  | some q =>
    obtain ⟨rs, s2⟩ := q
    simp only [List.nil_append]
    constructor
    · rintro ⟨n, e, s', h1, h2⟩
      cases hc : chkOk rs (p :: chk) with
      | false => rw [hc] at h1; cases h1
      | true => rw [hc] at h1; cases h1; exact ⟨rs, _, rfl, hc, h2⟩
    · rintro ⟨rs', s', h1, h2, h3⟩
      cases h1
      rw [h2]
      exact ⟨0, _, _, rfl, h3⟩

@[simp] theorem chkOk_nil {rs : List Rec} : chkOk rs [] = true := rfl
@[simp] theorem chkOk_cons {a : Rec} {rs : List Rec} {p : Nat × Nat} {chk : List (Nat × Nat)} : (chkOk (a :: rs) (p :: chk) = true) = (chkIn (rs.length + 1) (p :: chk) = true ∧ chkP (a :: rs) (p :: chk)) := by
  apply propext
  constructor
  · intro h
    have : chkIn (rs.length + 1) (p :: chk) = true := by
      have key : ∀ (rs : List Rec) (chk : List (Nat × Nat)), chkOk rs chk = true → chkIn rs.length chk = true := by
        intro rs chk
        induction chk with
        | nil => intro _; rfl
        | cons q r ih =>
          obtain ⟨i, j⟩ := q
          intro h
          unfold chkOk at h
          rw [List.all_cons, Bool.and_eq_true] at h
          have h2 := ih h.2
          simp only [chkIn, h2, Bool.and_true, Bool.and_eq_true]
          have h1 := h.1
          simp only at h1
          split at h1
          · rename_i a b ha hb
            exact ⟨Nat.ble_eq_true_of_le (List.getElem?_eq_some_iff.1 ha).1, Nat.ble_eq_true_of_le (List.getElem?_eq_some_iff.1 hb).1⟩
          · cases h1
      exact key (a :: rs) (p :: chk) h
    exact ⟨this, (chkP_ok (rs := a :: rs) this).1 h⟩
  · exact fun h => (chkP_ok (rs := a :: rs) h.1).2 h.2
@[simp] theorem chkIn_nil {n : Nat} : chkIn n [] = true := rfl
@[simp] theorem chkIn_cons {n i j : Nat} {r : List (Nat × Nat)} : chkIn n ((i, j) :: r) = (Nat.blt i n && Nat.blt j n && chkIn n r) := rfl

/-- A loop that goes m full rounds and ends in the next one. -/
theorem wp_loop {b : VCode} {Q : Ex → St → Prop} {s : St} (S : Nat → St) (m : Nat) (h0 : s = S 0) (round : ∀ i, i < m → wp C b (fun e s => e = .normal ∧ s = S (i + 1)) (S i)) (stop : wp C b (fun e s => e ≠ .normal ∧ Q e s) (S m)) : wp C (.loop b) Q s := by
  subst h0
  obtain ⟨n0, e, s', h1, h2, h3⟩ := stop
  have key : ∀ k, k ≤ m → ∃ n, ∀ n', n ≤ n' → ∀ j, k + 1 ≤ j → iter (run C n' b) j (S (m - k)) = some (e, s') := by
    intro k
    induction k with
    | zero =>
      intro _
      refine ⟨n0, fun n' hn j hj => ?_⟩
      obtain ⟨j, rfl⟩ : ∃ i, j = i + 1 := ⟨j - 1, by omega⟩
      have h := run_mono (gl := C.gl) (c := C.call) (Le.refl _) hn h1
      simp only [Nat.sub_zero, iter, show run C n' b (S m) = _ from h]
      cases e with
      | normal => exact absurd rfl h2
      | exit _ => rfl
      | ret => rfl
    | succ k ih =>
      intro hk
      obtain ⟨n, hn⟩ := ih (by omega)
      obtain ⟨n2, e2, s2, h4, rfl, rfl⟩ := round (m - (k + 1)) (by omega)
      refine ⟨max n n2, fun n' hn' j hj => ?_⟩
      obtain ⟨j, rfl⟩ : ∃ i, j = i + 1 := ⟨j - 1, by omega⟩
      have h := run_mono (gl := C.gl) (c := C.call) (Le.refl _) (Nat.le_trans (Nat.le_max_right n n2) hn') h4
      simp only [iter, show run C n' b (S (m - (k + 1))) = _ from h]
      rw [show m - (k + 1) + 1 = m - k by omega]
      exact hn n' (Nat.le_trans (Nat.le_max_left ..) hn') j (by omega)
  obtain ⟨n, hn⟩ := key m (Nat.le_refl _)
  refine ⟨max n (m + 1), e, s', ?_, h3⟩
  simp only [run]
  have := hn (max n (m + 1)) (Nat.le_max_left ..) (max n (m + 1)) (Nat.le_max_right ..)
  rw [Nat.sub_self] at this
  exact this

@[simp] theorem doneQ_ret {keep : Bool} {m : Nat} {rs : List VRes} {r : V × List Obj} {s : St} : doneQ keep m rs r .ret s = ((finish keep m rs s).map (normR keep) = some r) := by simp [doneQ]
@[simp] theorem doneQ_normal {keep : Bool} {m : Nat} {rs : List VRes} {r : V × List Obj} {s : St} : doneQ keep m rs r .normal s = ((finish keep m rs s).map (normR keep) = some r) := by simp [doneQ]

end
end Go.Vs

/- The value semantics, 38: rules for rewriting, one for each operation. -/
namespace Go.Vs
open Go

section
variable {C : Ctx} {E : Nat → Option V} {L : Nat → Option Obj} {oid : Nat}

@[simp] theorem get?_nil {α : Type} {k : Nat} : get? ([] : List (Nat × α)) k = none := rfl
@[simp] theorem get?_cons {α : Type} {j k : Nat} {a : α} {r : List (Nat × α)} : get? ((j, a) :: r) k = bif j == k then some a else get? r k := rfl
@[simp] theorem put_nil {α : Type} {k : Nat} {a : α} : put ([] : List (Nat × α)) k a = [(k, a)] := rfl
@[simp] theorem put_cons {α : Type} {j k : Nat} {a b : α} {r : List (Nat × α)} : put ((j, b) :: r) k a = bif j == k then (j, a) :: r else (j, b) :: put r k a := rfl
@[simp] theorem look_eq {O : Objs} {k : Nat} : look O k = (get? O k).join := rfl
@[simp] theorem putAll_nil {O : Objs} : putAll O [] = O := rfl
@[simp] theorem putAll_cons {O : Objs} {k : Nat} {x : Option Obj} {r : Upd} : putAll O ((k, x) :: r) = putAll (put O k x) r := rfl
@[simp] theorem updL_nil : updL L [] = L := rfl
@[simp] theorem updL_cons {k : Nat} {x : Option Obj} {r : Upd} : updL L ((k, x) :: r) = updL (updO L k x) r := rfl
@[simp] theorem updO_eq {k j : Nat} {x : Option Obj} : updO L k x j = bif j == k then x else L j := rfl
@[simp] theorem enumF_nil {α : Type} {i : Nat} : enumF i ([] : List α) = [] := rfl
@[simp] theorem enumF_cons {α : Type} {i : Nat} {x : α} {r : List α} : enumF i (x :: r) = (i, x) :: enumF (i + 1) r := rfl

@[simp] theorem val_t {n : Nat} : Opd.val C E (.t n) = (E n).getD (.sc .un) := rfl
@[simp] theorem val_k {v : V} : Opd.val C E (.k v) = v := rfl
@[simp] theorem val_g {n : Nat} : Opd.val C E (.g n) = .sc (.c (.ro (C.gl n) 0)) := rfl

@[simp] theorem listM_nil {α β : Type} {f : α → Option β} : listM f [] = some [] := rfl
/-- One more. -/
def consM {β : Type} (x : Option β) (l : Option (List β)) : Option (List β) := match x with
  | none => none
  | some b => match l with
    | none => none
    | some l => some (b :: l)
@[simp] theorem consM_some {β : Type} {b : β} {l : List β} : consM (some b) (some l) = some (b :: l) := rfl
@[simp] theorem listM_cons {α β : Type} {f : α → Option β} {a : α} {r : List α} : listM f (a :: r) = consM (f a) (listM f r) := by
  rfl

attribute [simp] toC_c ids_c refs_c ren_c

/-- A row, and rows, as a frame's cells. -/
def wc (row : List Cell) : List W := row.map W.c
def wr (rows : List (List Cell)) : List (List W) := rows.map wc
@[simp] theorem wc_nil : wc [] = [] := rfl
@[simp] theorem wc_cons (x : Cell) (r : List Cell) : wc (x :: r) = .c x :: wc r := rfl
@[simp] theorem wc_len (r : List Cell) : (wc r).length = r.length := by simp [wc]
@[simp] theorem wc_notUn (r : List Cell) : (wc r).all notUn = true := notUn_cs r
@[simp] theorem wc_toC (L : Nat → Option Obj) (d : Nat) (r : List Cell) : listM (W.toC L d) (wc r) = some r := listM_c L d r
@[simp] theorem wc_ids (L : Nat → Option Obj) (d : Nat) (r : List Cell) : (wc r).flatMap (W.ids L d) = [] := ids_cs r L d
@[simp] theorem wc_refs (d : Nat) (r : List Cell) : (wc r).flatMap (W.refs d) = [] := refs_cs r d
@[simp] theorem wc_ren (ρ : Nat → Option Nat) (d : Nat) (r : List Cell) : (wc r).map (W.ren ρ d) = wc r := ren_cs r ρ d
@[simp] theorem wr_len (rows : List (List Cell)) : (wr rows).length = rows.length := by simp [wr]
theorem wr_append (a b : List (List Cell)) : wr (a ++ b) = wr a ++ wr b := by simp [wr]
theorem wr_snoc (a : List (List Cell)) (r : List Cell) : wr (a ++ [r]) = wr a ++ [wc r] := by simp [wr]
@[simp] theorem wr_nil : wr [] = [] := rfl
@[simp] theorem wr_cons (r : List Cell) (rows : List (List Cell)) : wr (r :: rows) = wc r :: wr rows := rfl
@[simp] theorem wr_get (rows : List (List Cell)) (i : Nat) : (wr rows)[i]? = (rows[i]?).map wc := by simp [wr]
@[simp] theorem wr_toC (L : Nat → Option Obj) (d : Nat) (rows : List (List Cell)) : listM (listM (W.toC L d)) (wr rows) = some rows := listM_cc L d rows
@[simp] theorem wr_ids (L : Nat → Option Obj) (d : Nat) (rows : List (List Cell)) : (wr rows).flatMap (fun r => r.flatMap (W.ids L d)) = [] := ids_cc L d rows

@[simp] theorem toC_nil {d : Nat} : W.toC L d .nil = some (.sl []) := by cases d <;> rfl
@[simp] theorem toC_full {d : Nat} {rows : List (List Cell)} : W.toC L d (.full rows) = some (.sl rows) := by cases d <;> rfl
@[simp] theorem toC_e0 {d : Nat} {b : Bool} : W.toC L d (.e0 b) = some (.sl []) := by cases d <;> rfl
@[simp] theorem ids_nil {d : Nat} : W.ids L d .nil = [] := by cases d <;> rfl
@[simp] theorem ids_full {d : Nat} {rows : List (List Cell)} : W.ids L d (.full rows) = [] := by cases d <;> rfl
@[simp] theorem ids_e0 {d : Nat} {b : Bool} : W.ids L d (.e0 b) = [] := by cases d <;> rfl
@[simp] theorem ren_nil {ρ : Nat → Option Nat} {d : Nat} : W.ren ρ d .nil = .nil := by cases d <;> rfl
@[simp] theorem ren_full {ρ : Nat → Option Nat} {d : Nat} {rows : List (List Cell)} : W.ren ρ d (.full rows) = .full rows := by cases d <;> rfl
@[simp] theorem ren_e0 {ρ : Nat → Option Nat} {d : Nat} {b : Bool} : W.ren ρ d (.e0 b) = .e0 b := by cases d <;> rfl
@[simp] theorem ren_sk {ρ : Nat → Option Nat} {d : Nat} : W.ren ρ d .sk = .sk := by cases d <;> rfl
@[simp] theorem ren_un {ρ : Nat → Option Nat} {d : Nat} : W.ren ρ d .un = .un := by cases d <;> rfl
/-- A reference under its new name. -/
def reN (x : Option Nat) (f : Nat → W) : W := match x with | some j => f j | none => .un
@[simp] theorem reN_some {j : Nat} {f : Nat → W} : reN (some j) f = f j := rfl
@[simp] theorem reN_none {f : Nat → W} : reN none f = .un := rfl
@[simp] theorem ren_arr {ρ : Nat → Option Nat} {d k n : Nat} : W.ren ρ d (.arr k n) = reN (ρ k) fun j => .arr j n := by cases d <;> rfl
@[simp] theorem ren_vw {ρ : Nat → Option Nat} {d k N lo n : Nat} : W.ren ρ d (.vw k N lo n) = reN (ρ k) fun j => .vw j N lo n := by cases d <;> rfl
@[simp] theorem ren_ptr {ρ : Nat → Option Nat} {d k o : Nat} : W.ren ρ d (.ptr k o) = reN (ρ k) fun j => .ptr j o := by cases d <;> rfl
@[simp] theorem ren_el {ρ : Nat → Option Nat} {d k N i o : Nat} : W.ren ρ d (.el k N i o) = reN (ρ k) fun j => .el j N i o := by cases d <;> rfl
@[simp] theorem dropR_eq {ks : List Nat} {k : Nat} : dropR ks k = bif memN ks k then none else some k := by rw [← memN_eq]; rfl
@[simp] theorem indexIn_nil {k : Nat} : indexIn [] k = none := rfl
@[simp] theorem indexIn_cons {j k : Nat} {r : List Nat} : indexIn (j :: r) k = bif j == k then some 0 else (indexIn r k).map (· + 1) := rfl
@[simp] theorem refs_arr {d k n : Nat} : W.refs d (.arr k n) = [k] := by cases d <;> rfl
@[simp] theorem refs_vw {d k N lo n : Nat} : W.refs d (.vw k N lo n) = [k] := by cases d <;> rfl
@[simp] theorem refs_ptr {d k o : Nat} : W.refs d (.ptr k o) = [k] := by cases d <;> rfl
@[simp] theorem refs_el {d k N i o : Nat} : W.refs d (.el k N i o) = [k] := by cases d <;> rfl
@[simp] theorem refs_nil {d : Nat} : W.refs d .nil = [] := by cases d <;> rfl
@[simp] theorem refs_full {d : Nat} {rows : List (List Cell)} : W.refs d (.full rows) = [] := by cases d <;> rfl
@[simp] theorem refs_e0 {d : Nat} {b : Bool} : W.refs d (.e0 b) = [] := by cases d <;> rfl

/-- An array's rows. -/
def arrK {α : Type} (x : Option Obj) (k : Nat → List (List W) → Nat → Option α) : Option α := match x with
  | some (.arr s rows p) => k s rows p
  | _ => none
@[simp] theorem arrK_some {α : Type} {s p : Nat} {rows : List (List W)} {k : Nat → List (List W) → Nat → Option α} : arrK (some (.arr s rows p)) k = k s rows p := rfl
def boxK {α : Type} (x : Option Obj) (k : List W → Option α) : Option α := match x with
  | some (.box cells) => k cells
  | _ => none
@[simp] theorem boxK_some {α : Type} {cells : List W} {k : List W → Option α} : boxK (some (.box cells)) k = k cells := rfl
/-- What goes on where an option is. -/
def bindK {α γ : Type} (x : Option α) (k : α → Option γ) : Option γ := match x with
  | some a => k a
  | none => none
@[simp] theorem bindK_some {α γ : Type} {a : α} {k : α → Option γ} : bindK (some a) k = k a := rfl

@[simp] theorem toC_arr {d k n : Nat} : W.toC L (d + 1) (.arr k n) = arrK (L k) fun _ rows _ => bif rows.length == n then (listM (listM (W.toC L d)) rows).map .sl else none := by
  rfl
@[simp] theorem deep_eq : deep = 4 := rfl
end

section
variable {C : Ctx} {E : Nat → Option V} {L : Nat → Option Obj} {oid : Nat}

@[simp] theorem x_mv {x : Opd} : exec1 C E L oid (.mv x) = some (x.val C E, []) := rfl

def pickK (c a b : V) : Option (V × Upd) := match c with
  | .sc (.c (.bool t)) => some (bif t then a else b, [])
  | _ => none
@[simp] theorem pickK_bool {t : Bool} {a b : V} : pickK (.sc (.c (.bool t))) a b = some (bif t then a else b, []) := rfl
@[simp] theorem x_pick {c a b : Opd} : exec1 C E L oid (.pick c a b) = pickK (c.val C E) (a.val C E) (b.val C E) := by
  rfl

def binV (op : BinOp) (tag : Nat) (x y : V) : Option (V × Upd) := match x, y with
  | .sc a, .sc b => (binW op tag a b).map fun r => (.sc (.c r), [])
  | _, _ => none
@[simp] theorem x_bin {op : BinOp} {tag : Nat} {x y : Opd} : exec1 C E L oid (.bin op tag x y) = binV op tag (x.val C E) (y.val C E) := by
  rfl
@[simp] theorem b_add {k : IntKind} {a b : Int} : binV .add 0 (.sc (.c (.int k a))) (.sc (.c (.int k b))) = some (.sc (.c (.int k (k.wrap (a + b)))), []) := by simp [binV, binW, isShift, intBin, wrapI]
@[simp] theorem b_sub {k : IntKind} {a b : Int} : binV .sub 0 (.sc (.c (.int k a))) (.sc (.c (.int k b))) = some (.sc (.c (.int k (k.wrap (a - b)))), []) := by simp [binV, binW, isShift, intBin, wrapI]
@[simp] theorem b_mul {k : IntKind} {a b : Int} : binV .mul 0 (.sc (.c (.int k a))) (.sc (.c (.int k b))) = some (.sc (.c (.int k (k.wrap (a * b)))), []) := by simp [binV, binW, isShift, intBin, wrapI]
@[simp] theorem b_eql {k : IntKind} {a b : Int} : binV .eql 0 (.sc (.c (.int k a))) (.sc (.c (.int k b))) = some (.sc (.c (.bool (decide (a = b)))), []) := by simp [binV, binW, isShift, intBin]; rw [Bool.eq_iff_iff]; simp
@[simp] theorem b_neq {k : IntKind} {a b : Int} : binV .neq 0 (.sc (.c (.int k a))) (.sc (.c (.int k b))) = some (.sc (.c (.bool !decide (a = b))), []) := by simp [binV, binW, isShift, intBin]; rw [Bool.eq_iff_iff]; simp
@[simp] theorem b_lss {k : IntKind} {a b : Int} : binV .lss 0 (.sc (.c (.int k a))) (.sc (.c (.int k b))) = some (.sc (.c (.bool (decide (a < b)))), []) := by simp [binV, binW, isShift, intBin]
@[simp] theorem b_leq {k : IntKind} {a b : Int} : binV .leq 0 (.sc (.c (.int k a))) (.sc (.c (.int k b))) = some (.sc (.c (.bool (decide (a ≤ b)))), []) := by simp [binV, binW, isShift, intBin]
@[simp] theorem b_gtr {k : IntKind} {a b : Int} : binV .gtr 0 (.sc (.c (.int k a))) (.sc (.c (.int k b))) = some (.sc (.c (.bool (decide (b < a)))), []) := by simp [binV, binW, isShift, intBin]
@[simp] theorem b_geq {k : IntKind} {a b : Int} : binV .geq 0 (.sc (.c (.int k a))) (.sc (.c (.int k b))) = some (.sc (.c (.bool (decide (b ≤ a)))), []) := by simp [binV, binW, isShift, intBin]
@[simp] theorem b_seql {a b : List UInt8} : binV .eql 0 (.sc (.c (.str a))) (.sc (.c (.str b))) = some (.sc (.c (.bool (decide (a = b)))), []) := by simp [binV, binW, strBin]; rw [Bool.eq_iff_iff]; simp
@[simp] theorem b_sneq {a b : List UInt8} : binV .neq 0 (.sc (.c (.str a))) (.sc (.c (.str b))) = some (.sc (.c (.bool !decide (a = b))), []) := by simp [binV, binW, strBin]; rw [Bool.eq_iff_iff]; simp
@[simp] theorem b_sadd {a b : List UInt8} (h : a.length + b.length ≤ 9223372036854775807) : binV .add 0 (.sc (.c (.str a))) (.sc (.c (.str b))) = some (.sc (.c (.str (a ++ b))), []) := by simp [binV, binW, strBin, h]
@[simp] theorem b_beql {a b : Bool} : binV .eql 1 (.sc (.c (.bool a))) (.sc (.c (.bool b))) = some (.sc (.c (.bool (a == b))), []) := rfl
@[simp] theorem b_bneq {a b : Bool} : binV .neq 1 (.sc (.c (.bool a))) (.sc (.c (.bool b))) = some (.sc (.c (.bool !(a == b))), []) := rfl

def unV (op : UnOp) (x : V) : Option (V × Upd) := match x with
  | .sc a => (unW op a).map fun r => (.sc (.c r), [])
  | _ => none
@[simp] theorem x_un {op : UnOp} {x : Opd} : exec1 C E L oid (.un op x) = unV op (x.val C E) := by
  rfl
@[simp] theorem unV_not {b : Bool} : unV .not (.sc (.c (.bool b))) = some (.sc (.c (.bool !b)), []) := rfl
@[simp] theorem unV_neg {k : IntKind} {a : Int} : unV .neg (.sc (.c (.int k a))) = some (.sc (.c (.int k (k.wrap (0 - a)))), []) := rfl

def newK (x : Option Obj) (r : Option (V × Upd)) : Option (V × Upd) := match x with
  | some _ => none
  | none => r
@[simp] theorem newK_none {r : Option (V × Upd)} : newK none r = r := rfl
@[simp] theorem ownW_cells_nil {own : List (Nat × Nat)} {j : Nat} : ownW oid own j [] = ([], []) := rfl
theorem ownW_no : ∀ (cells : List W) (j : Nat), ownW oid [] j cells = (cells, []) := by
  intro cells
  induction cells with
  | nil => simp
  | cons w r ih =>
    intro j
    simp only [ownW, ih, get?]
attribute [simp] ownW_no
@[simp] theorem x_new {cells : List W} : exec1 C E L oid (.new cells []) = newK (L oid) (some (.sc (.ptr oid 0), [(oid, some (.box cells))])) := by
  simp only [exec1, ownW_no, newK]
  cases L oid <;> rfl

def boxV (L : Nat → Option Obj) (oid : Nat) (x : V) : Option (V × Upd) := match x with
  | .sc w => newK (L oid) (bif notUn w then some (.sc (.ptr oid 0), [(oid, some (.box [w]))]) else none)
  | .ag cs => newK (L oid) (bif cs.all notUn then some (.sc (.ptr oid 0), [(oid, some (.box cs))]) else none)
  | .tu _ => none
@[simp] theorem x_box {x : Opd} : exec1 C E L oid (.box x) = boxV L oid (x.val C E) := by
  simp only [exec1, boxV, newK]
  cases x.val C E <;> cases L oid <;> rfl
@[simp] theorem boxV_sc {w : W} : boxV L oid (.sc w) = newK (L oid) (bif notUn w then some (.sc (.ptr oid 0), [(oid, some (.box [w]))]) else none) := rfl
@[simp] theorem boxV_ag {cs : List W} : boxV L oid (.ag cs) = newK (L oid) (bif cs.all notUn then some (.sc (.ptr oid 0), [(oid, some (.box cs))]) else none) := rfl
@[simp] theorem notUn_c {x : Cell} : notUn (.c x) = true := rfl
@[simp] theorem notUn_nil : notUn .nil = true := rfl
@[simp] theorem notUn_arr {k n : Nat} : notUn (.arr k n) = true := rfl
@[simp] theorem notUn_ptr {k n : Nat} : notUn (.ptr k n) = true := rfl
@[simp] theorem notUn_full {rows : List (List Cell)} : notUn (.full rows) = true := rfl
@[simp] theorem notUn_e0 {b : Bool} : notUn (.e0 b) = true := rfl

/-- The cells of a part, where it has so many. -/
def pieceOf (n : Nat) (v : V) : Option (List W) := match v with
  | .tu _ => none
  | .sc w => bif n == 1 && notUn w then some [w] else none
  | .ag cs => bif cs.length == n && cs.all notUn then some cs else none
@[simp] theorem pieceOf_sc {n : Nat} {w : W} : pieceOf n (.sc w) = bif n == 1 && notUn w then some [w] else none := rfl
@[simp] theorem pieceOf_ag {n : Nat} {cs : List W} : pieceOf n (.ag cs) = bif cs.length == n && cs.all notUn then some cs else none := rfl
theorem pieceOf_eq (n : Nat) (v : V) : (match v with
        | .tu _ => none
        | v => bif v.cells.length == n && v.cells.all notUn then some v.cells else none) = pieceOf n v := by
  cases v <;> grind [V.cells, pieceOf]

theorem listM_congr2 {α β : Type} {f g : α → Option β} {l : List α} (h : ∀ x, f x = g x) : listM f l = listM g l := by rw [funext h]

def fillK (zero : List W) (ps : Option (List (Nat × List W))) : Option (V × Upd) := match ps with
  | none => none
  | some ps => (fillW zero ps).map fun cs => (.ag cs, [])
@[simp] theorem fillK_some {zero : List W} {ps : List (Nat × List W)} : fillK zero (some ps) = (fillW zero ps).map fun cs => (.ag cs, []) := rfl
@[simp] theorem x_build {zero : List W} {parts : List (Nat × Nat × Opd)} : exec1 C E L oid (.build zero parts) = fillK zero (listM (fun (x : Nat × Nat × Opd) => (pieceOf x.2.1 (x.2.2.val C E)).map fun cs => (x.1, cs)) parts) := by
  simp only [exec1, fillK]
  rw [listM_congr2 (g := fun (x : Nat × Nat × Opd) => (pieceOf x.2.1 (x.2.2.val C E)).map fun cs => (x.1, cs)) fun x => ?_]
  · generalize listM (fun (x : Nat × Nat × Opd) => (pieceOf x.2.1 (x.2.2.val C E)).map fun cs => (x.1, cs)) parts = y
    cases y <;> rfl
  · rw [← pieceOf_eq]
    cases x.2.2.val C E with
    | tu l => rfl
    | ag cs => simp only; cases (V.ag cs).cells.length == x.2.1 && (V.ag cs).cells.all notUn <;> rfl
    | sc w => simp only; cases (V.sc w).cells.length == x.2.1 && (V.sc w).cells.all notUn <;> rfl
@[simp] theorem fillW_nil {cells : List W} : fillW cells [] = some cells := rfl
@[simp] theorem fillW_cons {cells xs : List W} {off : Nat} {r : List (Nat × List W)} : fillW cells ((off, xs) :: r) = bindK (splice cells off xs) fun c => fillW c r := by
  simp only [fillW, bindK]
  split <;> rename_i h <;> simp only [h]
theorem splice_eq {α : Type} {l xs : List α} {off : Nat} : splice l off xs = bif Nat.ble (off + xs.length) l.length then some (l.take off ++ xs ++ l.drop (off + xs.length)) else none := rfl
@[simp] theorem ble_eq (a b : Nat) : Nat.ble a b = decide (a ≤ b) := ble_dec a b
@[simp] theorem blt_eq (a b : Nat) : Nat.blt a b = decide (a < b) := blt_dec a b

def mkSlK (oid : Nat) (s : Nat) (rows : Option (List (List W))) : Option (V × Upd) := match rows with
  | none => none
  | some rows => some (.sc (.arr oid rows.length), [(oid, some (.arr s rows 0))])
@[simp] theorem mkSlK_some {s : Nat} {rows : List (List W)} : mkSlK oid s (some rows) = some (.sc (.arr oid rows.length), [(oid, some (.arr s rows 0))]) := rfl
@[simp] theorem x_mkSl {s : Nat} {parts : List Opd} : exec1 C E L oid (.mkSl s parts) = newK (L oid) (mkSlK oid s (listM (fun x => pieceOf s (x.val C E)) parts)) := by
  simp only [exec1, newK, mkSlK]
  rw [listM_congr2 (g := fun (x : Opd) => pieceOf s (x.val C E)) fun x => ?_]
  · generalize listM (fun (x : Opd) => pieceOf s (x.val C E)) parts = y
    cases L oid with
    | some _ => rfl
    | none => cases y <;> rfl
  · rw [← pieceOf_eq]
    cases x.val C E <;> rfl

theorem cut_eq {α : Type} {l : List α} {off n : Nat} : cut l off n = bif Nat.ble (off + n) l.length then some ((l.drop off).take n) else none := rfl
@[simp] theorem cut_skip {α : Type} {a : α} {l : List α} {k n : Nat} : cut (a :: l) (k + 1) n = cut l k n := by
  simp only [cut, List.length_cons, List.drop_succ_cons, ble_eq]
  rw [show decide (k + 1 + n ≤ l.length + 1) = decide (k + n ≤ l.length) from by congr 1; apply propext; omega]
@[simp] theorem cut_take {α : Type} {a : α} {l : List α} {n : Nat} : cut (a :: l) 0 (n + 1) = (cut l 0 n).map (a :: ·) := by
  simp only [cut, List.length_cons, List.drop_zero, List.take_succ_cons, ble_eq]
  rw [show decide (0 + (n + 1) ≤ l.length + 1) = decide (0 + n ≤ l.length) from by congr 1; apply propext; omega]
  cases decide (0 + n ≤ l.length) <;> rfl
@[simp] theorem cut_none {α : Type} {l : List α} : cut l 0 0 = some [] := by rfl
@[simp] theorem splice_skip {α : Type} {a : α} {l xs : List α} {k : Nat} : splice (a :: l) (k + 1) xs = (splice l k xs).map (a :: ·) := by
  simp only [splice, List.length_cons, List.take_succ_cons, ble_eq]
  rw [show decide (k + 1 + xs.length ≤ l.length + 1) = decide (k + xs.length ≤ l.length) from by congr 1; apply propext; omega]
  rw [show k + 1 + xs.length = (k + xs.length) + 1 by omega, List.drop_succ_cons]
  cases decide (k + xs.length ≤ l.length) <;> simp
@[simp] theorem splice_put {α : Type} {a x : α} {l xs : List α} : splice (a :: l) 0 (x :: xs) = (splice l 0 xs).map (x :: ·) := by
  simp only [splice, List.length_cons, List.take_zero, ble_eq]
  rw [show decide (0 + (xs.length + 1) ≤ l.length + 1) = decide (0 + xs.length ≤ l.length) from by congr 1; apply propext; omega]
  rw [show 0 + (xs.length + 1) = (0 + xs.length) + 1 by omega, List.drop_succ_cons]
  cases decide (0 + xs.length ≤ l.length) <;> simp
@[simp] theorem splice_full {α : Type} {l xs : List α} (h : l.length = xs.length) : splice l 0 xs = some xs := by simp [splice, h]
@[simp] theorem splice_none {α : Type} {l : List α} : splice l 0 [] = some l := by rfl
@[simp] theorem asV_true {cs : List W} : asV true cs = some (.ag cs) := rfl
@[simp] theorem asV_false {w : W} : asV false [w] = some (.sc w) := rfl

def loadV (L : Nat → Option Obj) (ag : Bool) (n : Nat) (v : V) : Option (V × Upd) := (load1 L ag n v).map fun v => (v, [])
@[simp] theorem x_load {ag : Bool} {n : Nat} {a : Opd} : exec1 C E L oid (.load ag n a) = loadV L ag n (a.val C E) := by
  simp only [exec1, loadV]
  generalize a.val C E = v
  cases v with
  | sc w => cases w with
    | ptr k off =>
      simp only [load1]
      cases L k with
      | none => rfl
      | some o => cases o with
        | box cells => simp only; cases cut cells off n <;> rfl
        | mp _ => rfl
        | arr => rfl
    | el k N i off =>
      simp only [load1]
      cases L k with
      | none => rfl
      | some o => cases o with
        | box cells => rfl
        | mp _ => rfl
        | arr s rows p =>
          simp only
          cases rows.length == N with
          | false => rfl
          | true =>
            simp only [cond_true]
            cases rows[i]? with
            | none => rfl
            | some row => simp only [Option.bind_some]; cases cut row off n <;> rfl
    | c x => cases x with
      | ro row off => simp only [load1]; cases cut row off n <;> rfl
      | _ => rfl
    | _ => rfl
  | _ => rfl
@[simp] theorem loadV_ptr {ag : Bool} {n k off : Nat} : loadV L ag n (.sc (.ptr k off)) = boxK (L k) fun cells => ((cut cells off n).bind (asV ag)).map fun v => (v, []) := by
  simp only [loadV, load1, boxK]
  split <;> rename_i h
  · simp only [h]
  · split <;> rename_i h' <;> first | rfl | exact absurd h' (h _)
@[simp] theorem loadV_el {ag : Bool} {n k N i off : Nat} : loadV L ag n (.sc (.el k N i off)) = arrK (L k) fun _ rows _ => bif rows.length == N then bindK rows[i]? fun row => ((cut row off n).bind (asV ag)).map fun v => (v, []) else none := by
  simp only [loadV, load1, arrK]
  cases L k with
  | none => rfl
  | some o => cases o with
    | box cells => rfl
    | mp _ => rfl
    | arr s rows p =>
      simp only
      cases rows.length == N with
      | false => rfl
      | true => simp only [cond_true]; cases rows[i]? <;> rfl
@[simp] theorem loadV_ro {ag : Bool} {n off : Nat} {row : List Cell} : loadV L ag n (.sc (.c (.ro row off))) = ((cut row off n).bind fun cs => asV ag (wc cs)).map fun v => (v, []) := rfl

@[simp] theorem x_fld {off : Nat} {a : Opd} : exec1 C E L oid (.fld off a) = onBy L off (a.val C E) := rfl
@[simp] theorem onBy_ptr {n k o : Nat} : onBy L n (.sc (.ptr k o)) = some (.sc (.ptr k (o + n)), []) := rfl
@[simp] theorem onBy_ro {n o : Nat} {row : List Cell} : onBy L n (.sc (.c (.ro row o))) = some (.sc (.c (.ro row (o + n))), []) := rfl
@[simp] theorem onBy_el {n k N i o : Nat} : onBy L n (.sc (.el k N i o)) = bif elOk L k N i then some (.sc (.el k N i (o + n)), []) else none := rfl

def storeK (L : Nat → Option Obj) (a : V) (cs : List W) : Option (V × Upd) := match a with
  | .sc (.ptr k off) => boxK (L k) fun cells => (splice cells off cs).map fun cs => (.sc .un, [(k, some (.box cs))])
  | .sc (.el k N i off) => arrK (L k) fun s rows p => bif rows.length == N && Nat.ble p i then bindK rows[i]? fun row => (splice row off cs).map fun cs => (.sc .un, [(k, some (.arr s (setRow rows i cs) p))]) else none
  | _ => none
@[simp] theorem storeK_ptr {k off : Nat} {cs : List W} : storeK L (.sc (.ptr k off)) cs = boxK (L k) fun cells => (splice cells off cs).map fun cs => (.sc .un, [(k, some (.box cs))]) := rfl
@[simp] theorem storeK_el {k N i off : Nat} {cs : List W} : storeK L (.sc (.el k N i off)) cs = arrK (L k) fun s rows p => bif rows.length == N && Nat.ble p i then bindK rows[i]? fun row => (splice row off cs).map fun cs => (.sc .un, [(k, some (.arr s (setRow rows i cs) p))]) else none := rfl
@[simp] theorem x_store {n : Nat} {a x : Opd} : exec1 C E L oid (.store n a x []) = bindK (pieceOf n (x.val C E)) (storeK L (a.val C E)) := by
  rw [← pieceOf_eq]
  simp only [exec1]
  generalize x.val C E = v
  generalize a.val C E = w
  have key : ∀ v : V, (bif v.cells.length == n && v.cells.all notUn && (ownW oid [] 0 v.cells).2.all (fun u => (L u.1).isNone) then (match w with
      | .sc (.ptr k off) => match L k with
        | some (.box cells) => (splice cells off (ownW oid [] 0 v.cells).1).map fun cs => (V.sc .un, (ownW oid [] 0 v.cells).2 ++ [(k, some (Obj.box cs))])
        | _ => none
      | .sc (.el k N i off) => match L k with
        | some (.arr s rows p) => bif rows.length == N && Nat.ble p i then match rows[i]? with
          | some row => (splice row off (ownW oid [] 0 v.cells).1).map fun cs => (V.sc .un, (ownW oid [] 0 v.cells).2 ++ [(k, some (Obj.arr s (setRow rows i cs) p))])
          | none => none
          else none
        | _ => none
      | _ => none)
      else none) = bindK (bif v.cells.length == n && v.cells.all notUn then some v.cells else none) (storeK L w) := by
    grind [ownW_no, storeK, boxK, arrK, bindK]
  cases v with
  | tu l => rfl
  | sc w' => grind
  | ag cs => grind

def partK (ag : Bool) (off n : Nat) (v : V) : Option (V × Upd) := match v with
  | .ag cs => ((cut cs off n).bind (asV ag)).map fun v => (v, [])
  | _ => none
@[simp] theorem partK_ag {ag : Bool} {off n : Nat} {cs : List W} : partK ag off n (.ag cs) = ((cut cs off n).bind (asV ag)).map fun v => (v, []) := rfl
@[simp] theorem x_part {ag : Bool} {off n : Nat} {x : Opd} : exec1 C E L oid (.part ag off n x) = partK ag off n (x.val C E) := by
  simp only [exec1, partK]
  generalize x.val C E = v
  cases v with
  | ag cs => simp only; cases cut cs off n <;> rfl
  | _ => rfl

/-- x[i] of a slice. -/
def idxK (L : Nat → Option Obj) (s : Nat) (x i : V) : Option (V × Upd) := match x with
  | .sc (.c (.sl rows)) => bindK (natBelow i rows.length) fun j => bindK rows[j]? fun row => bif row.length == s then some (.sc (.c (.ro row 0)), []) else none
  | .sc (.full rows) => bindK (natBelow i rows.length) fun j => bindK rows[j]? fun row => bif row.length == s then some (.sc (.c (.ro row 0)), []) else none
  | .sc (.arr k n) => arrK (L k) fun s' rows _ => bif rows.length == n && s' == s then (natBelow i n).map fun j => (.sc (.el k n j 0), []) else none
  | .sc (.vw k N lo n) => arrK (L k) fun s' rows _ => bif rows.length == N && Nat.ble (lo + n) N && s' == s then (natBelow i n).map fun j => (.sc (.el k N (lo + j) 0), []) else none
  | _ => none
@[simp] theorem idxK_sl {s : Nat} {rows : List (List Cell)} {i : V} : idxK L s (.sc (.c (.sl rows))) i = bindK (natBelow i rows.length) fun j => bindK rows[j]? fun row => bif row.length == s then some (.sc (.c (.ro row 0)), []) else none := rfl
@[simp] theorem idxK_full {s : Nat} {rows : List (List Cell)} {i : V} : idxK L s (.sc (.full rows)) i = bindK (natBelow i rows.length) fun j => bindK rows[j]? fun row => bif row.length == s then some (.sc (.c (.ro row 0)), []) else none := rfl
@[simp] theorem idxK_arr {s k n : Nat} {i : V} : idxK L s (.sc (.arr k n)) i = arrK (L k) fun s' rows _ => bif rows.length == n && s' == s then (natBelow i n).map fun j => (.sc (.el k n j 0), []) else none := rfl
@[simp] theorem idxK_vw {s k N lo n : Nat} {i : V} : idxK L s (.sc (.vw k N lo n)) i = arrK (L k) fun s' rows _ => bif rows.length == N && Nat.ble (lo + n) N && s' == s then (natBelow i n).map fun j => (.sc (.el k N (lo + j) 0), []) else none := rfl
@[simp] theorem x_idxA {s : Nat} {x i : Opd} : exec1 C E L oid (.idxA s x i) = idxK L s (x.val C E) (i.val C E) := by
  simp only [exec1, idxK]
  generalize x.val C E = v
  generalize i.val C E = j
  cases v with
  | sc w => cases w with
    | c x => cases x with
      | sl rows =>
        simp only [bindK]
        cases natBelow j rows.length with
        | none => rfl
        | some m => simp only; cases rows[m]? <;> rfl
      | _ => rfl
    | full rows =>
      simp only [bindK]
      cases natBelow j rows.length with
      | none => rfl
      | some m => simp only; cases rows[m]? <;> rfl
    | arr k n => simp only [arrK]; cases L k with
      | none => rfl
      | some o => cases o <;> rfl
    | vw k N lo n => simp only [arrK]; cases L k with
      | none => rfl
      | some o => cases o <;> rfl
    | _ => rfl
  | _ => rfl
@[simp] theorem natBelow_cast {k : IntKind} {n b : Nat} (h : n < b) : natBelow (.sc (.c (.int k (n : Int)))) b = some n := by
  simp [natBelow_nat, h]
theorem natBelow_lit {k : IntKind} {n b : Nat} (h : n < b) : natBelow (.sc (.c (.int k (Int.ofNat n)))) b = some n := natBelow_cast h
@[simp] theorem natBelow_zero {k : IntKind} {b : Nat} (h : 0 < b) : natBelow (.sc (.c (.int k 0))) b = some 0 := natBelow_cast (n := 0) h
@[simp] theorem natBelow_one {k : IntKind} {b : Nat} (h : 1 < b) : natBelow (.sc (.c (.int k 1))) b = some 1 := natBelow_cast (n := 1) h
theorem natBelow_int {k : IntKind} {x : Int} {b : Nat} (h0 : 0 ≤ x) (h : x < b) : natBelow (.sc (.c (.int k x))) b = some x.toNat := by
  grind [natBelow_cast]

def idxSK (x i : V) : Option (V × Upd) := match x with
  | .sc (.c (.str s)) => bindK (natBelow i s.length) fun j => (s[j]?).map fun b => (.sc (.c (.int .u8 b.toNat)), [])
  | _ => none
@[simp] theorem idxSK_str {s : List UInt8} {i : V} : idxSK (.sc (.c (.str s))) i = bindK (natBelow i s.length) fun j => (s[j]?).map fun b => (.sc (.c (.int .u8 b.toNat)), []) := rfl
@[simp] theorem x_idxS {x i : Opd} : exec1 C E L oid (.idxS x i) = idxSK (x.val C E) (i.val C E) := by
  simp only [exec1, idxSK]
  generalize x.val C E = v
  generalize i.val C E = j
  cases v with
  | sc w => cases w with
    | c x => cases x with
      | str s => simp only [bindK]; cases natBelow j s.length <;> rfl
      | _ => rfl
    | _ => rfl
  | _ => rfl

@[simp] theorem x_len {str : Bool} {x : Opd} : exec1 C E L oid (.len str x) = bif isStr (x.val C E) == str then (lenV L (x.val C E)).map fun (n : Nat) => (V.sc (.c (.int .i64 (n : Int))), []) else none := by
  simp only [exec1]
  cases isStr (x.val C E) == str <;> cases lenV L (x.val C E) <;> rfl
@[simp] theorem isStr_str {s : List UInt8} : isStr (.sc (.c (.str s))) = true := rfl
@[simp] theorem isStr_sl {rows : List (List Cell)} : isStr (.sc (.c (.sl rows))) = false := rfl
@[simp] theorem isStr_arr {k n : Nat} : isStr (.sc (.arr k n)) = false := rfl
@[simp] theorem isStr_vw {k N lo n : Nat} : isStr (.sc (.vw k N lo n)) = false := rfl
@[simp] theorem isStr_nil : isStr (.sc .nil) = false := rfl
@[simp] theorem isStr_full {rows : List (List Cell)} : isStr (.sc (.full rows)) = false := rfl
@[simp] theorem isStr_e0 {b : Bool} : isStr (.sc (.e0 b)) = false := rfl
@[simp] theorem lenV_str {s : List UInt8} : lenV L (.sc (.c (.str s))) = some s.length := rfl
@[simp] theorem lenV_sl {rows : List (List Cell)} : lenV L (.sc (.c (.sl rows))) = some rows.length := rfl
@[simp] theorem lenV_full {rows : List (List Cell)} : lenV L (.sc (.full rows)) = some rows.length := rfl
@[simp] theorem lenV_nil : lenV L (.sc .nil) = some 0 := rfl
@[simp] theorem lenV_e0 {b : Bool} : lenV L (.sc (.e0 b)) = some 0 := rfl
@[simp] theorem lenV_arr {k n : Nat} : lenV L (.sc (.arr k n)) = arrK (L k) fun _ rows _ => bif rows.length == n then some n else none := by
  rfl
@[simp] theorem lenV_vw {k N lo n : Nat} : lenV L (.sc (.vw k N lo n)) = arrK (L k) fun _ rows _ => bif rows.length == N then (cut rows lo n).map (fun _ => n) else none := by
  rfl

@[simp] theorem rowsOf_sl {rows : List (List Cell)} : rowsOf L (.sc (.c (.sl rows))) = some (wr rows) := rfl
@[simp] theorem rowsOf_full {rows : List (List Cell)} : rowsOf L (.sc (.full rows)) = some (wr rows) := rfl
@[simp] theorem rowsOf_nil : rowsOf L (.sc .nil) = some [] := rfl
@[simp] theorem rowsOf_e0 {b : Bool} : rowsOf L (.sc (.e0 b)) = some [] := rfl
@[simp] theorem rowsOf_arr {k n : Nat} : rowsOf L (.sc (.arr k n)) = arrK (L k) fun _ rows _ => bif rows.length == n then some rows else none := by
  rfl
@[simp] theorem rowsOf_vw {k N lo n : Nat} : rowsOf L (.sc (.vw k N lo n)) = arrK (L k) fun _ rows _ => bif rows.length == N then cut rows lo n else none := by
  rfl

/-- Rows that an append takes. -/
def okRows (s : Nat) (ys : List (List W)) : Bool := ys.all fun r => r.length == s && r.all notUn
@[simp] theorem okRows_nil {s : Nat} : okRows s [] = true := rfl
@[simp] theorem okRows_cons {s : Nat} {r : List W} {ys : List (List W)} : okRows s (r :: ys) = (r.length == s && r.all notUn && okRows s ys) := rfl
@[simp] theorem okRows_append {s : Nat} {xs ys : List (List W)} : okRows s (xs ++ ys) = (okRows s xs && okRows s ys) := by simp [okRows]
theorem okRows_data {s : Nat} {rows : List (List Cell)} (h : ∀ r ∈ rows, r.length = s) : okRows s (wr rows) = true := all_rows s rows h

def appK (L : Nat → Option Obj) (oid s bytes : Nat) (_mk : Bool) (x : V) (ys : List (List W)) : Option (V × Upd) :=
  match x with
  | .sc (.arr k n) => arrK (L k) fun s' rows p => bif rows.length == n && s' == s && Nat.ble (n + ys.length) maxRows && Nat.ble ((n + ys.length) * bytes) maxBytes then
      some (.sc (.arr k (n + ys.length)), [(k, some (.arr s (rows ++ ys) p))]) else none
  | .sc (.vw k N 0 n) => arrK (L k) fun s' rows p => bif rows.length == N && s' == s && Nat.ble p n && Nat.ble n N && Nat.ble (n + ys.length) maxRows && Nat.ble ((n + ys.length) * bytes) maxBytes then
      some (.sc (bif Nat.blt N (n + ys.length) then .arr k (n + ys.length) else .vw k N 0 (n + ys.length)), [(k, some (.arr s (rows.take n ++ ys ++ rows.drop (n + ys.length)) p))]) else none
  | .sc .nil => newK (L oid) (bif Nat.ble ys.length maxRows && Nat.ble (ys.length * bytes) maxBytes then some (.sc (.arr oid ys.length), [(oid, some (.arr s ys 0))]) else none)
  | .sc (.full rows) => newK (L oid) (bif (rows.isEmpty || !ys.isEmpty) && rows.all (fun r => r.length == s) && Nat.ble (rows.length + ys.length) maxRows && Nat.ble ((rows.length + ys.length) * bytes) maxBytes then
      some (.sc (.arr oid (rows.length + ys.length)), [(oid, some (.arr s (wr rows ++ ys) 0))]) else none)
  | _ => none
theorem append1_eq {s bytes : Nat} {mk : Bool} {x y : V} : append1 L oid s bytes mk x y = bindK (rowsOf L y) fun ys => bif okRows s ys then appK L oid s bytes mk x ys else none := by
  unfold append1
  simp only [bindK]
  cases rowsOf L y with
  | none => rfl
  | some ys =>
    simp only [okRows]
    cases ys.all (fun r => r.length == s && r.all notUn) with
    | false => rfl
    | true =>
      simp only [cond_true, appK, arrK, newK]
      cases x with
      | sc w => cases w with
        | arr k n => rfl
        | vw k N lo n => cases lo <;> rfl
        | nil => grind
        | full rows => rfl
        | _ => rfl
      | _ => rfl
@[simp] theorem x_app {s bytes : Nat} {mk : Bool} {x y : Opd} : exec1 C E L oid (.app s bytes mk x y) = bindK (rowsOf L (y.val C E)) fun ys => bif okRows s ys then appK L oid s bytes mk (x.val C E) ys else none := append1_eq
theorem bytes_ok {n bytes : Nat} (h : n * bytes ≤ 140737488355328) (hb : 1 ≤ bytes) : Nat.ble n maxRows = true ∧ Nat.ble (n * bytes) maxBytes = true := by
  have := Nat.le_mul_of_pos_right n hb
  exact ⟨Nat.ble_eq_true_of_le (by unfold maxRows; omega), Nat.ble_eq_true_of_le h⟩
@[simp] theorem appK_arr {s bytes k n : Nat} {mk : Bool} {ys : List (List W)} (h : (n + ys.length) * bytes ≤ 140737488355328) (hb : 1 ≤ bytes) : appK L oid s bytes mk (.sc (.arr k n)) ys = arrK (L k) fun s' rows p => bif rows.length == n && s' == s then
      some (.sc (.arr k (n + ys.length)), [(k, some (.arr s (rows ++ ys) p))]) else none := by
  simp only [appK, arrK]
  rw [(bytes_ok h hb).1, (bytes_ok h hb).2]
  simp only [Bool.and_true]
@[simp] theorem appK_nil {s bytes : Nat} {mk : Bool} {ys : List (List W)} (h : ys.length * bytes ≤ 140737488355328) (hb : 1 ≤ bytes) : appK L oid s bytes mk (.sc .nil) ys = newK (L oid) (some (.sc (.arr oid ys.length), [(oid, some (.arr s ys 0))])) := by
  simp only [appK]
  rw [(bytes_ok h hb).1, (bytes_ok h hb).2]
  rfl
@[simp] theorem appK_full {s bytes : Nat} {mk : Bool} {rows : List (List Cell)} {ys : List (List W)} (h : (rows.length + ys.length) * bytes ≤ 140737488355328) (hb : 1 ≤ bytes) : appK L oid s bytes mk (.sc (.full rows)) ys = newK (L oid) (bif (rows.isEmpty || !ys.isEmpty) && rows.all (fun r => r.length == s) then
      some (.sc (.arr oid (rows.length + ys.length)), [(oid, some (.arr s (wr rows ++ ys) 0))]) else none) := by
  simp only [appK]
  rw [(bytes_ok h hb).1, (bytes_ok h hb).2]
  simp only [Bool.and_true]
end

end Go.Vs

/- The value semantics, 39: rules for rewriting: calls, and how functions end. -/
namespace Go.Vs
open Go

section
variable {C : Ctx} {E : Nat → Option V} {L : Nat → Option Obj} {oid : Nat}

@[simp] theorem cells_sc {w : W} : (V.sc w).cells = [w] := rfl
@[simp] theorem cells_ag {cs : List W} : (V.ag cs).cells = cs := rfl
@[simp] theorem vren_sc {ρ : Nat → Option Nat} {w : W} : (V.sc w).ren ρ = .sc (w.ren ρ deep) := rfl
@[simp] theorem vren_ag {ρ : Nat → Option Nat} {cs : List W} : (V.ag cs).ren ρ = .ag (cs.map (W.ren ρ deep)) := rfl
@[simp] theorem vrefs_sc {w : W} : (V.sc w).refs = w.refs deep := by simp [V.refs]
@[simp] theorem vrefs_ag {cs : List W} : (V.ag cs).refs = cs.flatMap (W.refs deep) := rfl
@[simp] theorem oren_box {ρ : Nat → Option Nat} {cs : List W} : (Obj.box cs).ren ρ = .box (cs.map (W.ren ρ deep)) := rfl
@[simp] theorem oren_arr {ρ : Nat → Option Nat} {s p : Nat} {rows : List (List W)} : (Obj.arr s rows p).ren ρ = .arr s (rows.map (·.map (W.ren ρ deep))) p := rfl
@[simp] theorem orefs_box {cs : List W} : (Obj.box cs).refs = cs.flatMap (W.refs deep) := rfl
@[simp] theorem orefs_arr {s p : Nat} {rows : List (List W)} : (Obj.arr s rows p).refs = rows.flatMap (·.flatMap (W.refs deep)) := rfl
@[simp] theorem toD_sc {w : W} : (V.sc w).toD L = (w.toC L deep).map fun x => .sc (.c x) := rfl
@[simp] theorem toD_ag {cs : List W} : (V.ag cs).toD L = (listM (W.toC L deep) cs).map fun l => .ag (wc l) := rfl
@[simp] theorem toR_full {rows : List (List Cell)} : (V.sc (.full rows)).toR L = some (.sc (.full rows)) := rfl
@[simp] theorem toR_c {x : Cell} : (V.sc (.c x)).toR L = some (.sc (.c x)) := rfl
@[simp] theorem toR_nil : (V.sc .nil).toR L = some (.sc (.c (.sl []))) := rfl
@[simp] theorem toR_arr {k n : Nat} : (V.sc (.arr k n)).toR L = ((W.arr k n).toC L deep).map fun x => .sc (.c x) := rfl
@[simp] theorem toR_ag {cs : List W} : (V.ag cs).toR L = (listM (W.toR L) cs).map .ag := rfl
@[simp] theorem wtoR_nil : W.toR L .nil = some .nil := rfl
@[simp] theorem wtoR_c {x : Cell} : W.toR L (.c x) = some (.c x) := rfl
@[simp] theorem wtoR_full {rows : List (List Cell)} : W.toR L (.full rows) = some (.c (.sl rows)) := rfl
@[simp] theorem wtoR_arr {k n : Nat} : W.toR L (.arr k n) = ((W.arr k n).toC L deep).map W.c := rfl
@[simp] theorem listM_toR (cs : List Cell) : listM (W.toR L) (wc cs) = some (wc cs) := by
  induction cs with
  | nil => rfl
  | cons x r ih => rw [wc_cons, listM_cons, ih]; rfl
@[simp] theorem refs_cc (d : Nat) (rows : List (List Cell)) : (wr rows).flatMap (fun r => r.flatMap (W.refs d)) = [] := by
  simp [wr, wc, List.flatMap_eq_nil_iff, refs_c]
@[simp] theorem ren_cc (ρ : Nat → Option Nat) (d : Nat) (rows : List (List Cell)) : (wr rows).map (fun r => r.map (W.ren ρ d)) = wr rows := by
  unfold wr
  rw [List.map_map]
  exact List.map_congr_left fun x _ => wc_ren ρ d x

@[simp] theorem vals_nil : vals C E [] = [] := rfl
@[simp] theorem vals_cons {b : Bool} {x : Opd} {r : List (Bool × Opd)} : vals C E ((b, x) :: r) = (b, x.val C E) :: vals C E r := rfl

@[simp] theorem argsOf_nil : argsOf L [] = some ([], [], []) := rfl
def argD (d : Option V) (is : List Nat) (q : Option (List V × List Nat × List Nat)) : Option (List V × List Nat × List Nat) := match d, q with
  | some d, some (vs, ds, rs) => some (d :: vs, is ++ ds, rs)
  | _, _ => none
@[simp] theorem argD_some {d : V} {is ds rs : List Nat} {vs : List V} : argD (some d) is (some (vs, ds, rs)) = some (d :: vs, is ++ ds, rs) := rfl
@[simp] theorem argsOf_data {v : V} {r : List (Bool × V)} : argsOf L ((false, v) :: r) = argD (v.toD L) (v.cells.flatMap (W.ids L deep)) (argsOf L r) := by
  simp only [argsOf, argD]
  cases v.toD L <;> cases argsOf L r <;> rfl
def argR (v : V) (is : List Nat) (q : Option (List V × List Nat × List Nat)) : Option (List V × List Nat × List Nat) := match q with
  | some (vs, ds, rs) => some (v :: vs, ds, is ++ rs)
  | none => none
@[simp] theorem argR_some {v : V} {is ds rs : List Nat} {vs : List V} : argR v is (some (vs, ds, rs)) = some (v :: vs, ds, is ++ rs) := rfl
@[simp] theorem argsOf_sc {w : W} {r : List (Bool × V)} : argsOf L ((true, .sc w) :: r) = argR (.sc w) (V.sc w).refs (argsOf L r) := by
  simp only [argsOf, argR]
  cases argsOf L r <;> rfl
@[simp] theorem argsOf_ag {cs : List W} {r : List (Bool × V)} : argsOf L ((true, .ag cs) :: r) = argR (.ag cs) (V.ag cs).refs (argsOf L r) := by
  simp only [argsOf, argR]
  cases argsOf L r <;> rfl

/-- What comes of a call's answer. -/
def callT (L : Nat → Option Obj) (oid : Nat) (ids : List Nat) (os : List Obj) (ds : List Nat) (r : Option (V × List Obj)) : Option (V × Upd) := match r with
  | none => none
  | some (rv, os') =>
    bif Nat.ble ids.length os'.length && (os.zip os').all (fun x => sameKind x.1 x.2) && (newIds oid 0 (os'.length - ids.length)).all (fun k => (L k).isNone) then
      match ds with
      | [] => some (rv.ren fun i => (ids ++ newIds oid 0 (os'.length - ids.length))[i]?, updOf (ids ++ newIds oid 0 (os'.length - ids.length)) (os'.map (Obj.ren fun i => (ids ++ newIds oid 0 (os'.length - ids.length))[i]?)))
      | _ => bif flatV rv && ids.isEmpty && (newIds oid 0 (os'.length - ids.length)).isEmpty then some (rv, []) else
        (pubUpd L ds ds).map fun p => (rv.ren fun i => (ids ++ newIds oid 0 (os'.length - ids.length))[i]?, p ++ updOf (ids ++ newIds oid 0 (os'.length - ids.length)) (os'.map (Obj.ren fun i => (ids ++ newIds oid 0 (os'.length - ids.length))[i]?)))
    else none

def callC (call : Oracle) (L : Nat → Option Obj) (oid : Nat) (g : FuncId) (ids : List Nat) (os : Option (List Obj)) (vs : List V) (ds : List Nat) : Option (V × Upd) := match os with
  | none => none
  | some os => bif ids.all (fun k => !ds.contains k) && (reach L ids).length == ids.length then callT L oid ids os ds (call g (vs.map (V.ren (indexIn ids))) (os.map (Obj.ren (indexIn ids)))) else none
def callA (call : Oracle) (L : Nat → Option Obj) (oid : Nat) (g : FuncId) (q : Option (List V × List Nat × List Nat)) : Option (V × Upd) := match q with
  | none => none
  | some (vs, ds, rs) => callC call L oid g (reach L rs) (listM L (reach L rs)) vs ds

theorem call1_eq {call : Oracle} {f : V} {args : List (Bool × V)} : call1 call L oid f args = match calleeOf f with
  | none => none
  | some (g, caps) => callA call L oid g (argsOf L (args ++ caps)) := by
  unfold call1
  cases calleeOf f with
  | none => rfl
  | some gc =>
    obtain ⟨g, caps⟩ := gc
    simp only [callA]
    cases argsOf L (args ++ caps) with
    | none => rfl
    | some q =>
      obtain ⟨vs, ds, rs⟩ := q
      simp only [callC]
      cases listM L (reach L rs) with
      | none => rfl
      | some os =>
        simp only
        cases ((reach L rs).all fun k => !ds.contains k) && (reach L (reach L rs)).length == (reach L rs).length with
        | false => rfl
        | true =>
          simp only [cond_true, callT]
          cases call g (vs.map (V.ren (indexIn (reach L rs)))) (os.map (Obj.ren (indexIn (reach L rs)))) with
          | none => rfl
          | some r =>
            obtain ⟨rv, os'⟩ := r
            simp only
            cases ((reach L rs).length.ble os'.length && (os.zip os').all (fun x => sameKind x.1 x.2) && (newIds oid 0 (os'.length - (reach L rs).length)).all fun k => (L k).isNone) with
            | false => rfl
            | true =>
              cases ds with
              | nil => rfl
              | cons d ds =>
                simp only [cond_true]
                cases pubUpd L (d :: ds) (d :: ds) <;> rfl
@[simp] theorem call1_fn {call : Oracle} {g : FuncId} {args : List (Bool × V)} : call1 call L oid (.sc (.c (.fn g [] []))) args = callA call L oid g (argsOf L args) := by
  rw [call1_eq]
  simp [calleeOf]

theorem ownArgs_no : ∀ (l : List (Bool × V)) (j : Nat), ownArgs oid [] j l = (l, []) := by
  intro l
  induction l with
  | nil => intro j; rfl
  | cons x r ih =>
    obtain ⟨b, v⟩ := x
    intro j
    simp only [ownArgs, ih, get?]
@[simp] theorem x_call {f : Opd} {args : List (Bool × Opd)} : exec1 C E L oid (.call f args []) = call1 C.call L (oid + 32) (f.val C E) (vals C E args) := by
  simp only [exec1, ownArgs_no, List.all_nil, cond_true, updL_nil, List.nil_append]
  cases call1 C.call L (oid + 32) (f.val C E) (vals C E args) <;> rfl
@[simp] theorem x_callOwn {f : Opd} {args : List (Bool × Opd)} {x : Nat × Nat} {own : List (Nat × Nat)} : exec1 C E L oid (.call f args (x :: own)) =
    bif (ownArgs oid (x :: own) 0 (vals C E args)).2.all (fun u => (L u.1).isNone) then (call1 C.call (updL L (ownArgs oid (x :: own) 0 (vals C E args)).2) (oid + 32) (f.val C E) (ownArgs oid (x :: own) 0 (vals C E args)).1).map fun q => (q.1, (ownArgs oid (x :: own) 0 (vals C E args)).2 ++ q.2) else none := by
  simp only [exec1]
  cases (ownArgs oid (x :: own) 0 (vals C E args)).2.all (fun u => (L u.1).isNone) with
  | false => rfl
  | true =>
    simp only [cond_true]
    cases call1 C.call (updL L (ownArgs oid (x :: own) 0 (vals C E args)).2) (oid + 32) (f.val C E) (ownArgs oid (x :: own) 0 (vals C E args)).1 <;> rfl

/-- Arguments made the frame's own. -/
@[simp] theorem ownArgs_none {own : List (Nat × Nat)} {j : Nat} : ownArgs oid own j [] = ([], []) := rfl
def ownAK (oid j : Nat) (b : Bool) (x : Option Nat) (q : List (Bool × V) × Upd) : List (Bool × V) × Upd := match x with
  | some s => ((true, .sc (.arr (oid + 1 + j) 0)) :: q.1, (oid + 1 + j, some (.arr s [] 0)) :: q.2)
  | none => ((b, .sc .nil) :: q.1, q.2)
@[simp] theorem ownAK_some {j s : Nat} {b : Bool} {q : List (Bool × V) × Upd} : ownAK oid j b (some s) q = ((true, .sc (.arr (oid + 1 + j) 0)) :: q.1, (oid + 1 + j, some (.arr s [] 0)) :: q.2) := rfl
@[simp] theorem ownAK_none {j : Nat} {b : Bool} {q : List (Bool × V) × Upd} : ownAK oid j b none q = ((b, .sc .nil) :: q.1, q.2) := rfl
@[simp] theorem ownArgs_snil {own : List (Nat × Nat)} {j : Nat} {b : Bool} {r : List (Bool × V)} : ownArgs oid own j ((b, .sc .nil) :: r) = ownAK oid j b (get? own j) (ownArgs oid own (j + 1) r) := by
  simp only [ownArgs, ownAK]
  cases get? own j <;> rfl
@[simp] theorem ownArgs_ag {own : List (Nat × Nat)} {j : Nat} {b : Bool} {cs : List W} {r : List (Bool × V)} : ownArgs oid own j ((b, .ag cs) :: r) = ((b, .ag cs) :: (ownArgs oid own (j + 1) r).1, (ownArgs oid own (j + 1) r).2) := by
  simp only [ownArgs]
@[simp] theorem ownArgs_c {own : List (Nat × Nat)} {j : Nat} {b : Bool} {x : Cell} {r : List (Bool × V)} : ownArgs oid own j ((b, .sc (.c x)) :: r) = ((b, .sc (.c x)) :: (ownArgs oid own (j + 1) r).1, (ownArgs oid own (j + 1) r).2) := by
  simp only [ownArgs]
@[simp] theorem ownArgs_arr {own : List (Nat × Nat)} {j k n : Nat} {b : Bool} {r : List (Bool × V)} : ownArgs oid own j ((b, .sc (.arr k n)) :: r) = ((b, .sc (.arr k n)) :: (ownArgs oid own (j + 1) r).1, (ownArgs oid own (j + 1) r).2) := by
  simp only [ownArgs]
@[simp] theorem ownArgs_ptr {own : List (Nat × Nat)} {j k n : Nat} {b : Bool} {r : List (Bool × V)} : ownArgs oid own j ((b, .sc (.ptr k n)) :: r) = ((b, .sc (.ptr k n)) :: (ownArgs oid own (j + 1) r).1, (ownArgs oid own (j + 1) r).2) := by
  simp only [ownArgs]

@[simp] theorem callA_plain {call : Oracle} {g : FuncId} {vs : List V} {ds : List Nat} : callA call L oid g (some (vs, ds, [])) = callT L oid [] [] ds (call g (vs.map (V.ren fun _ => none)) []) := by
  simp [callA, callC, reach, show indexIn [] = fun _ => none from rfl]
@[simp] theorem callA_refs {call : Oracle} {g : FuncId} {vs : List V} {ds rs : List Nat} {k : Nat} : callA call L oid g (some (vs, ds, k :: rs)) = callC call L oid g (reach L (k :: rs)) (listM L (reach L (k :: rs))) vs ds := rfl
@[simp] theorem callC_some {call : Oracle} {g : FuncId} {ids : List Nat} {os : List Obj} {vs : List V} {ds : List Nat} : callC call L oid g ids (some os) vs ds =
    bif ids.all (fun k => !ds.contains k) && (reach L ids).length == ids.length then callT L oid ids os ds (call g (vs.map (V.ren (indexIn ids))) (os.map (Obj.ren (indexIn ids)))) else none := rfl
@[simp] theorem callT_plain {rv : V} : callT L oid [] [] [] (some (rv, [])) = some (rv.ren fun _ => none, []) := rfl
/-- An entry of a list. -/
def nthN : List Nat → Nat → Option Nat
  | [], _ => none
  | a :: _, 0 => some a
  | _ :: l, k + 1 => nthN l k
@[simp] theorem nthN_nil {k : Nat} : nthN [] k = none := rfl
@[simp] theorem nthN_zero {a : Nat} {l : List Nat} : nthN (a :: l) 0 = some a := rfl
@[simp] theorem nthN_succ {a k : Nat} {l : List Nat} : nthN (a :: l) (k + 1) = nthN l k := rfl
theorem nthN_eq : ∀ (l : List Nat) (k : Nat), l[k]? = nthN l k
  | [], k => rfl
  | _ :: _, 0 => rfl
  | _ :: l, k + 1 => by rw [List.getElem?_cons_succ, nthN_eq l k]; rfl
theorem callT_some {ids : List Nat} {os os' : List Obj} {ds : List Nat} {rv : V} : callT L oid ids os ds (some (rv, os')) =
    bif Nat.ble ids.length os'.length && (os.zip os').all (fun x => sameKind x.1 x.2) && (newIds oid 0 (os'.length - ids.length)).all (fun k => (L k).isNone) then
      match ds with
      | [] => some (rv.ren (nthN (ids ++ newIds oid 0 (os'.length - ids.length))), updOf (ids ++ newIds oid 0 (os'.length - ids.length)) (os'.map (Obj.ren (nthN (ids ++ newIds oid 0 (os'.length - ids.length))))))
      | _ => bif flatV rv && ids.isEmpty && (newIds oid 0 (os'.length - ids.length)).isEmpty then some (rv, []) else
        (pubUpd L ds ds).map fun p => (rv.ren (nthN (ids ++ newIds oid 0 (os'.length - ids.length))), p ++ updOf (ids ++ newIds oid 0 (os'.length - ids.length)) (os'.map (Obj.ren (nthN (ids ++ newIds oid 0 (os'.length - ids.length))))))
    else none := by
  have h : ∀ l : List Nat, (fun i => l[i]?) = nthN l := fun l => funext fun k => nthN_eq l k
  simp only [← h]
  rfl
attribute [simp] callT_some

attribute [simp] reach_nil
@[simp] theorem reach_cons {k : Nat} {ks : List Nat} : reach L (k :: ks) = reachN L 40 (growRefs L (growRefs L (growRefs L (growRefs L (k :: ks))))) := rfl
@[simp] theorem reachN_40 {ks : List Nat} : reachN L 40 ks = bif (growRefs L ks).length == ks.length then ks else reachN L 39 (growRefs L ks) := rfl
/-- What an object refers to. -/
def refsK (x : Option Obj) : List Nat := match x with | some o => o.refs | none => []
@[simp] theorem refsK_some {o : Obj} : refsK (some o) = o.refs := rfl
@[simp] theorem growRefs_eq {ks : List Nat} : growRefs L ks = nubs (ks ++ ks.flatMap fun k => refsK (L k)) := by
  unfold growRefs refsK
  rfl
@[simp] theorem nubs_nil : nubs [] = [] := rfl
@[simp] theorem nubs_cons {k : Nat} {r : List Nat} : nubs (k :: r) = bif (nubs r).contains k then nubs r else k :: nubs r := by
  simp only [nubs]
  by_cases h : k ∈ nubs r <;> simp [h]
@[simp] theorem newIds_zero {i : Nat} : newIds oid i 0 = [] := rfl
@[simp] theorem newIds_succ {i n : Nat} : newIds oid i (n + 1) = (oid + i) :: newIds oid (i + 1) n := rfl
@[simp] theorem updOf_nil {os : List Obj} : updOf [] os = [] := by cases os <;> rfl
@[simp] theorem updOf_cons {k : Nat} {ks : List Nat} {o : Obj} {os : List Obj} : updOf (k :: ks) (o :: os) = (k, some o) :: updOf ks os := rfl
@[simp] theorem sameKind_box {a b : List W} : sameKind (.box a) (.box b) = (a.length == b.length) := rfl
@[simp] theorem sameKind_arr {s s' p p' : Nat} {a b : List (List W)} : sameKind (.arr s a p) (.arr s' b p') = (s == s' && Nat.ble a.length b.length) := rfl
@[simp] theorem flatV_int {k : IntKind} {n : Int} : flatV (.sc (.c (.int k n))) = true := rfl
@[simp] theorem flatV_bool {b : Bool} : flatV (.sc (.c (.bool b))) = true := rfl
@[simp] theorem flatV_str {s : List UInt8} : flatV (.sc (.c (.str s))) = true := rfl
@[simp] theorem flatV_sl {rows : List (List Cell)} : flatV (.sc (.c (.sl rows))) = false := rfl
@[simp] theorem flatV_arr {k n : Nat} : flatV (.sc (.arr k n)) = false := rfl

@[simp] theorem pubUpd_nil {all : List Nat} : pubUpd L all [] = some [] := rfl
@[simp] theorem pubUpd_cons {all : List Nat} {k : Nat} {r : List Nat} : pubUpd L all (k :: r) = arrK (L k) fun s rows _ => bindK (listM (listM (W.toC L deep)) rows) fun cs =>
    bif rows.all (fun q => q.all fun x => (W.ids L deep x).all fun j => all.contains j) then (pubUpd L all r).map ((k, some (.arr s (wr cs) rows.length)) :: ·) else none := by
  simp only [pubUpd, arrK, bindK]
  cases L k with
  | none => rfl
  | some o => cases o with
    | box _ => rfl
    | mp _ => rfl
    | arr s rows p =>
      simp only
      cases listM (listM (W.toC L deep)) rows <;> rfl
@[simp] theorem allIds_cc (rows : List (List Cell)) (p : Nat → Bool) (d : Nat) : (wr rows).all (fun q => q.all fun x => (W.ids L d x).all p) = true := by
  rw [List.all_eq_true]
  intro q hq
  obtain ⟨x, _, rfl⟩ := List.mem_map.1 hq
  rw [List.all_eq_true]
  intro y hy
  obtain ⟨z, _, rfl⟩ := List.mem_map.1 hy
  simp [ids_c]
@[simp] theorem allIds_c (row : List Cell) (p : Nat → Bool) (d : Nat) : (wc row).all (fun x => (W.ids L d x).all p) = true := by
  rw [List.all_eq_true]
  intro y hy
  obtain ⟨z, _, rfl⟩ := List.mem_map.1 hy
  simp [ids_c]
@[simp] theorem ids_arr {d k n : Nat} : W.ids L (d + 1) (.arr k n) = k :: (match L k with | some (.arr _ rows _) => rows.flatMap (·.flatMap (W.ids L d)) | _ => []) := rfl

/- how functions end -/
@[simp] theorem range_0 : List.range 0 = [] := rfl
@[simp] theorem range_1 : List.range 1 = [0] := rfl
@[simp] theorem range_2 : List.range 2 = [0, 1] := rfl
@[simp] theorem range_3 : List.range 3 = [0, 1, 2] := rfl
@[simp] theorem range_4 : List.range 4 = [0, 1, 2, 3] := rfl
/-- A frame's own objects. -/
def own64 : List Nat → List Nat
  | [] => []
  | k :: r => bif Nat.ble 64 k then k :: own64 r else own64 r
@[simp] theorem own64_nil : own64 [] = [] := rfl
@[simp] theorem own64_cons {k : Nat} {r : List Nat} : own64 (k :: r) = bif Nat.ble 64 k then k :: own64 r else own64 r := rfl
theorem own64_eq : ∀ l : List Nat, (l.filter fun k => Nat.ble 64 k) = own64 l
  | [] => rfl
  | k :: r => by
    rw [own64_cons, List.filter_cons, own64_eq r]
    cases Nat.ble 64 k <;> rfl
def finK (keep : Bool) (m : Nat) (L : Nat → Option Obj) (vs : Option (List V)) : Option (V × List Obj) := match vs with
  | none => none
  | some vs => bif vs.all notTu then
      bif keep then export1 L (List.range m ++ (reach L (vs.flatMap V.refs ++ (List.range m).flatMap fun k => refsK (L k))).filter fun k => Nat.ble 64 k) vs
      else bindK (listM (V.toR L) vs) fun ds => bif vs.all (fun v => v.cells.all fun x => (W.ids L deep x).all fun k => Nat.ble 64 k) then export1 L (List.range m) ds else none
    else none
@[simp] theorem finish_eq {keep : Bool} {m : Nat} {rs : List VRes} {s : St} : finish keep m rs s = finK keep m (look s.objs) (listM (resV s) rs) := by
  unfold finish finK bindK
  cases listM (resV s) rs with
  | none => rfl
  | some vs =>
    simp only
    cases vs.all notTu with
    | false => rfl
    | true =>
      cases keep with
      | true => rfl
      | false =>
        simp only [cond_true, cond_false]
        cases listM (V.toR (look s.objs)) vs <;> rfl
@[simp] theorem resV_tmp {s : St} {t : Nat} : resV s (.tmp t) = get? s.env t := rfl
@[simp] theorem resV_cell {s : St} {t n : Nat} {ag : Bool} : resV s (.cell t ag n) = (loadV (look s.objs) ag n ((get? s.env t).getD (.sc .un))).map (·.1) := by
  simp only [resV, x_load, val_t]
@[simp] theorem notTu_sc {w : W} : notTu (.sc w) = true := rfl
@[simp] theorem notTu_ag {cs : List W} : notTu (.ag cs) = true := rfl
@[simp] theorem packR_one {v : V} : packR [v] = v := rfl
@[simp] theorem packR_zero : packR [] = .tu [] := rfl
@[simp] theorem packR_two {v w : V} {r : List V} : packR (v :: w :: r) = .tu (v :: w :: r) := rfl
@[simp] theorem export1_eq {ks : List Nat} {vs : List V} : export1 L ks vs = (listM L ks).map fun os => (packR (vs.map (V.ren (indexIn ks))), os.map (Obj.ren (indexIn ks))) := by
  unfold export1
  cases listM L ks <;> rfl
@[simp] theorem finK_keep {m : Nat} {vs : List V} : finK true m L (some vs) = bif vs.all notTu then export1 L (List.range m ++ own64 (reach L (vs.flatMap V.refs ++ (List.range m).flatMap fun k => refsK (L k)))) vs else none := by
  rw [← own64_eq]
  rfl
@[simp] theorem finK_free {m : Nat} {vs : List V} : finK false m L (some vs) = bif vs.all notTu then bindK (listM (V.toR L) vs) fun ds => bif vs.all (fun v => v.cells.all fun x => (W.ids L deep x).all fun k => Nat.ble 64 k) then export1 L (List.range m) ds else none else none := rfl
def nthV : List V → Nat → Option V
  | [], _ => none
  | a :: _, 0 => some a
  | _ :: l, k + 1 => nthV l k
@[simp] theorem nthV_zero {a : V} {l : List V} : nthV (a :: l) 0 = some a := rfl
@[simp] theorem nthV_succ {a : V} {k : Nat} {l : List V} : nthV (a :: l) (k + 1) = nthV l k := rfl
theorem nthV_eq : ∀ (l : List V) (k : Nat), l[k]? = nthV l k
  | [], k => rfl
  | _ :: _, 0 => rfl
  | _ :: l, k + 1 => by rw [List.getElem?_cons_succ, nthV_eq l k]; rfl
/-- One of several results. -/
def extV (i : Nat) (v : V) : Option (V × Upd) := match v with
  | .tu l => (nthV l i).map fun v => (v, [])
  | _ => none
@[simp] theorem extV_tu {i : Nat} {l : List V} : extV i (.tu l) = (nthV l i).map fun v => (v, []) := rfl
@[simp] theorem x_ext {i : Nat} {x : Opd} : exec1 C E L oid (.ext i x) = extV i (x.val C E) := by
  simp only [exec1, extV]
  cases x.val C E with
  | tu l => simp only [nthV_eq]
  | _ => rfl
def tren (ρ : Nat → Option Nat) : V → V
  | .sc w => .sc (w.ren ρ deep)
  | .ag cs => .ag (cs.map (W.ren ρ deep))
  | .tu _ => .sc .un
@[simp] theorem tren_sc {ρ : Nat → Option Nat} {w : W} : tren ρ (.sc w) = .sc (w.ren ρ deep) := rfl
@[simp] theorem tren_ag {ρ : Nat → Option Nat} {cs : List W} : tren ρ (.ag cs) = .ag (cs.map (W.ren ρ deep)) := rfl
@[simp] theorem vren_tu {ρ : Nat → Option Nat} {l : List V} : (V.tu l).ren ρ = .tu (l.map (tren ρ)) := by
  have h : ∀ l : List V, l.map (fun | .sc w => .sc (w.ren ρ deep) | .ag cs => .ag (cs.map (W.ren ρ deep)) | .tu _ => .sc .un) = l.map (tren ρ) := fun l => List.map_congr_left fun x _ => by cases x <;> rfl
  exact congrArg V.tu (h l)

@[simp] theorem normR_true {r : V × List Obj} : normR true r = r := rfl
@[simp] theorem normR_false {v : V} {os : List Obj} : normR false (v, os) = (nilV v, os) := rfl
@[simp] theorem nilV_sc {w : W} : nilV (.sc w) = .sc w := rfl
@[simp] theorem nilV_ag {cs : List W} : nilV (.ag cs) = .ag (cs.map nilW) := rfl
@[simp] theorem nilV_tu {l : List V} : nilV (.tu l) = .tu (l.map nilC) := rfl
@[simp] theorem nilC_sc {w : W} : nilC (.sc w) = .sc w := rfl
@[simp] theorem nilC_ag {cs : List W} : nilC (.ag cs) = .ag (cs.map nilW) := rfl
@[simp] theorem nilW_nil : nilW .nil = .c (.sl []) := rfl
@[simp] theorem nilW_c {x : Cell} : nilW (.c x) = .c x := rfl
@[simp] theorem nilW_cs (cs : List Cell) : (wc cs).map nilW = wc cs := by
  unfold wc
  rw [List.map_map]
  exact List.map_congr_left fun x _ => rfl

attribute [simp] mkRec recO plainOp V.direct
@[simp] theorem dataIds_nil : dataIds L [] = [] := rfl
@[simp] theorem dataIds_ref {v : V} {r : List (Bool × V)} : dataIds L ((true, v) :: r) = dataIds L r := rfl
@[simp] theorem dataIds_data {v : V} {r : List (Bool × V)} : dataIds L ((false, v) :: r) = v.cells.flatMap (W.ids L deep) ++ dataIds L r := rfl
@[simp] theorem calleeOf_fn {g : FuncId} : calleeOf (.sc (.c (.fn g [] []))) = some (g, []) := rfl

/-- A state melted, piece by piece. -/
def meltE (k n : Nat) (d : Cell) : Env → Env
  | [] => []
  | (t, v) :: r => (t, meltV k n d v) :: meltE k n d r
def meltL (k n : Nat) (d : Cell) : Objs → Objs
  | [] => []
  | (j, x) :: r => (j, x.map (meltO k n d)) :: meltL k n d r
def melt2 (k s : Nat) (rows : List (List W)) (E : Env) (O : Objs) (d : Option Cell) (b : Bool) : St := match d, b with
  | some d, true => ⟨meltE k rows.length d E, meltL k rows.length d (put O k (some (.arr s rows rows.length)))⟩
  | _, _ => ⟨E, O⟩
def melt1 (k : Nat) (E : Env) (O : Objs) : Option Obj → St
  | some (.arr s rows _) => melt2 k s rows E O (W.toC (look O) deep (.arr k rows.length)) ((W.ids (look O) deep (.arr k rows.length)).all (· == k))
  | _ => ⟨E, O⟩
theorem meltE_eq {k n : Nat} {d : Cell} : ∀ E : Env, (E.map fun x => (x.1, meltV k n d x.2)) = meltE k n d E
  | [] => rfl
  | (t, v) :: r => by rw [List.map_cons, meltE_eq r]; rfl
theorem meltL_eq {k n : Nat} {d : Cell} : ∀ O : Objs, (O.map fun x => (x.1, x.2.map (meltO k n d))) = meltL k n d O
  | [] => rfl
  | (t, v) :: r => by rw [List.map_cons, meltL_eq r]; rfl
@[simp] theorem melt_eq {k : Nat} {E : Env} {O : Objs} : St.melt k ⟨E, O⟩ = melt1 k E O (look O k) := by
  unfold St.melt melt1
  dsimp only
  cases look O k with
  | none => rfl
  | some o => cases o with
    | box _ => rfl
    | mp _ => rfl
    | arr s rows p =>
      dsimp only
      unfold melt2
      cases W.toC (look O) deep (.arr k rows.length) with
      | none => cases (W.ids (look O) deep (.arr k rows.length)).all (· == k) <;> rfl
      | some d =>
        dsimp only
        rw [meltE_eq, meltL_eq]
        cases (W.ids (look O) deep (.arr k rows.length)).all (· == k) <;> rfl
@[simp] theorem melt1_arr {k s p : Nat} {E : Env} {O : Objs} {rows : List (List W)} : melt1 k E O (some (.arr s rows p)) = melt2 k s rows E O (W.toC (look O) deep (.arr k rows.length)) ((W.ids (look O) deep (.arr k rows.length)).all (· == k)) := rfl
@[simp] theorem melt1_none {k : Nat} {E : Env} {O : Objs} : melt1 k E O none = ⟨E, O⟩ := rfl
@[simp] theorem melt2_some {k s : Nat} {E : Env} {O : Objs} {rows : List (List W)} {d : Cell} : melt2 k s rows E O (some d) true = ⟨meltE k rows.length d E, meltL k rows.length d (put O k (some (.arr s rows rows.length)))⟩ := rfl
section
variable {k n : Nat} {d : Cell}
@[simp] theorem meltE_nil : meltE k n d [] = [] := rfl
@[simp] theorem meltE_cons {t : Nat} {v : V} {r : Env} : meltE k n d ((t, v) :: r) = (t, meltV k n d v) :: meltE k n d r := rfl
@[simp] theorem meltL_nil : meltL k n d [] = [] := rfl
@[simp] theorem meltL_some {t : Nat} {o : Obj} {r : Objs} : meltL k n d ((t, some o) :: r) = (t, some (meltO k n d o)) :: meltL k n d r := rfl
@[simp] theorem meltL_none {t : Nat} {r : Objs} : meltL k n d ((t, none) :: r) = (t, none) :: meltL k n d r := rfl
@[simp] theorem meltV_sc {x : W} : meltV k n d (.sc x) = .sc (meltW k n d x) := rfl
@[simp] theorem meltV_ag {cs : List W} : meltV k n d (.ag cs) = .ag (cs.map (meltW k n d)) := rfl
@[simp] theorem meltO_box {cs : List W} : meltO k n d (.box cs) = .box (cs.map (meltW k n d)) := rfl
@[simp] theorem meltO_arr {s p : Nat} {rows : List (List W)} : meltO k n d (.arr s rows p) = .arr s (rows.map (List.map (meltW k n d))) p := rfl
@[simp] theorem meltW_arr {j m : Nat} : meltW k n d (.arr j m) = bif j == k && m == n then .c d else .arr j m := rfl
@[simp] theorem meltW_c {x : Cell} : meltW k n d (.c x) = .c x := rfl
@[simp] theorem meltW_nil : meltW k n d .nil = .nil := rfl
@[simp] theorem meltW_un : meltW k n d .un = .un := rfl
@[simp] theorem meltW_sk : meltW k n d .sk = .sk := rfl
@[simp] theorem meltW_full {rows : List (List Cell)} : meltW k n d (.full rows) = .full rows := rfl
@[simp] theorem meltW_e0 {b : Bool} : meltW k n d (.e0 b) = .e0 b := rfl
@[simp] theorem meltW_vw {j m lo q : Nat} : meltW k n d (.vw j m lo q) = .vw j m lo q := rfl
@[simp] theorem meltW_ptr {j o : Nat} : meltW k n d (.ptr j o) = .ptr j o := rfl
@[simp] theorem meltW_el {j m i o : Nat} : meltW k n d (.el j m i o) = .el j m i o := rfl
@[simp] theorem meltW_clo {f : FuncId} {ones : List Bool} {caps : List (List W)} : meltW k n d (.clo f ones caps) = .clo f ones caps := rfl
@[simp] theorem wc_melt (r : List Cell) : (wc r).map (meltW k n d) = wc r := by
  unfold wc
  rw [List.map_map]
  exact List.map_congr_left fun x _ => rfl
@[simp] theorem wr_melt (rows : List (List Cell)) : (wr rows).map (List.map (meltW k n d)) = wr rows := by
  unfold wr
  rw [List.map_map]
  exact List.map_congr_left fun x _ => wc_melt x
end
@[simp] theorem wp_melt {C : Ctx} {k : Nat} {b : VCode} {Q : Ex → St → Prop} {s : St} : wp C (.melt k b) Q s = wp C b Q (s.melt k) := by
  unfold wp
  simp only [run]

end
end Go.Vs
