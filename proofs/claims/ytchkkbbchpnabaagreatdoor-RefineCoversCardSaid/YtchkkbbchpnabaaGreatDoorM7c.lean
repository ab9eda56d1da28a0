/- The value semantics, 44: functions that defer one closure; the closure is called when the body is done. -/
import Derived.Test.YtchkkbbchpnabaaGreatDoorM5c
set_option linter.unusedSimpArgs false
set_option linter.unusedVariables false
set_option linter.deprecated false

/- The value semantics, 44: functions that defer one closure; the closure is called when the body is done. -/
namespace Go.Vs
open Go

/-- A function that defers one closure: the codes ahead of the region that defers; its operations; the closure; what follows. -/
structure VDef where
  nparams : Nat
  pre : List VCode
  drop : List Nat
  ops : List VOper
  live : List Nat
  x : Opd
  post : VCode
  results : List VRes
  keep : Bool
  deriving Inhabited

/-- A function's code cut where a move to nowhere stands for the deferral. -/
def cutD : List VCode → VCode → Option (List VCode × VCode × List Nat × List VOper × List Nat × Opd)
  | pre, .seq a b => match a with
    | .region drop ops _ live => match ops.reverse with
      | ⟨none, .mv x, none, _, _⟩ :: r => some (pre.reverse, b, drop, r.reverse, live, x)
      | _ => cutD (a :: pre) b
    | _ => cutD (a :: pre) b
  | _, _ => none
def toD (v : VFun) : Option VDef := match cutD [] v.body with
  | some (pre, post, drop, ops, live, x) => some ⟨v.nparams, pre, drop, ops, live, x, post, v.results, v.keep⟩
  | none => none

def mDfr (op : Op) (x : Opd) : Bool := match op with
  | .defer { callee := .value g, args := ⟨[]⟩, argTypes := _ } => mOpd g x
  | _ => false

def mLast (P : Program) (N : Nat) (ops : Array Oper) : List Oper → List VOper → Opd → Bool
  | [d], [], x => d.dst.isNone && d.guard.isNone && mDfr d.op x
  | o :: os, v :: vs, x => mOper P N ops o v && mLast P N ops os vs x
  | _, _, _ => false

def mDef (P : Program) (N : Nat) (d : VDef) : List VCode → Code → Bool
  | va :: r, .seq a b => noB va && (dropsOf va).all (fun k => Nat.ble 64 k) && mCode P N a va && mDef P N d r b
  | [], .seq (.region _ ops false) b => d.drop.all (fun k => Nat.ble 64 k) && mLast P N ops ops.toList d.ops d.x && noB d.post && (dropsOf d.post).all (fun k => Nat.ble 64 k) && mCode P N b d.post
  | _, _ => false

def mFunD (P : Program) (f : FuncId) (d : VDef) : Bool := match P.funcs[f]? with
  | some fn => (Bool.not (fn.name == "runtime.NumGoroutine")) && (match fn.body with
    | some c => mDef P fn.ntmps d d.pre c && mRes P fn.results.toList d.results && Nat.ble d.nparams fn.ntmps
    | none => false)
  | none => false

def runPre (C : Ctx) (n : Nat) : List VCode → St → Option St
  | [], s => some s
  | c :: r, s => match run C n c s with
    | some (.normal, s') => runPre C n r s'
    | _ => none

/-- The objects that a closure leads to by pointers, if it holds nothing else but data. -/
def ptrsW : W → Option (List Nat)
  | .c _ => some []
  | .ptr k _ => some [k]
  | _ => none
def ptrsV : V → Option (List Nat)
  | .sc (.clo _ _ caps) => (listM (fun r => (listM ptrsW r).map List.flatten) caps).map List.flatten
  | .sc (.c (.fn ..)) => some []
  | _ => none

/-- A call of a function that defers a closure. -/
def evD (o0 oD : Oracle) (gl : Nat → List Cell) (n : Nat) (d : VDef) (args : List V) (objs : List Obj) : Option (V × List Obj) :=
  bif args.length == d.nparams && Nat.ble objs.length 64 then
    match runPre ⟨o0, gl⟩ n d.pre ⟨enumF 0 args, enumF 0 (objs.map some)⟩ with
    | none => none
    | some s1 => match execL ⟨o0, gl⟩ d.ops (match d.drop with | [] => s1 | _ => s1.scrub d.drop) with
      | none => none
      | some s2 =>
        let v := d.x.val ⟨o0, gl⟩ (get? s2.env)
        match ptrsV v with
        | none => none
        | some ks => bif ks.all (fun k => !(dropsOf d.post).contains k) then
          match run ⟨o0, gl⟩ n d.post (s2.live d.live) with
          | some (.exit _, _) => none
          | some (_, s3) => match call1 oD (look s3.objs) 100000 v [] with
            | some (_, u) => finish d.keep objs.length d.results ⟨s3.env, putAll s3.objs u⟩
            | none => none
          | none => none
          else none
    else none

section
variable {P : Program} {C : Ctx} {N : Nat} {w0 : World} {ω0 : Nat → Nat} {S : Fr} {E : Nat → Option V} {L : Nat → Option Obj} {a : Act} {w : World} {ω : Nat → Nat} {β : Nat → Option Nat}

/-- A deferred call of a function. -/
def CallsD (P : Program) (f : FuncId) (args : Array Value) (w : World) (R : Ending → World → Prop) : Prop :=
  CallsDIn Fence.wide 0 P f args .returning w fun e u' w' => u' = .returning ∧ R e w'

theorem CallsD.mono {f : FuncId} {args : Array Value} {w : World} {R R' : Ending → World → Prop} (h : CallsD P f args w R) (hr : ∀ e w', R e w' → R' e w') : CallsD P f args w R' :=
  CallsDIn.mono h fun _ _ _ h => ⟨h.1, hr _ _ h.2⟩

/-- The frame with other deferred calls. -/
def Fr.withFd (S : Fr) (fd : Option (List Deferred)) : Fr := { S with fd := fd }

theorem Rel.toFd {GL : Nat → List Cell} (r : Rel GL N w0 ω0 S E L a w ω β) (fd : Option (List Deferred)) (ds : List Deferred) (hd : Defs fd S.lo w ds) : Rel GL N w0 ω0 (S.withFd fd) E L { tmps := a.tmps, defers := ds } w ω β :=
  ⟨r.size, hd, r.env, r.obj, r.inj, r.keeps, r.mine, r.gl, r.inv⟩

/-- One deferred call, its callees by o0: the closure's body neither defers nor ranges over a function. -/
theorem stepD_ok {o0 : Oracle} {gl : Nat → List Cell} (hP : P.follows .mixedOrders = true) (hOr : OracleOk P ⟨o0, gl⟩) {n : Nat} {f : FuncId} {vf : VFun} (hm : mFun P f vf = true) (hnB : noB vf.body = true) (hdr : (dropsOf vf.body).all (fun k => Nat.ble 64 k) = true) {args : List V} {objs : List Obj} {rv : V} {objs' : List Obj}
    (hc : args.length = vf.nparams ∧ Nat.ble objs.length 64 = true)
    (h : (match run ⟨o0, gl⟩ n vf.body ⟨enumF 0 args, enumF 0 (objs.map some)⟩ with
        | some (.exit _, _) => none
        | some (_, s) => finish vf.keep objs.length vf.results s
        | none => none) = some (rv, objs')) : FnOkK P (CallsD P) gl f args objs rv objs' := by
  have hlen : objs.length ≤ 64 := Nat.le_of_ble_eq_true hc.2
  unfold mFun at hm
  split at hm
  · rename_i fn hfn
    simp only [Bool.and_eq_true, Bool.not_eq_true'] at hm
    obtain ⟨hname, hm⟩ := hm
    split at hm
    · rename_i c hbody
      simp only [Bool.and_eq_true] at hm
      obtain ⟨⟨m1, m2⟩, m3⟩ := hm
      refine ⟨⟨fn, hfn, by grind, hname⟩, ?_⟩
      intro w ω β cargs hgl hargs hobj hinj
      obtain ⟨al, ag⟩ := RVs_get hargs
      have al' : args.length = cargs.size := by omega
      have hnp : cargs.size ≤ fn.ntmps := by simp_all
      have r0 : Rel gl fn.ntmps w ω ((callFr objs w β).withFd (some [])) (get? (enumF 0 args)) (look (enumF 0 (objs.map some))) { tmps := cargs ++ Array.replicate (fn.ntmps - cargs.size) undef, defers := [] } w ω β := by
        rw [look_enum]
        refine ⟨by grind, rfl, ?_, hobj, hinj, Keeps.refl _ _ _, fun k b hk hb => .inl ⟨k, hk, hb⟩, hgl, fun k _ => Tr.refl k⟩
        intro t x ht
        rw [get?_enum0] at ht
        obtain ⟨v, hv1, hv2⟩ := ag t x ht
        have hlt : t < cargs.size := by
          grind
        refine ⟨by omega, ?_⟩
        have : (cargs ++ Array.replicate (fn.ntmps - cargs.size) undef).getD t undef = v := by
          rw [Array.getD_eq_getD_getElem?, Array.getElem?_append_left hlt, ← Array.getElem?_toList, hv1]
          rfl
        grind [RV_of1]
      have post : ∀ {s : St}, finish vf.keep objs.length vf.results s = some (rv, objs') → ∀ (a : Act) (w' : World) (ω' : Nat → Nat) (β' : Nat → Option Nat), Rel gl fn.ntmps w ω ((callFr objs w β).withFd (some [])) (get? s.env) (look s.objs) a w' ω' β' →
          a.defers = [] ∧ ∃ v, (results fn a.tmps).run P w' = .ok v w' ∧ ∃ vv ω2 β2, Ending.returned v = Ending.returned vv ∧ RV w' ω2 β2 (Lof objs') rv vv ∧
          (∀ k o, Lof objs' k = some o → ObjOk w' ω2 β2 (Lof objs') k o) ∧
          (∀ j k b, Lof objs' j ≠ none → Lof objs' k ≠ none → β2 j = some b → β2 k = some b → j = k) ∧
          Keeps w ω (fun b => ∃ k, Lof objs k ≠ none ∧ β k = some b) w' ω2 ∧
          (∀ k b, Lof objs' k ≠ none → β2 k = some b → (∃ j, Lof objs j ≠ none ∧ β j = some b) ∨ w.heap.size ≤ b) ∧
          (∀ k, Tr w β w' β2 (Lof objs) (Lof objs') k) := by
        intro s hs a w' ω' β' r
        have r' := r.toFd none [] trivial
        have r' : Rel gl fn.ntmps w ω (callFr objs w β) (get? s.env) (look s.objs) { tmps := a.tmps, defers := [] } w' ω' β' := ⟨r'.size, r'.defers, r'.env, r'.obj, r'.inj, r'.keeps, r'.mine, r'.gl, r'.inv⟩
        obtain ⟨v, ω2, β2, q1, q2⟩ := finish_ok (P := P) (C := ⟨o0, gl⟩) r' hlen m2 hs
        exact ⟨r.defers, v, q1, v, ω2, β2, rfl, q2⟩
      refine callsDIn_of_wp hfn hbody trivial ((wpIn_wide (n := 0)).2 ?_)
      split at h
      grind
      · rename_i ex s hne hrun
        refine run_okG (C := ⟨o0, gl⟩) hOr hP (S := (callFr objs w β).withFd (some [])) (.inl ⟨hnB, fun k hk hd => ?_⟩) m1 hrun r0 fun a w' ω' β' r => ?_
        · have h1 : k < objs.length := hk
          have := Nat.le_of_ble_eq_true (List.all_eq_true.1 hdr k hd)
          omega
        · cases ex with
          | normal => exact post h a w' ω' β' r
          | exit id => grind
          | ret => exact post h a w' ω' β' r
      grind
    grind
  grind

/-- The closure's call. -/
def evC (o0 : Oracle) (gl : Nat → List Cell) (n : Nat) (vf : VFun) (args : List V) (objs : List Obj) : Option (V × List Obj) :=
  bif args.length == vf.nparams && Nat.ble objs.length 64 then
    match run ⟨o0, gl⟩ n vf.body ⟨enumF 0 args, enumF 0 (objs.map some)⟩ with
    | some (.exit _, _) => none
    | some (_, s) => finish vf.keep objs.length vf.results s
    | none => none
  else none
theorem evC_ok {o0 : Oracle} {gl : Nat → List Cell} (hP : P.follows .mixedOrders = true) (hOr : OracleOk P ⟨o0, gl⟩) {n : Nat} {f : FuncId} {vf : VFun} (hm : mFun P f vf = true) (hnB : noB vf.body = true) (hdr : (dropsOf vf.body).all (fun k => Nat.ble 64 k) = true) {args : List V} {objs : List Obj} {rv : V} {objs' : List Obj}
    (h : evC o0 gl n vf args objs = some (rv, objs')) : FnOkK P (CallsD P) gl f args objs rv objs' := by
  unfold evC at h
  cases hc : (args.length == vf.nparams && Nat.ble objs.length 64) with
  | false => rw [hc] at h; cases h
  | true =>
    rw [hc] at h
    simp only [cond_true] at h
    simp only [Bool.and_eq_true, beq_iff_eq] at hc
    exact stepD_ok hP hOr hm hnB hdr hc h

/- ## The deferred closure keeps its meaning -/

theorem listM_consD {α γ : Type} {f : α → Option γ} {x : α} {r : List α} {l : List γ} (h : listM f (x :: r) = some l) : ∃ y l', f x = some y ∧ listM f r = some l' ∧ l = y :: l' := by
  simp only [listM] at h
  split at h
  · cases h
  · rename_i y hy
    split at h
    · cases h
    · rename_i l' hl
      simp only [Option.some.injEq] at h
      exact ⟨y, l', hy, hl, h.symm⟩

section
variable {w' : World} {ω' : Nat → Nat} {β' : Nat → Option Nat} {L' : Nat → Option Obj}

theorem RW.stepP (g : Grows w ω w' ω') {x : W} {ks : List Nat} (hp : ptrsW x = some ks) (tr : ∀ k ∈ ks, Tr w β w' β' L L' k) {v : Value} (h : RW w ω β L x v) : RW w' ω' β' L' x v := by
  cases x with
  | c y => simp only [RW] at h ⊢; exact h.grow g
  | ptr k off =>
    simp only [ptrsW, Option.some.injEq] at hp
    subst hp
    simp only [RW] at h ⊢
    obtain ⟨cells, b, h1, h2, h3⟩ := h
    have ht := tr k (by simp)
    grind [Tr]
  | _ => cases hp

theorem RWlist.stepP (g : Grows w ω w' ω') : ∀ {xs : List W} {ks : List (List Nat)} {vs : List Value}, listM ptrsW xs = some ks → (∀ k ∈ ks.flatten, Tr w β w' β' L L' k) → RWlist w ω β L xs vs → RWlist w' ω' β' L' xs vs
  | [], _, [], _, _, _ => trivial
  | [], _, _ :: _, _, _, h => h.elim
  | _ :: _, _, [], _, _, h => h.elim
  | x :: xs, ks, v :: vs, hp, tr, h => by
    obtain ⟨y, l', h1, h2, rfl⟩ := listM_consD hp
    exact ⟨h.1.stepP g h1 fun k hk => tr k (by simp [hk]), RWlist.stepP g h2 (fun k hk => tr k (by simp only [List.flatten_cons, List.mem_append]; exact .inr hk)) h.2⟩

theorem RWcaps.stepP (g : Grows w ω w' ω') : ∀ {caps : List (List W)} {ks : List (List Nat)} {ones : List Bool} {vs : List Value}, listM (fun r => (listM ptrsW r).map List.flatten) caps = some ks → (∀ k ∈ ks.flatten, Tr w β w' β' L L' k) → RWcaps w ω β L ones caps vs → RWcaps w' ω' β' L' ones caps vs
  | [], _, [], [], _, _, _ => trivial
  | [], _, [], _ :: _, _, _, h => by simp [RWcaps] at h
  | [], _, _ :: _, _, _, _, h => by simp [RWcaps] at h
  | _ :: _, _, [], _, _, _, h => by simp [RWcaps] at h
  | _ :: _, _, _ :: _, [], _, _, h => by simp [RWcaps] at h
  | r :: caps, ks, o :: ones, v :: vs, hp, tr, h => by
    obtain ⟨y, l', h1, h2, rfl⟩ := listM_consD hp
    obtain ⟨z, h3, rfl⟩ := Option.map_eq_some_iff.1 h1
    simp only [RWcaps] at h ⊢
    obtain ⟨⟨xs, h4, h5⟩, h6⟩ := h
    exact ⟨⟨xs, RWlist.stepP g h3 (fun k hk => tr k (by simp only [List.flatten_cons, List.mem_append]; exact .inl hk)) h4, h5⟩, RWcaps.stepP g h2 (fun k hk => tr k (by simp only [List.flatten_cons, List.mem_append]; exact .inr hk)) h6⟩

theorem RV.stepP (g : Grows w ω w' ω') {x : V} {ks : List Nat} (hp : ptrsV x = some ks) (tr : ∀ k ∈ ks, Tr w β w' β' L L' k) {v : Value} (h : RV w ω β L x v) : RV w' ω' β' L' x v := by
  unfold ptrsV at hp
  split at hp
  · obtain ⟨l, hl, rfl⟩ := Option.map_eq_some_iff.1 hp
    simp only [RV, RV1, RW] at h ⊢
    obtain ⟨cs, h1, h2⟩ := h
    exact ⟨cs, h1, RWcaps.stepP g hl tr h2⟩
  · simp only [RV, RV1, RW] at h ⊢
    exact RD.grow g _ h
  · cases hp

theorem ptrsV_fn {x : V} {ks : List Nat} (hp : ptrsV x = some ks) {v : Value} (h : RV w ω β L x v) : ∃ f cs, v = .func (.func f) #[] cs := by
  unfold ptrsV at hp
  split at hp
  · simp only [RV, RV1, RW] at h
    obtain ⟨cs, h1, h2⟩ := h
    exact ⟨_, cs, h1⟩
  · simp only [RV, RV1, RW, RD] at h
    obtain ⟨cs, h1, h2⟩ := h
    exact ⟨_, cs, h1⟩
  · cases hp
end

/-- The frame from the deferral on. -/
def dfrFr (m : Nat) (fd : Option (List Deferred)) (w : World) (β : Nat → Option Nat) (L : Nat → Option Obj) (ks : List Nat) : Fr where
  lo := w.heap.size
  fd := fd
  S := fun b => ∃ k, L k ≠ none ∧ β k = some b
  kept := fun k => k < m ∨ k ∈ ks
  J := fun w' β' L' => ∀ k, (k < m ∨ k ∈ ks) → Tr w β w' β' L L' k
  closed := fun _ _ _ _ _ _ h h' k hk => (h k hk).trans (h' k hk)

theorem Rel.rebaseD {GL : Nat → List Cell} (r : Rel GL N w0 ω0 S E L a w ω β) (m : Nat) (ks : List Nat) (ds : List Deferred) : Rel GL N w ω (dfrFr m (some ds) w β L ks) E L { tmps := a.tmps, defers := ds } w ω β :=
  ⟨r.size, rfl, r.env, r.obj, r.inj, Keeps.refl _ _ _, fun k b hk hb => .inl ⟨k, hk, hb⟩, r.gl, fun k _ => Tr.refl k⟩

theorem Rel.composeD {GL : Nat → List Cell} {objs : List Obj} {β0 : Nat → Option Nat} {fd0 fd : Option (List Deferred)} {ks : List Nat} (r : Rel GL N w0 ω0 ((callFr objs w0 β0).withFd fd0) E L a w ω β) {E2 : Nat → Option V} {L2 : Nat → Option Obj} {a2 : Act} {w2 : World} {ω2 : Nat → Nat} {β2 : Nat → Option Nat}
    (h : Rel GL N w ω (dfrFr objs.length fd w β L ks) E2 L2 a2 w2 ω2 β2) : Rel GL N w0 ω0 (callFr objs w0 β0) E2 L2 { tmps := a2.tmps, defers := [] } w2 ω2 β2 := by
  refine ⟨h.size, trivial, h.env, h.obj, h.inj, ?_, ?_, h.gl, fun k hk => (r.inv k hk).trans (h.inv k (.inl hk))⟩
  · refine r.keeps.step h.keeps.grows h.keeps.size (fun b hb hs => h.keeps.same b (Nat.lt_of_lt_of_le hb r.keeps.size) ?_) h.keeps.os h.keeps.tape h.keeps.output
    rintro ⟨k, hk, hbk⟩
    rcases r.mine k b hk hbk with h1 | h1
    · exact hs h1
    · omega
  · intro k b hk hb
    rcases h.mine k b hk hb with ⟨j, hj, hbj⟩ | h1
    · exact r.mine j b hj hbj
    · exact .inr (Nat.le_trans r.keeps.size h1)

/-- The region that defers, in the order of its text. -/
theorem last_ok (hC : OracleOk P C) {ops : Array Oper} {x : Opd} {Q : Exit → Act → World → Prop} {E' : Nat → Option V} {L' : Nat → Option Obj} {ks : List Nat} (hp : ptrsV (x.val C E') = some ks) : ∀ {os : List Oper} {vops : List VOper} {rs : List Rec} {E : Nat → Option V} {L : Nat → Option Obj} {a : Act} {w : World} {ω : Nat → Nat} {β : Nat → Option Nat},
    Rel C.gl N w0 ω0 S E L a w ω β → mLast P N ops os vops x = true → rs.length = vops.length → Runs C (vops.zip rs) E L E' L' →
    (∀ a w ω β f cs, Rel C.gl N w0 ω0 S E' L' a w ω β → RV w ω β L' (x.val C E') (.func (.func f) #[] cs) → Q .normal { a with defers := { target := .fn (.func f) cs, args := #[] } :: a.defers } w) → wpList P ops Q os a w
  | [], _, _, _, _, _, _, _, _, _, h, _, _, _ => by simp [mLast] at h
  | [d], [], [], E, L, a, w, ω, β, r, hm, _, h, hQ => by
    simp only [List.zip_nil_left, Runs] at h
    obtain ⟨rfl, rfl⟩ := h
    simp only [mLast, Bool.and_eq_true, Option.isNone_iff_eq_none] at hm
    obtain ⟨⟨hd, hg⟩, ho⟩ := hm
    unfold mDfr at ho
    split at ho
    · rename_i g ts hop
      have hv := mOpd_ok r ho
      obtain ⟨f, cs, hfv⟩ := ptrsV_fn hp hv
      have run : (execOp a.eval d).run P w = .ok (.defer { target := .fn (.func f) cs, args := #[] }) w := by
        simp [execOp, hop, resolve, hfv, Deferred.ofValue]
      have key : d.wp P a w (wpList P ops Q []) Q := by
        unfold Oper.wp
        rw [run, Oper.upon_defer, hd]
        rw [hfv] at hv
        exact hQ a w ω β f cs r hv
      simp only [wpList]
      split
      · exact .inl key
      · rename_i hw
        exact absurd (by simp [Region.wanted, hg]) hw
    · cases ho
  | [_], [], _ :: _, _, _, _, _, _, _, _, _, hl, _, _ => by simp at hl
  | [o], v :: vs, rs, E, L, a, w, ω, β, r, hm, hl, h, hQ => by
    simp [mLast] at hm
  | o :: o2 :: os, [], rs, E, L, a, w, ω, β, r, hm, hl, h, hQ => by simp [mLast] at hm
  | o :: o2 :: os, v :: vs, [], E, L, a, w, ω, β, r, hm, hl, h, hQ => by simp at hl
  | o :: o2 :: os, v :: vs, y :: rs, E, L, a, w, ω, β, r, hm, hl, h, hQ => by
    simp only [mLast, Bool.and_eq_true] at hm
    obtain ⟨z, u, h1, _, h3⟩ := h
    exact oper_ok hC r hm.1 h1 fun a' w' ω' β' r' => last_ok hC hp r' hm.2 (by grind) h3 hQ

theorem runPre_ok (hC : OracleOk P C) (hP : P.follows .mixedOrders = true) {n : Nat} {d : VDef} (hS : ∀ k, S.kept k → k < 64) {Q : Exit → Act → World → Prop} : ∀ {pre : List VCode} {c : Code} {s s1 : St} {a : Act} {w : World} {ω : Nat → Nat} {β : Nat → Option Nat}, mDef P N d pre c = true → runPre C n pre s = some s1 →
    Rel C.gl N w0 ω0 S (get? s.env) (look s.objs) a w ω β → (∀ c a w ω β, mDef P N d [] c = true → Rel C.gl N w0 ω0 S (get? s1.env) (look s1.objs) a w ω β → c.wp P Q a w) → c.wp P Q a w
  | [], c, s, s1, a, w, ω, β, hm, h, r, hQ => by
    simp only [runPre, Option.some.injEq] at h
    subst h
    exact hQ c a w ω β hm r
  | va :: pre, c, s, s1, a, w, ω, β, hm, h, r, hQ => by
    cases c <;> simp only [mDef, Bool.false_eq_true, Bool.and_eq_true] at hm
    obtain ⟨⟨⟨h1, h2⟩, h3⟩, h4⟩ := hm
    simp only [runPre] at h
    split at h
    · rename_i s' hr
      refine Go.wp_seq (run_okG hC hP (.inl ⟨h1, fun k hk hd => ?_⟩) h3 hr r fun a w ω β r' => ?_)
      · have := hS k hk
        have := Nat.le_of_ble_eq_true (List.all_eq_true.1 h2 k hd)
        omega
      · exact runPre_ok hC hP hS h4 h r' hQ
    · cases h

theorem evD_ok {o0 oD : Oracle} {gl : Nat → List Cell} (hP : P.follows .mixedOrders = true) (hOr : OracleOk P ⟨o0, gl⟩) (hOD : ∀ f args objs rv objs', oD f args objs = some (rv, objs') → FnOkK P (CallsD P) gl f args objs rv objs') {n : Nat} {f : FuncId} {d : VDef} (hm : mFunD P f d = true) {args : List V} {objs : List Obj} {rv : V} {objs' : List Obj}
    (h : evD o0 oD gl n d args objs = some (rv, objs')) : FnOk P gl f args objs rv objs' := by
  unfold evD at h
  cases hc : (args.length == d.nparams && Nat.ble objs.length 64) with
  | false => rw [hc] at h; cases h
  | true =>
    rw [hc] at h
    simp only [cond_true] at h
    simp only [Bool.and_eq_true, beq_iff_eq] at hc
    have hlen : objs.length ≤ 64 := Nat.le_of_ble_eq_true hc.2
    unfold mFunD at hm
    split at hm
    · rename_i fn hfn
      simp only [Bool.and_eq_true, Bool.not_eq_true'] at hm
      obtain ⟨hname, hm⟩ := hm
      split at hm
      · rename_i c hbody
        simp only [Bool.and_eq_true] at hm
        obtain ⟨⟨m1, m2⟩, m3⟩ := hm
        refine ⟨⟨fn, hfn, by grind, hname⟩, ?_⟩
        intro w ω β cargs hgl hargs hobj hinj
        obtain ⟨al, ag⟩ := RVs_get hargs
        have al' : args.length = cargs.size := by omega
        have hnp : cargs.size ≤ fn.ntmps := by
          have := Nat.le_of_ble_eq_true m3
          omega
        have r0 : Rel gl fn.ntmps w ω ((callFr objs w β).withFd (some [])) (get? (enumF 0 args)) (look (enumF 0 (objs.map some))) { tmps := cargs ++ Array.replicate (fn.ntmps - cargs.size) undef, defers := [] } w ω β := by
          rw [look_enum]
          refine ⟨by grind, rfl, ?_, hobj, hinj, Keeps.refl _ _ _, fun k b hk hb => .inl ⟨k, hk, hb⟩, hgl, fun k _ => Tr.refl k⟩
          intro t x ht
          rw [get?_enum0] at ht
          obtain ⟨v, hv1, hv2⟩ := ag t x ht
          have hlt : t < cargs.size := by
            grind
          refine ⟨by omega, ?_⟩
          have : (cargs ++ Array.replicate (fn.ntmps - cargs.size) undef).getD t undef = v := by
            rw [Array.getD_eq_getD_getElem?, Array.getElem?_append_left hlt, ← Array.getElem?_toList, hv1]
            rfl
          grind [RV_of1]
        split at h
        · cases h
        · rename_i s1 hs1
          split at h
          · cases h
          · rename_i s2 hs2
            split at h
            · cases h
            · rename_i ks hks
              cases hkd : ks.all (fun k => !(dropsOf d.post).contains k) with
              | false => rw [hkd] at h; cases h
              | true =>
                rw [hkd] at h
                simp only [cond_true] at h
                have h64 : ∀ k, ((callFr objs w β).withFd (some [])).kept k → k < 64 := fun k hk => Nat.lt_of_lt_of_le hk hlen
                refine (callsIn_wide (n := 0)).1 (callsIn_of_wp_marks hfn hbody trivial ((wpIn_wide (n := 0)).2 ?_))
                refine runPre_ok (C := ⟨o0, gl⟩) hOr hP h64 m1 hs1 r0 fun c a1 w1 ω1 β1 hmd r1 => ?_
                cases c <;> try (simp only [mDef, Bool.false_eq_true] at hmd; done)
                rename_i c1 c2
                cases c1 <;> try (simp only [mDef, Bool.false_eq_true] at hmd; done)
                rename_i id ops draw
                cases draw <;> simp only [mDef, Bool.false_eq_true, Bool.and_eq_true] at hmd
                obtain ⟨⟨⟨⟨d1, d2⟩, d3⟩, d4⟩, d5⟩ := hmd
                have r1' : Rel gl fn.ntmps w ω ((callFr objs w β).withFd (some [])) (get? (match d.drop with | [] => s1 | _ => s1.scrub d.drop).env) (look (match d.drop with | [] => s1 | _ => s1.scrub d.drop).objs) a1 w1 ω1 β1 := by
                  split
                  · exact r1
                  · refine r1.scrubSt (C := ⟨o0, gl⟩) fun k hk hkept => ?_
                    have := Nat.le_of_ble_eq_true (List.all_eq_true.1 d1 k hk)
                    have := h64 k hkept
                    omega
                obtain ⟨rs, e1⟩ := execL_execR hs2
                obtain ⟨e2, e3⟩ := execR_runs e1
                refine Go.wp_seq (wp_region_list (last_ok (C := ⟨o0, gl⟩) hOr hks r1' d2 e2 e3 fun a2 w2 ω2 β2 g cs r2 hv2 => ?_))
                have hdef : a2.defers = [] := r2.defers
                have r3 := ((r2.rebaseD objs.length ks [{ target := .fn (.func g) cs, args := #[] }]).liveSt (C := ⟨o0, gl⟩) (s := s2) d.live)
                have fin : ∀ {s3 : St} {v : V} {u : Upd}, call1 oD (look s3.objs) 100000 (d.x.val ⟨o0, gl⟩ (get? s2.env)) [] = some (v, u) → finish d.keep objs.length d.results ⟨s3.env, putAll s3.objs u⟩ = some (rv, objs') →
                    ∀ (a3 : Act) (w3 : World) (ω3 : Nat → Nat) (β3 : Nat → Option Nat), Rel gl fn.ntmps w2 ω2 (dfrFr objs.length (some [{ target := .fn (.func g) cs, args := #[] }]) w2 β2 (look s2.objs) ks) (get? s3.env) (look s3.objs) a3 w3 ω3 β3 →
                    LeavesInM Fence.wide 0 P fn a3.tmps (fun e w' => ∃ vv ω2 β2, e = Ending.returned vv ∧ RV w' ω2 β2 (Lof objs') rv vv ∧
                    (∀ k o, Lof objs' k = some o → ObjOk w' ω2 β2 (Lof objs') k o) ∧
                    (∀ j k b, Lof objs' j ≠ none → Lof objs' k ≠ none → β2 j = some b → β2 k = some b → j = k) ∧
                    Keeps w ω (fun b => ∃ k, Lof objs k ≠ none ∧ β k = some b) w' ω2 ∧
                    (∀ k b, Lof objs' k ≠ none → β2 k = some b → (∃ j, Lof objs j ≠ none ∧ β j = some b) ∨ w.heap.size ≤ b) ∧
                    (∀ k, Tr w β w' β2 (Lof objs) (Lof objs') k)) a3.defers .returning w3 := by
                  intro s3 v u hcall hfin a3 w3 ω3 β3 r3
                  have hd3 : a3.defers = [{ target := .fn (.func g) cs, args := #[] }] := r3.defers
                  have hv3 := hv2.stepP r3.keeps.grows hks fun k hk => r3.inv k (.inr hk)
                  obtain ⟨g', caps, hfv, ⟨fg, q1, q2, q3⟩, hcalls⟩ := call1_okK (K := CallsD P) (C := ⟨oD, gl⟩) (fun h hr => h.mono hr) hOD r3 hv3 (args := []) (cvs := []) trivial hcall
                  cases hfv
                  rw [hd3]
                  obtain ⟨bd, hbd⟩ := Option.isSome_iff_exists.1 q2
                  have q3' : fg.name ≠ "runtime.NumGoroutine" := by grind
                  refine ⟨by simp, .inr ⟨fun h => by simp [Fence.wide] at h, .func g, cs, g, #[] ++ cs, rfl, ?_, fun _ _ => trivial, ?_⟩⟩
                  · simp [invoke, callFunc, q1, q3', hbd]
                  · refine CallsDIn.mono hcalls ?_
                    rintro e u' w' ⟨rfl, vv, ω', β', rfl, r4, _⟩
                    have r5 := r2.composeD r4
                    rw [← look_putAll] at r5
                    obtain ⟨v', ω5, β5, z1, z2⟩ := finish_ok (P := P) (C := ⟨o0, gl⟩) (s := ⟨s3.env, putAll s3.objs u⟩) (vf := ⟨0, .skip, d.results, d.keep⟩) r5 hlen m2 hfin
                    exact ⟨v', z1, v', ω5, β5, rfl, z2⟩
                split at h
                · cases h
                · rename_i ex s3 hne hrun
                  split at h
                  · rename_i v u hcall
                    rw [hdef]
                    refine run_okG (C := ⟨o0, gl⟩) hOr hP (.inl ⟨d3, fun k hk hd => ?_⟩) d5 hrun r3 fun a3 w3 ω3 β3 r3 => ?_
                    · rcases hk with hk | hk
                      · have := Nat.le_of_ble_eq_true (List.all_eq_true.1 d4 k hd)
                        omega
                      · have := List.all_eq_true.1 hkd k hk
                        simp_all
                    · cases ex with
                      | normal => exact fin hcall h a3 w3 ω3 β3 r3
                      | exit id => grind
                      | ret => exact fin hcall h a3 w3 ω3 β3 r3
                  · cases h
                · cases h
      · cases hm
    · cases hm

end
end Go.Vs
