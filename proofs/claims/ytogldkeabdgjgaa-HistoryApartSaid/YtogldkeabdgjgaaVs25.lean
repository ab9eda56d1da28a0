/- The value semantics, 25: forgetting objects and variables; code and its soundness. -/
import Derived.Test.YtogldkeabdgjgaaVs24
namespace Go.Vs
open Go

def dropR (ks : List Nat) : Nat → Option Nat := fun k => bif ks.contains k then none else some k

/-- These objects are forgotten, and all that refers to them. -/
def St.scrub (ks : List Nat) (s : St) : St :=
  bif s.objs.any (fun x => x.2.isSome && ks.contains x.1) then
    ⟨s.env.map fun x => (x.1, x.2.ren (dropR ks)), (s.objs.filter fun x => !ks.contains x.1).map fun x => (x.1, x.2.map (Obj.ren (dropR ks)))⟩
  else s

def St.live (ts : List Nat) (s : St) : St := match ts with
  | [] => s
  | _ => ⟨s.env.filter fun x => ts.contains x.1, s.objs⟩

/-- Round after round, until one ends otherwise than by its end. -/
def iter (f : St → Option (Ex × St)) : Nat → St → Option (Ex × St)
  | 0, _ => none
  | n + 1, s => match f s with
    | some (.normal, s') => iter f n s'
    | r => r

def run (C : Ctx) (n : Nat) : VCode → St → Option (Ex × St)
  | .skip, s => some (.normal, s)
  | .region drop ops chk live, s => match runOps C ops chk (match drop with | [] => s | _ => s.scrub drop) with
    | some s' => some (.normal, s'.live live)
    | none => none
  | .seq a b, s => match run C n a s with
    | some (.normal, s') => run C n b s'
    | r => r
  | .cond c x y, s => match c.val C (get? s.env) with
    | .sc (.c (.bool t)) => bif t then run C n x s else run C n y s
    | _ => none
  | .block id b, s => match run C n b s with
    | some (.exit id', s') => bif id' == id then some (.normal, s') else some (.exit id', s')
    | r => r
  | .loop b, s => iter (run C n b) n s
  | .exit id, s => some (.exit id, s)
  | .ret, s => some (.ret, s)

def Ex.out : Ex → Exit
  | .normal => .normal
  | .exit id => .exit id
  | .ret => .ret

def mCode (P : Program) (N : Nat) : Code → VCode → Bool
  | .skip, .skip => true
  | .label _, .skip => true
  | .region _ ops draw, .region drop vops chk _ => mRegion P N ops vops chk draw && drop.all (fun k => Nat.ble 64 k)
  | .seq a b, .seq a' b' => mCode P N a a' && mCode P N b b'
  | .cond c x y, .cond c' x' y' => mOpd c c' && mCode P N x x' && mCode P N y y'
  | .block id b, .block id' b' => id == id' && mCode P N b b'
  | .loop b, .loop b' => mCode P N b b'
  | .exit id, .exit id' => id == id'
  | .ret, .ret => true
  | _, _ => false

section
variable {P : Program} {C : Ctx} {N : Nat} {w0 : World} {ω0 : Nat → Nat} {S : Fr} {E : Nat → Option V} {L : Nat → Option Obj} {a : Act} {w : World} {ω : Nat → Nat} {β : Nat → Option Nat}

theorem get?_map {α γ : Type} (f : α → γ) : ∀ (l : List (Nat × α)) (k : Nat), get? (l.map fun x => (x.1, f x.2)) k = (get? l k).map f
  | [], _ => rfl
  | (j, x) :: r, k => by
    simp only [List.map_cons, get?]
    cases (j == k) with
    | true => rfl
    | false => exact get?_map f r k

theorem get?_filter {α : Type} (p : Nat → Bool) : ∀ (l : List (Nat × α)) (k : Nat), get? (l.filter fun x => p x.1) k = bif p k then get? l k else none
  | [], k => by cases p k <;> rfl
  | (j, x) :: r, k => by
    have ih := get?_filter p r k
    rw [List.filter_cons]
    cases hp : p j with
    | true =>
      simp only [if_true, get?]
      cases hj : (j == k) with
      | true =>
        have : j = k := by simpa using hj
        subst this
        simp [hp]
      | false => exact ih
    | false =>
      simp only [Bool.false_eq_true, if_false, get?]
      cases hj : (j == k) with
      | true =>
        have : j = k := by simpa using hj
        subst this
        rw [ih, hp]; rfl
      | false => exact ih

theorem look_scrub (ks : List Nat) (l : Objs) (k : Nat) : look ((l.filter fun x => !ks.contains x.1).map fun x => (x.1, x.2.map (Obj.ren (dropR ks)))) k = bif ks.contains k then none else (look l k).map (Obj.ren (dropR ks)) := by
  unfold look
  rw [get?_map (fun x : Option Obj => x.map (Obj.ren (dropR ks))), get?_filter (fun j => !ks.contains j)]
  cases hk : ks.contains k with
  | true => rfl
  | false =>
    simp only [Bool.not_false, cond_true, cond_false]
    cases get? l k with
    | none => rfl
    | some x => cases x <;> rfl

/-- Forgetting objects of the frame's own. -/
theorem Rel.scrub (r : Rel C.gl N w0 ω0 S E L a w ω β) {ks : List Nat} (hk : ∀ k ∈ ks, ¬ S.kept k) :
    Rel C.gl N w0 ω0 S (fun t => (E t).map (V.ren (dropR ks))) (fun k => bif ks.contains k then none else (L k).map (Obj.ren (dropR ks))) a w ω β := by
  have hren : Ren (dropR ks) β L β (fun k => bif ks.contains k then none else (L k).map (Obj.ren (dropR ks))) := by
    intro k j o h1 h2
    unfold dropR at h1
    cases hc : ks.contains k with
    | true => rw [hc] at h1; cases h1
    | false =>
      rw [hc] at h1
      cases h1
      exact ⟨by simp only [hc, h2, cond_false, Option.map_some], rfl⟩
  have back : ∀ {k : Nat}, (bif ks.contains k then none else (L k).map (Obj.ren (dropR ks))) ≠ none → L k ≠ none := by
    intro k h e
    rw [e] at h
    cases hc : ks.contains k <;> rw [hc] at h <;> exact h rfl
  refine ⟨r.size, r.defers, ?_, ?_, ?_, r.keeps, ?_, r.gl, ?_⟩
  · intro t v ht
    obtain ⟨v0, h1, rfl⟩ := Option.map_eq_some_iff.1 ht
    exact ⟨(r.env t v0 h1).1, (r.env t v0 h1).2.rename hren⟩
  · intro k o ho
    cases hc : ks.contains k with
    | true => simp only [hc, cond_true] at ho; cases ho
    | false =>
      simp only [hc, cond_false] at ho
      obtain ⟨o0, h1, rfl⟩ := Option.map_eq_some_iff.1 ho
      exact (r.obj k o0 h1).rename hren rfl
  · exact fun j k b hj hk' => r.inj j k b (back hj) (back hk')
  · exact fun k b hk' => r.mine k b (back hk')
  · refine S.closed _ _ _ _ _ _ r.inv fun k hkept => ?_
    have hc : ks.contains k = false := by
      cases hc : ks.contains k with
      | false => rfl
      | true => exact absurd hkept (hk k (by simpa using hc))
    unfold Tr
    cases hL : L k with
    | none => trivial
    | some o => cases o with
      | box cs => exact ⟨⟨_, by simp only [hc, hL, cond_false, Option.map_some, Obj.ren]; rfl, by simp⟩, rfl⟩
      | arr s rows p => exact ⟨_, p, by simp only [hc, hL, cond_false, Option.map_some, Obj.ren]; rfl, by simp, fun _ => ⟨rfl, fun b cur t _ hcur => ⟨cur, hcur, rfl⟩⟩⟩

theorem Rel.scrubSt {s : St} (r : Rel C.gl N w0 ω0 S (get? s.env) (look s.objs) a w ω β) {ks : List Nat} (hk : ∀ k ∈ ks, ¬ S.kept k) :
    Rel C.gl N w0 ω0 S (get? (s.scrub ks).env) (look (s.scrub ks).objs) a w ω β := by
  unfold St.scrub
  cases s.objs.any (fun x => x.2.isSome && ks.contains x.1) with
  | false => exact r
  | true =>
    have h := r.scrub hk
    simp only [cond_true]
    rw [show get? (s.env.map fun x => (x.1, x.2.ren (dropR ks))) = fun t => (get? s.env t).map (V.ren (dropR ks)) from funext fun t => get?_map _ _ t]
    rw [show look ((s.objs.filter fun x => !ks.contains x.1).map fun x => (x.1, x.2.map (Obj.ren (dropR ks)))) = _ from funext fun k => look_scrub ks s.objs k]
    exact h

theorem Rel.liveSt {s : St} (r : Rel C.gl N w0 ω0 S (get? s.env) (look s.objs) a w ω β) (ts : List Nat) :
    Rel C.gl N w0 ω0 S (get? (s.live ts).env) (look (s.live ts).objs) a w ω β := by
  unfold St.live
  split
  · exact r
  · rename_i ts' _
    refine r.fewer fun t v ht => ?_
    simp only at ht
    rw [get?_filter (fun t => ts.contains t)] at ht
    cases hc : ts.contains t <;> rw [hc] at ht
    · cases ht
    · exact ht

theorem Runs.plain : ∀ {vops : List VOper} {rs : List Rec} {E E' : Nat → Option V} {L L' : Nat → Option Obj}, Runs C (vops.zip rs) E L E' L' → ∀ (i : Nat) (x : VOper) (y : Rec), vops[i]? = some x → rs[i]? = some y → isPlain x = true → y.touch = false
  | [], _, _, _, _, _, _, _, _, _, h, _, _ => by simp at h
  | _ :: _, [], _, _, _, _, _, _, _, _, _, h, _ => by simp at h
  | o :: os, z :: rs, E, E', L, L', h, i, x, y, hx, hy, hp => by
    obtain ⟨v, u, h1, h2, h3⟩ := h
    cases i with
    | zero =>
      simp only [List.getElem?_cons_zero, Option.some.injEq] at hx hy
      subst hx hy
      simp only at h2
      rw [h2]
      exact plain_rec hp h1
    | succ i => exact Runs.plain h3 i x y (by simpa using hx) (by simpa using hy) hp

theorem range_zip : ∀ {vops : List VOper} {rs : List Rec}, rs.length = vops.length → (List.range vops.length).map (fun i => ((vops[i]?).getD default, (rs[i]?).getD default)) = vops.zip rs := by
  intro vops rs h
  apply List.ext_getElem
  · simp [h]
  · intro i h1 h2
    have hv : i < vops.length := by simpa using h1
    have hr : i < rs.length := by omega
    simp [hv, hr]

theorem runOps_ok (hC : OracleOk P C) (hP : P.follows .mixedOrders = true) {ops : Array Oper} {draw : Bool} {vops : List VOper} {chk : List (Nat × Nat)} (hm : mRegion P N ops vops chk draw = true) {s s' : St} (h : runOps C vops chk s = some s')
    (r : Rel C.gl N w0 ω0 S (get? s.env) (look s.objs) a w ω β) {Q : Exit → Act → World → Prop} (hQ : ∀ a w ω β, Rel C.gl N w0 ω0 S (get? s'.env) (look s'.objs) a w ω β → Q .normal a w) {id : Nat} : (Code.region id ops draw).wp P Q a w := by
  obtain ⟨rs, h1, h2⟩ : ∃ rs, execR C vops s = some (rs, s') ∧ chkOk rs chk = true := by
    unfold runOps at h
    split at h
    · obtain ⟨rs, h1⟩ := execL_execR h
      exact ⟨rs, h1, rfl⟩
    · split at h
      · cases h
      · rename_i rs s2 hr
        cases hc : chkOk rs chk with
        | false => rw [hc] at h; cases h
        | true => rw [hc] at h; cases h; exact ⟨rs, hr, hc⟩
  obtain ⟨h3, h4⟩ := execR_runs h1
  unfold mRegion at hm
  simp only [Bool.and_eq_true, Bool.or_eq_true] at hm
  cases draw with
  | false => exact wp_region_list (list_ok hC r hm.1 h3 h4 hQ)
  | true =>
    have hord : mOrders ops vops chk = true := by simpa using hm.2
    have hlen := (mAllO_get hm.1).1
    rw [Array.length_toList] at hlen
    have hrem : remOf ops.size (Array.replicate ops.size false) = List.range ops.size := by
      refine List.filter_eq_self.2 fun i hi => ?_
      simp [List.mem_range.1 hi]
    refine wp_region_any hP (any_ok hC hm.1 hord h3 h2 h4.plain hQ ops.size (by simp) ?_ ?_ (r.heapEq rfl rfl rfl rfl) ?_)
    · intro j o hj hl
      have : j < ops.size := by simpa using (List.getElem?_eq_some_iff.1 hj).1
      simp [this] at hl
    · rw [hrem]; simp
    · rw [hrem, hlen, range_zip h3]
      exact h4

/-- Code does what its evaluator says. -/
theorem run_ok (hC : OracleOk P C) (hP : P.follows .mixedOrders = true) (hS : ∀ k, S.kept k → k < 64) {n : Nat} : ∀ {c : Code} {vc : VCode}, mCode P N c vc = true → ∀ {s s' : St} {ex : Ex}, run C n vc s = some (ex, s') →
    ∀ {a : Act} {w : World} {ω : Nat → Nat} {β : Nat → Option Nat}, Rel C.gl N w0 ω0 S (get? s.env) (look s.objs) a w ω β → ∀ {Q : Exit → Act → World → Prop}, (∀ a w ω β, Rel C.gl N w0 ω0 S (get? s'.env) (look s'.objs) a w ω β → Q ex.out a w) → c.wp P Q a w := by
  intro c vc
  induction vc generalizing c with
  | skip =>
    intro hm s s' ex h a w ω β r Q hQ
    simp only [run, Option.some.injEq, Prod.mk.injEq] at h
    obtain ⟨rfl, rfl⟩ := h
    cases c <;> simp only [mCode, Bool.false_eq_true] at hm
    · exact wp_skip (hQ a w ω β r)
    · exact wp_label (hQ a w ω β r)
  | region drop vops chk live =>
    intro hm s s' ex h a w ω β r Q hQ
    cases c <;> simp only [mCode, Bool.false_eq_true] at hm
    simp only [Bool.and_eq_true] at hm
    simp only [run] at h
    split at h
    · rename_i s2 hs2
      simp only [Option.some.injEq, Prod.mk.injEq] at h
      obtain ⟨rfl, rfl⟩ := h
      refine runOps_ok (ω := ω) (β := β) hC hP hm.1 hs2 ?_ fun a w ω β r' => hQ a w ω β (r'.liveSt live)
      split
      · exact r
      · exact r.scrubSt fun k hk hkept => by
          have := Nat.le_of_ble_eq_true (List.all_eq_true.1 hm.2 k hk)
          have := hS k hkept
          omega
    · cases h
  | seq x y ihx ihy =>
    intro hm s s' ex h a w ω β r Q hQ
    cases c <;> simp only [mCode, Bool.false_eq_true] at hm
    simp only [Bool.and_eq_true] at hm
    simp only [run] at h
    cases hx : run C n x s with
    | none => rw [hx] at h; cases h
    | some q =>
      obtain ⟨e1, s1⟩ := q
      rw [hx] at h
      refine wp_seq (ihx hm.1 hx r fun a1 w1 ω1 β1 r1 => ?_)
      cases e1 with
      | normal => exact ihy hm.2 h r1 hQ
      | exit id =>
        simp only [Option.some.injEq, Prod.mk.injEq] at h
        obtain ⟨rfl, rfl⟩ := h
        exact hQ a1 w1 ω1 β1 r1
      | ret =>
        simp only [Option.some.injEq, Prod.mk.injEq] at h
        obtain ⟨rfl, rfl⟩ := h
        exact hQ a1 w1 ω1 β1 r1
  | cond cc x y ihx ihy =>
    intro hm s s' ex h a w ω β r Q hQ
    cases c <;> simp only [mCode, Bool.false_eq_true] at hm
    simp only [Bool.and_eq_true] at hm
    simp only [run] at h
    have hv := mOpd_ok r hm.1.1
    split at h
    · rename_i t ht
      rw [ht] at hv
      simp only [RV, RV1, RW, RD] at hv
      refine wp_cond hv ?_
      cases t with
      | true => exact ihx hm.1.2 h r hQ
      | false => exact ihy hm.2 h r hQ
    · cases h
  | block id x ih =>
    intro hm s s' ex h a w ω β r Q hQ
    cases c <;> simp only [mCode, Bool.false_eq_true] at hm
    simp only [Bool.and_eq_true, beq_iff_eq] at hm
    obtain ⟨rfl, hm⟩ := hm
    simp only [run] at h
    cases hx : run C n x s with
    | none => rw [hx] at h; cases h
    | some q =>
      obtain ⟨e1, s1⟩ := q
      rw [hx] at h
      refine wp_block (ih hm hx r fun a1 w1 ω1 β1 r1 => ?_)
      cases e1 with
      | normal =>
        simp only [Option.some.injEq, Prod.mk.injEq] at h
        obtain ⟨rfl, rfl⟩ := h
        exact hQ a1 w1 ω1 β1 r1
      | exit id' =>
        simp only [Ex.out, Exit.inBlock]
        simp only at h
        cases hid : (id' == _) with
        | true =>
          rw [hid] at h
          simp only [cond_true, Option.some.injEq, Prod.mk.injEq] at h
          obtain ⟨rfl, rfl⟩ := h
          rw [if_pos (by simpa using hid)]
          exact hQ a1 w1 ω1 β1 r1
        | false =>
          rw [hid] at h
          simp only [cond_false, Option.some.injEq, Prod.mk.injEq] at h
          obtain ⟨rfl, rfl⟩ := h
          rw [if_neg (by simpa using hid)]
          exact hQ a1 w1 ω1 β1 r1
      | ret =>
        simp only [Option.some.injEq, Prod.mk.injEq] at h
        obtain ⟨rfl, rfl⟩ := h
        exact hQ a1 w1 ω1 β1 r1
  | loop x ih =>
    intro hm s s' ex h a w ω β r Q hQ
    cases c <;> simp only [mCode, Bool.false_eq_true] at hm
    rename_i body
    simp only [run] at h
    -- rounds
    have key : ∀ (m : Nat) {s : St} {a : Act} {w : World} {ω : Nat → Nat} {β : Nat → Option Nat}, iter (run C n x) m s = some (ex, s') → Rel C.gl N w0 ω0 S (get? s.env) (look s.objs) a w ω β →
        ∀ (b : Frame) (k : List Item) (cs : List Frame), ∃ e a' w', Q e a' w' ∧ Arrives P (lone (b.at a (.code body :: .inLoop body :: k)) cs w) b k cs e a' w' := by
      intro m
      induction m with
      | zero => intro s a w ω β h _; simp [iter] at h
      | succ m ihm =>
        intro s a w ω β h r b k cs
        simp only [iter] at h
        cases hx : run C n x s with
        | none => rw [hx] at h; cases h
        | some q =>
          obtain ⟨e1, s1⟩ := q
          rw [hx] at h
          have hwp := ih hm hx r (Q := fun e a1 w1 => e = e1.out ∧ ∃ ω1 β1, Rel C.gl N w0 ω0 S (get? s1.env) (look s1.objs) a1 w1 ω1 β1) fun a1 w1 ω1 β1 r1 => ⟨rfl, ω1, β1, r1⟩
          obtain ⟨e, a1, w1, ⟨rfl, ω1, β1, r1⟩, harr⟩ := hwp b (.inLoop body :: k) cs
          cases e1 with
          | normal =>
            obtain ⟨e2, a2, w2, hq2, harr2⟩ := ihm h r1 b k cs
            exact ⟨e2, a2, w2, hq2, .of_steps (Steps.trans harr (.one step_inLoop)) harr2⟩
          | exit id =>
            simp only [Option.some.injEq, Prod.mk.injEq] at h
            obtain ⟨rfl, rfl⟩ := h
            exact ⟨_, a1, w1, hQ a1 w1 ω1 β1 r1, .pass (x := .inLoop body) rfl (fun _ _ => .inl (by simp [Ex.out])) harr⟩
          | ret =>
            simp only [Option.some.injEq, Prod.mk.injEq] at h
            obtain ⟨rfl, rfl⟩ := h
            exact ⟨_, a1, w1, hQ a1 w1 ω1 β1 r1, .pass (x := .inLoop body) rfl (fun _ _ => .inl (by simp [Ex.out])) harr⟩
    intro b k cs
    obtain ⟨e, a', w', hq, harr⟩ := key n h r b k cs
    exact ⟨e, a', w', hq, .of_steps (.one step_loop) harr⟩
  | exit id =>
    intro hm s s' ex h a w ω β r Q hQ
    cases c <;> simp only [mCode, Bool.false_eq_true] at hm
    simp only [beq_iff_eq] at hm
    subst hm
    simp only [run, Option.some.injEq, Prod.mk.injEq] at h
    obtain ⟨rfl, rfl⟩ := h
    exact wp_exit (hQ a w ω β r)
  | ret =>
    intro hm s s' ex h a w ω β r Q hQ
    cases c <;> simp only [mCode, Bool.false_eq_true] at hm
    simp only [run, Option.some.injEq, Prod.mk.injEq] at h
    obtain ⟨rfl, rfl⟩ := h
    exact wp_ret (hQ a w ω β r)

end
end Go.Vs
