/- The value semantics, 25: forgetting objects and variables; code and its soundness. -/
import Derived.Test.YtchkkbbchpnabaaGreatDoorM3c
import Derived.ProofKit
import Derived.IntWalk
set_option linter.unusedSimpArgs false
set_option linter.unusedVariables false
set_option linter.deprecated false

/- The value semantics, 25: forgetting objects and variables; code and its soundness. -/
namespace Go.Vs
open Go Go.RowKit

def dropR (ks : List Nat) : Nat → Option Nat := fun k => bif ks.contains k then none else some k

/-- These objects are forgotten, and all that refers to them. -/
def St.scrub (ks : List Nat) (s : St) : St :=
  bif s.objs.any (fun x => x.2.isSome && ks.contains x.1) then
    ⟨s.env.map fun x => (x.1, x.2.ren (dropR ks)), (s.objs.filter fun x => !ks.contains x.1).map fun x => (x.1, x.2.map (Obj.ren (dropR ks)))⟩
  else s

/-- A cell that stands for the whole array k becomes data. -/
def meltW (k n : Nat) (d : Cell) : W → W
  | .arr j m => bif j == k && m == n then .c d else .arr j m
  | x => x
def meltV (k n : Nat) (d : Cell) : V → V
  | .sc x => .sc (meltW k n d x)
  | .ag cs => .ag (cs.map (meltW k n d))
  | .tu l => .tu l
def meltO (k n : Nat) (d : Cell) : Obj → Obj
  | .box cs => .box (cs.map (meltW k n d))
  | .arr s rows p => .arr s (rows.map (·.map (meltW k n d))) p
  | .mp es => .mp es

/-- An array of the frame's own is published; what stands for it becomes data. -/
def St.melt (k : Nat) (s : St) : St := match look s.objs k with
  | some (.arr sz rows _) => match W.toC (look s.objs) deep (.arr k rows.length) with
    | some d => bif (W.ids (look s.objs) deep (.arr k rows.length)).all (· == k) then
        ⟨s.env.map fun x => (x.1, meltV k rows.length d x.2), (put s.objs k (some (.arr sz rows rows.length))).map fun x => (x.1, x.2.map (meltO k rows.length d))⟩
      else s
    | none => s
  | _ => s

def St.live (ts : List Nat) (s : St) : St := match ts with
  | [] => s
  | _ => ⟨s.env.filter fun x => ts.contains x.1, s.objs⟩

/-- Round after round, until one ends otherwise than by its end. -/
def iter (f : St → Option (Ex × St)) : Nat → St → Option (Ex × St)
  | 0, _ => none
  | n + 1, s => match f s with
    | some (.normal, s') => iter f n s'
    | r => r

def maxRows2 : Nat := 4611686018427387900

/-- The objects that code forgets at the heads of its regions. -/
def dropsOf : VCode → List Nat
  | .region drop _ _ _ => drop
  | .seq a b => dropsOf a ++ dropsOf b
  | .cond _ a b => dropsOf a ++ dropsOf b
  | .block _ a => dropsOf a
  | .loop a => dropsOf a
  | .rangeB _ _ _ _ _ _ a b => dropsOf a ++ dropsOf b
  | .melt _ a => dropsOf a
  | _ => []

/-- No range over a function within. -/
def noB : VCode → Bool
  | .seq a b => noB a && noB b
  | .cond _ a b => noB a && noB b
  | .block _ a => noB a
  | .loop a => noB a
  | .rangeB .. => false
  | .melt k a => !(k == 63) && noB a
  | _ => true

/-- The rounds of a range over slices.Backward's function: i rows are left. -/
def rounds (fA fB : St → Option (Ex × St)) (drops dB : List Nat) (s : Nat) (ag : Bool) (p q : Nat) (rows : List (List Cell)) : Nat → St → Option (Ex × St)
  | 0, st => some (.normal, st)
  | i + 1, st => match rows[i]? with
    | none => none
    | some row => bif row.length == s then match asV ag (row.map W.c) with
        | none => none
        | some v => match fA ⟨put (put (st.scrub drops).env p (.sc (.c (.int .i64 i)))) q v, (st.scrub drops).objs⟩ with
          | some (.normal, s1) => bif dB.all (fun k => (look s1.objs k).isNone) then match fB s1 with
            | some (.normal, s2) => rounds fA fB drops dB s ag p q rows i ⟨(st.scrub drops).env, s2.objs⟩
            | some (.exit id, s2) => some (.exit id, ⟨(st.scrub drops).env, s2.objs⟩)
            | some (.ret, s2) => some (.ret, ⟨(st.scrub drops).env, s2.objs⟩)
            | none => none
            else none
          | _ => none
      else none

def run (C : Ctx) (n : Nat) : VCode → St → Option (Ex × St)
  | .skip, s => some (.normal, s)
  | .region drop ops chk live, s => match runOps C ops chk (match drop with | [] => s | _ => s.scrub drop) with
    | some s' => some (.normal, s'.live live)
    | none => none
  | .seq a b, s => match run C n a s with
    | some (.normal, s') => run C n b s'
    | r => r
  | .cond c x y, s => match c.val C (get? s.env) with
    | .sc (.c (.bool t)) => bif t then run C n x s else run C n y s
    | _ => none
  | .block id b, s => match run C n b s with
    | some (.exit id', s') => bif id' == id then some (.normal, s') else some (.exit id', s')
    | r => r
  | .loop b, s => iter (run C n b) n s
  | .exit id, s => some (.exit id, s)
  | .ret, s => some (.ret, s)
  | .rangeB x f s ag p q asg body, st => match x.val C (get? st.env) with
    | .sc (.clo f' [true] [[.ptr k 0]]) => bif f' == f && Nat.ble 64 k then match look st.objs k with
      | some (.box [.c (.sl rows)]) => bif Nat.ble rows.length maxRows2 then rounds (run C n asg) (run C n body) (dropsOf asg ++ dropsOf body) (dropsOf body) s ag p q rows rows.length (st.scrub [k]) else none
      | _ => none
      else none
    | _ => none
  | .melt k b, s => run C n b (s.melt k)
  | .bad, _ => none

def Ex.out : Ex → Exit
  | .normal => .normal
  | .exit id => .exit id
  | .ret => .ret

def mCode (P : Program) (N : Nat) : Code → VCode → Bool
  | .scope c, .melt k b => k == 63 && mCode P N c b
  | c, .melt _ b => mCode P N c b
  | .skip, .skip => true
  | .label _, .skip => true
  | .region _ ops draw, .region drop vops chk _ => mRegion P N ops vops chk draw && drop.all (fun k => Nat.ble 64 k)
  | .seq a b, .seq a' b' => mCode P N a a' && mCode P N b b'
  | .cond c x y, .cond c' x' y' => mOpd c c' && mCode P N x x' && mCode P N y y'
  | .block id b, .block id' b' => id == id' && mCode P N b b'
  | .loop b, .loop b' => mCode P N b b'
  | .exit id, .exit id' => id == id'
  | .ret, .ret => true
  | .rangeFunc g ⟨[p', q']⟩ asg body, .rangeB x f s ag p q asg' body' => mOpd g x && p' == p && q' == q && Nat.blt p N && Nat.blt q N && !(p == q) && mIter P f s ag && noB asg' && noB body' && mCode P N asg asg' && mCode P N body body' &&
      (dropsOf asg' ++ dropsOf body').all (fun k => Nat.ble 64 k)
  | _, .bad => true
  | _, _ => false

section
variable {P : Program} {C : Ctx} {N : Nat} {w0 : World} {ω0 : Nat → Nat} {S : Fr} {E : Nat → Option V} {L : Nat → Option Obj} {a : Act} {w : World} {ω : Nat → Nat} {β : Nat → Option Nat}

theorem get?_map {α γ : Type} (f : α → γ) : ∀ (l : List (Nat × α)) (k : Nat), get? (l.map fun x => (x.1, f x.2)) k = (get? l k).map f
  | [], _ => rfl
  | (j, x) :: r, k => by
    simp only [List.map_cons, get?]
    cases (j == k) with
    | true => rfl
    | false => exact get?_map f r k

theorem get?_filter {α : Type} (p : Nat → Bool) : ∀ (l : List (Nat × α)) (k : Nat), get? (l.filter fun x => p x.1) k = bif p k then get? l k else none
  | [], k => by cases p k <;> rfl
  | (j, x) :: r, k => by
    have ih := get?_filter p r k
    grind [get?]

theorem look_scrub (ks : List Nat) (l : Objs) (k : Nat) : look ((l.filter fun x => !ks.contains x.1).map fun x => (x.1, x.2.map (Obj.ren (dropR ks)))) k = bif ks.contains k then none else (look l k).map (Obj.ren (dropR ks)) := by
  unfold look
  rw [get?_map (fun x : Option Obj => x.map (Obj.ren (dropR ks))), get?_filter (fun j => !ks.contains j)]
  grind

/-- Forgetting objects of the frame's own. -/
theorem Rel.scrub (r : Rel C.gl N w0 ω0 S E L a w ω β) {ks : List Nat} (hk : ∀ k ∈ ks, ¬ S.kept k) :
    Rel C.gl N w0 ω0 S (fun t => (E t).map (V.ren (dropR ks))) (fun k => bif ks.contains k then none else (L k).map (Obj.ren (dropR ks))) a w ω β := by
  have hren : Ren (dropR ks) β L β (fun k => bif ks.contains k then none else (L k).map (Obj.ren (dropR ks))) := by
    intro k j o h1 h2
    grind [dropR]
  have back : ∀ {k : Nat}, (bif ks.contains k then none else (L k).map (Obj.ren (dropR ks))) ≠ none → L k ≠ none := by
    grind
  refine ⟨r.size, r.defers, ?_, ?_, ?_, r.keeps, ?_, r.gl, ?_⟩
  · intro t v ht
    obtain ⟨v0, h1, rfl⟩ := Option.map_eq_some_iff.1 ht
    exact ⟨(r.env t v0 h1).1, (r.env t v0 h1).2.rename hren⟩
  · intro k o ho
    cases hc : ks.contains k with
    | true => grind
    | false =>
      simp only [hc, cond_false] at ho
      obtain ⟨o0, h1, rfl⟩ := Option.map_eq_some_iff.1 ho
      exact (r.obj k o0 h1).rename hren rfl
  · exact fun j k b hj hk' => r.inj j k b (back hj) (back hk')
  · exact fun k b hk' => r.mine k b (back hk')
  · refine S.closed _ _ _ _ _ _ r.inv fun k hkept => ?_
    have hc : ks.contains k = false := by
      cases hc : ks.contains k with
      | false => rfl
      | true => exact absurd hkept (hk k (by simpa using hc))
    unfold Tr
    cases hL : L k with
    | none => trivial
    | some o => cases o with
      | box cs => exact ⟨⟨_, by simp only [hc, hL, cond_false, Option.map_some, Obj.ren]; rfl, by simp⟩, rfl⟩
      | arr s rows p => exact ⟨_, p, by simp only [hc, hL, cond_false, Option.map_some, Obj.ren]; rfl, by simp, fun _ => ⟨rfl, fun b cur t _ hcur => ⟨cur, hcur, rfl⟩⟩⟩
      | mp es => exact ⟨⟨_, by simp only [hc, hL, cond_false, Option.map_some, Obj.ren]; rfl⟩, rfl⟩

theorem Rel.scrubSt {s : St} (r : Rel C.gl N w0 ω0 S (get? s.env) (look s.objs) a w ω β) {ks : List Nat} (hk : ∀ k ∈ ks, ¬ S.kept k) :
    Rel C.gl N w0 ω0 S (get? (s.scrub ks).env) (look (s.scrub ks).objs) a w ω β := by
  unfold St.scrub
  cases s.objs.any (fun x => x.2.isSome && ks.contains x.1) with
  | false => exact r
  | true =>
    have h := r.scrub hk
    simp only [cond_true]
    rw [show get? (s.env.map fun x => (x.1, x.2.ren (dropR ks))) = fun t => (get? s.env t).map (V.ren (dropR ks)) from funext fun t => get?_map _ _ t]
    rw [show look ((s.objs.filter fun x => !ks.contains x.1).map fun x => (x.1, x.2.map (Obj.ren (dropR ks)))) = _ from funext fun k => look_scrub ks s.objs k]
    exact h

theorem RWlist.melts {w w' : World} {ω ω' : Nat → Nat} {β β' : Nat → Option Nat} {L L' : Nat → Option Obj} {f : W → W} (h : ∀ (x : W) (v : Value), RW w ω β L x v → RW w' ω' β' L' (f x) v) : ∀ {xs : List W} {vs : List Value}, RWlist w ω β L xs vs → RWlist w' ω' β' L' (xs.map f) vs
  | [], [], _ => by simp [RWlist]
  | [], _ :: _, h => by simp [RWlist] at h
  | _ :: _, [], h => by simp [RWlist] at h
  | x :: xs, v :: vs, hr => by
    simp only [RWlist] at hr
    simp only [List.map_cons, RWlist]
    exact ⟨h x v hr.1, RWlist.melts h hr.2⟩

theorem Rel.melt (r : Rel C.gl N w0 ω0 S E L a w ω β) {k sz p : Nat} {rows : List (List W)} (hL : L k = some (.arr sz rows p)) {d : Cell} (hd : W.toC L deep (.arr k rows.length) = some d) (hi : ∀ j ∈ W.ids L deep (.arr k rows.length), j = k) :
    ∃ ω', Rel C.gl N w0 ω0 S (fun t => (E t).map (meltV k rows.length d)) (fun j => (updO L k (some (.arr sz rows rows.length)) j).map (meltO k rows.length d)) a w ω' β := by
  obtain ⟨ω1, g, p1, p2⟩ := publish_ex r [k]
  have hsh : Shows β L ω1 (W.ids L deep (.arr k rows.length)) := fun j hj s' rows' p' b h1 h2 => by
    grind
  generalize hM : (fun j => (updO L k (some (.arr sz rows rows.length)) j).map (meltO k rows.length d)) = M
  have hMk : M k = some (.arr sz (rows.map (·.map (meltW k rows.length d))) rows.length) := by grind [updO, meltO]
  have hMo : ∀ j, j ≠ k → M j = (L j).map (meltO k rows.length d) := fun j hj => by grind [updO_ne]
  have tr : ∀ j, Tr w β w β L M j := by
    intro j
    unfold Tr
    by_cases hj : j = k
    grind
    · cases hLj : L j with
      | none => simp
      | some o => cases o with
        | box cs => exact ⟨⟨_, by rw [hMo j hj, hLj]; rfl, by simp⟩, rfl⟩
        | arr s rows' p' => exact ⟨_, _, by rw [hMo j hj, hLj]; rfl, by simp, fun _ => ⟨rfl, fun b cur t _ hc => ⟨cur, hc, rfl⟩⟩⟩
        | mp es => exact ⟨⟨_, by rw [hMo j hj, hLj]; rfl⟩, rfl⟩
  have key : ∀ (x : W) (v : Value), RW w ω β L x v → RW w ω1 β M (meltW k rows.length d x) v := by
    intro x v h
    have h' := RW.step g tr x h
    cases x with
    | arr j m =>
      simp only [meltW]
      cases hc : (j == k && m == rows.length) with
      | false => grind
      | true =>
        simp only [Bool.and_eq_true, beq_iff_eq] at hc
        obtain ⟨rfl, rfl⟩ := hc
        simp only [cond_true, RW]
        exact toC_ok r.obj g deep _ v d h hd hsh
    | _ => exact h'
  have back : ∀ {j}, M j ≠ none → L j ≠ none := by
    grind
  have hother : ∀ j b, j ≠ k → L j ≠ none → β j = some b → ω1 b = ω b := fun j b hj hLj hb => p2 b fun i hik s' rows' p' _ e => by
    simp only [List.mem_singleton] at hik
    subst hik
    exact hj (r.inj j i b hLj (by grind) hb e)
  have hobj : ∀ j o, M j = some o → ObjOk w ω1 β M j o := by
    intro j o ho
    by_cases hj : j = k
    · subst hj
      rw [hMk] at ho
      cases ho
      obtain ⟨h1, h2, h3, h4⟩ := r.obj j _ hL
      refine ⟨h1, ?_, by simp, ?_⟩
      grind
      · rcases h4 with ⟨b, cap, cur, t, g1, g2, g3, g4, g5, g6, _⟩ | ⟨g1, g2⟩
        · refine .inl ⟨b, cap, cur, t, g1, g2, g3, by grind, g5, ?_, p1 j (by simp) _ _ _ _ hL g1⟩
          grind [RWlist.melts]
        grind
    · rw [hMo j hj] at ho
      obtain ⟨o0, hLj, rfl⟩ := Option.map_eq_some_iff.1 ho
      have h0 := r.obj j o0 hLj
      cases o0 with
      | box cs =>
        obtain ⟨b, us, t, g1, g2, g3, g4⟩ := h0
        exact ⟨b, us, t, g1, g2, RWlist.melts key g3, (hother j b hj (by grind) g1).trans g4⟩
      | mp es =>
        obtain ⟨b, arr, clock, g1, g2, g3, g4⟩ := h0
        exact ⟨b, arr, clock, g1, g2, g3.grow g, (hother j b hj (by grind) g1).trans g4⟩
      | arr s rows' p' =>
        obtain ⟨h1, h2, h3, h4⟩ := h0
        refine ⟨h1, ?_, by grind, ?_⟩
        grind
        · rcases h4 with ⟨b, cap, cur, t, g1, g2, g3, g4, g5, g6, g7⟩ | ⟨g1, g2⟩
          · refine .inl ⟨b, cap, cur, t, g1, g2, g3, by grind, g5, ?_, (hother j b hj (by grind) g1).trans g7⟩
            grind [RWlist.melts]
          grind
  have r2 := (r.step (fun _ => True) (w' := w) (ω' := ω1) (β' := β) (L' := M) g (Nat.le_refl _) rfl rfl rfl
    (fun b _ hb => ⟨rfl, p2 b fun j _ s' rows' p' h1 => hb j trivial (by grind)⟩) (fun j h => absurd trivial h) (fun j _ => tr j) (fun _ j _ o ho => hobj j o ho)
    (fun j _ b h1 h2 => .inl ⟨j, trivial, back h1, h2⟩) (fun i j b _ _ h1 h2 h3 h4 => r.inj i j b (back h1) (back h2) h3 h4)).1
  refine ⟨ω1, r2.size, r2.defers, ?_, r2.obj, r2.inj, r2.keeps, r2.mine, r2.gl, r2.inv⟩
  intro t v ht
  obtain ⟨v0, h1, rfl⟩ := Option.map_eq_some_iff.1 ht
  refine ⟨(r.env t v0 h1).1, ?_⟩
  have h2 := (r.env t v0 h1).2
  cases v0 with
  | sc x => exact key x _ h2
  | ag cs => obtain ⟨us, g1, g2⟩ := h2; exact ⟨us, g1, RWlist.melts key g2⟩
  | tu l => exact RV.step g tr h2

theorem Rel.meltSt {s : St} (r : Rel C.gl N w0 ω0 S (get? s.env) (look s.objs) a w ω β) (k : Nat) : ∃ ω', Rel C.gl N w0 ω0 S (get? (s.melt k).env) (look (s.melt k).objs) a w ω' β := by
  unfold St.melt
  split
  · rename_i sz rows p hL
    split
    · rename_i d hd
      cases hb : (W.ids (look s.objs) deep (.arr k rows.length)).all (· == k) with
      | false => grind
      | true =>
        obtain ⟨ω', h⟩ := r.melt hL hd fun j hj => by grind
        refine ⟨ω', ?_⟩
        simp only [cond_true]
        rw [show get? (s.env.map fun x => (x.1, meltV k rows.length d x.2)) = fun t => (get? s.env t).map (meltV k rows.length d) from funext fun t => get?_map _ _ t]
        rw [show look ((Go.Vs.put s.objs k (some (.arr sz rows rows.length))).map fun x => (x.1, x.2.map (meltO k rows.length d))) = fun j => (updO (look s.objs) k (some (.arr sz rows rows.length)) j).map (meltO k rows.length d) from funext fun j => by
          rw [← look_put]
          unfold look
          rw [get?_map (fun x : Option Obj => x.map (meltO k rows.length d))]
          grind]
        exact h
    grind
  grind

theorem Rel.liveSt {s : St} (r : Rel C.gl N w0 ω0 S (get? s.env) (look s.objs) a w ω β) (ts : List Nat) :
    Rel C.gl N w0 ω0 S (get? (s.live ts).env) (look (s.live ts).objs) a w ω β := by
  unfold St.live
  split
  omega
  · rename_i ts' _
    refine r.fewer fun t v ht => ?_
    simp only at ht
    rw [get?_filter (fun t => ts.contains t)] at ht
    grind

theorem Runs.plain : ∀ {vops : List VOper} {rs : List Rec} {E E' : Nat → Option V} {L L' : Nat → Option Obj}, Runs C (vops.zip rs) E L E' L' → ∀ (i : Nat) (x : VOper) (y : Rec), vops[i]? = some x → rs[i]? = some y → isPlain x = true → y.touch = false
  | [], _, _, _, _, _, _, _, _, _, h, _, _ => by grind
  | _ :: _, [], _, _, _, _, _, _, _, _, _, h, _ => by grind
  | o :: os, z :: rs, E, E', L, L', h, i, x, y, hx, hy, hp => by
    obtain ⟨v, u, h1, h2, h3⟩ := h
    cases i with
    | zero =>
      simp only [List.getElem?_cons_zero, Option.some.injEq] at hx hy
      subst hx hy
      simp only at h2
      rw [h2]
      exact plain_rec hp h1
    | succ i => exact Runs.plain h3 i x y (by grind) (by grind) hp

theorem range_zip : ∀ {vops : List VOper} {rs : List Rec}, rs.length = vops.length → (List.range vops.length).map (fun i => ((vops[i]?).getD default, (rs[i]?).getD default)) = vops.zip rs := by
  intro vops rs h
  apply List.ext_getElem <;> grind

theorem runOps_ok (hC : OracleOk P C) (hP : P.follows .mixedOrders = true) {ops : Array Oper} {draw : Bool} {vops : List VOper} {chk : List (Nat × Nat)} (hm : mRegion P N ops vops chk draw = true) {s s' : St} (h : runOps C vops chk s = some s')
    (r : Rel C.gl N w0 ω0 S (get? s.env) (look s.objs) a w ω β) {Q : Exit → Act → World → Prop} (hQ : ∀ a w ω β, Rel C.gl N w0 ω0 S (get? s'.env) (look s'.objs) a w ω β → Q .normal a w) {id : Nat} : (Code.region id ops draw).wp P Q a w := by
  obtain ⟨rs, h1, h2⟩ : ∃ rs, execR C vops s = some (rs, s') ∧ chkOk rs chk = true := by
    unfold runOps at h
    split at h
    · obtain ⟨rs, h1⟩ := execL_execR h
      exact ⟨rs, h1, rfl⟩
    · split at h
      · cases h
      · rename_i rs s2 hr
        cases hc : chkOk rs chk with
        | false => rw [hc] at h; cases h
        | true => rw [hc] at h; cases h; exact ⟨rs, hr, hc⟩
  obtain ⟨h3, h4⟩ := execR_runs h1
  unfold mRegion at hm
  simp only [Bool.and_eq_true, Bool.or_eq_true] at hm
  cases draw with
  | false => grind [wp_region_list, list_ok]
  | true =>
    have hord : mOrders ops vops chk = true := by grind
    have hlen := (mAllO_get hm.1).1
    rw [Array.length_toList] at hlen
    have hrem : remOf ops.size (Array.replicate ops.size false) = List.range ops.size := by
      refine List.filter_eq_self.2 fun i hi => ?_
      simp_all
    refine wp_region_any hP (any_ok hC hm.1 hord h3 h2 h4.plain hQ ops.size (by simp) ?_ ?_ (r.heapEq rfl rfl rfl rfl) ?_)
    · intro j o hj hl
      have : j < ops.size := by grind
      simp_all
    grind
    grind [range_zip]

/-- A region in a round. -/
theorem runOps_okIn (hC : OracleOk P C) (hP : P.follows .mixedOrders = true) {ops : Array Oper} {draw : Bool} {vops : List VOper} {chk : List (Nat × Nat)} (hm : mRegion P N ops vops chk draw = true) {s s' : St} (h : runOps C vops chk s = some s')
    (r : Rel C.gl N w0 ω0 S (get? s.env) (look s.objs) a w ω β) (hnd : ∀ (i : Nat) (o : Oper), ops[i]? = some o → ∀ c, o.op ≠ .defer c) {Q : Exit → Act → World → Prop} (hQ : ∀ a w ω β, Rel C.gl N w0 ω0 S (get? s'.env) (look s'.objs) a w ω β → Q .normal a w) (hQo : ¬ LetsOut Q) {id l m : Nat} :
    (Code.region id ops draw).wpIn (Fence.wide.inRound l) m P Q a w := by
  obtain ⟨rs, h1, h2⟩ : ∃ rs, execR C vops s = some (rs, s') ∧ chkOk rs chk = true := by
    unfold runOps at h
    split at h
    · obtain ⟨rs, h1⟩ := execL_execR h
      exact ⟨rs, h1, rfl⟩
    · split at h
      · cases h
      · rename_i rs s2 hr
        cases hc : chkOk rs chk with
        | false => rw [hc] at h; cases h
        | true => rw [hc] at h; cases h; exact ⟨rs, hr, hc⟩
  obtain ⟨h3, h4⟩ := execR_runs h1
  unfold mRegion at hm
  simp only [Bool.and_eq_true, Bool.or_eq_true] at hm
  cases draw with
  | false => grind [regionIn_list, list_ok]
  | true =>
    have hord : mOrders ops vops chk = true := by grind
    have hlen := (mAllO_get hm.1).1
    rw [Array.length_toList] at hlen
    have hrem : remOf ops.size (Array.replicate ops.size false) = List.range ops.size := by
      refine List.filter_eq_self.2 fun i hi => ?_
      simp_all
    refine regionIn_any hP hQo hnd (any_ok hC hm.1 hord h3 h2 h4.plain hQ ops.size (by simp) ?_ ?_ (r.heapEq rfl rfl rfl rfl) ?_)
    · intro j o hj hl
      have : j < ops.size := by grind
      simp_all
    grind
    grind [range_zip]

/-- Code, in a round of a range over a function, does what its evaluator says. -/
theorem run_okIn (hC : OracleOk P C) (hP : P.follows .mixedOrders = true) {l m n : Nat} : ∀ {c : Code} {vc : VCode}, noB vc = true → mCode P N c vc = true → (∀ k, S.kept k → k ∉ dropsOf vc) → ∀ {s s' : St} {ex : Ex}, run C n vc s = some (ex, s') →
    ∀ {a : Act} {w : World} {ω : Nat → Nat} {β : Nat → Option Nat}, Rel C.gl N w0 ω0 S (get? s.env) (look s.objs) a w ω β →
    c.wpIn (Fence.wide.inRound l) m P (fun e a' w' => e = ex.out ∧ ∃ ω' β', Rel C.gl N w0 ω0 S (get? s'.env) (look s'.objs) a' w' ω' β') a w := by
  intro c vc
  induction vc generalizing c with
  | skip =>
    intro hB hm hS s s' ex h a w ω β r
    simp only [run, Option.some.injEq, Prod.mk.injEq] at h
    obtain ⟨rfl, rfl⟩ := h
    cases c <;> simp only [mCode, Bool.false_eq_true] at hm
    · exact wpIn_skip ⟨rfl, ω, β, r⟩
    · exact wpIn_label ⟨rfl, ω, β, r⟩
  | region drop vops chk live =>
    intro hB hm hS s s' ex h a w ω β r
    cases c <;> simp only [mCode, Bool.false_eq_true] at hm
    rename_i id ops draw
    simp only [Bool.and_eq_true] at hm
    simp only [run] at h
    split at h
    · rename_i s2 hs2
      simp only [Option.some.injEq, Prod.mk.injEq] at h
      obtain ⟨rfl, rfl⟩ := h
      have r0 : Rel C.gl N w0 ω0 S (get? (match drop with | [] => s | _ => s.scrub drop).env) (look (match drop with | [] => s | _ => s.scrub drop).objs) a w ω β := by
        split
        omega
        · exact r.scrubSt fun k hk hkept => hS k hkept hk
      have hnd : ∀ (i : Nat) (o : Oper), ops[i]? = some o → ∀ c, o.op ≠ .defer c := by
        intro i o ho
        unfold mRegion at hm
        simp only [Bool.and_eq_true] at hm
        obtain ⟨hlen, hget⟩ := mAllO_get hm.1.1
        have hi : i < vops.length := by
          grind
        obtain ⟨o', ho', hmo⟩ := hget i vops[i] (by simp)
        grind [mOper_nd]
      have hfin : ∀ (a : Act) (w : World) (ω : Nat → Nat) (β : Nat → Option Nat), Rel C.gl N w0 ω0 S (get? s2.env) (look s2.objs) a w ω β → (fun (e : Exit) (a' : Act) (w' : World) => e = Ex.normal.out ∧ ∃ ω' β', Rel C.gl N w0 ω0 S (get? (s2.live live).env) (look (s2.live live).objs) a' w' ω' β') .normal a w :=
        fun a w ω β r' => ⟨rfl, ω, β, r'.liveSt live⟩
      exact runOps_okIn hC hP hm.1 hs2 r0 hnd hfin (by rintro ⟨_, _, h, _⟩; cases h)
    · cases h
  | seq x y ihx ihy =>
    intro hB hm hS s s' ex h a w ω β r
    cases c <;> simp only [mCode, Bool.false_eq_true] at hm
    simp only [Bool.and_eq_true] at hm
    simp only [noB, Bool.and_eq_true] at hB
    simp only [dropsOf, List.mem_append, not_or] at hS
    simp only [run] at h
    cases hx : run C n x s with
    | none => rw [hx] at h; cases h
    | some q =>
      obtain ⟨e1, s1⟩ := q
      rw [hx] at h
      refine wpIn_seq (wpIn_mono (ihx hB.1 hm.1 (fun k hk => (hS k hk).1) hx r) ?_)
      rintro e a1 w1 ⟨rfl, ω1, β1, r1⟩
      cases e1 with
      | normal => exact ihy hB.2 hm.2 (fun k hk => (hS k hk).2) h r1
      | exit id =>
        simp only [Option.some.injEq, Prod.mk.injEq] at h
        obtain ⟨rfl, rfl⟩ := h
        exact ⟨rfl, ω1, β1, r1⟩
      | ret =>
        simp only [Option.some.injEq, Prod.mk.injEq] at h
        obtain ⟨rfl, rfl⟩ := h
        exact ⟨rfl, ω1, β1, r1⟩
  | cond cc x y ihx ihy =>
    intro hB hm hS s s' ex h a w ω β r
    cases c <;> simp only [mCode, Bool.false_eq_true] at hm
    simp only [Bool.and_eq_true] at hm
    simp only [noB, Bool.and_eq_true] at hB
    simp only [dropsOf, List.mem_append, not_or] at hS
    simp only [run] at h
    have hv := mOpd_ok r hm.1.1
    grind [RV, RV1, RW, RD, wpIn_cond]
  | block id x ih =>
    intro hB hm hS s s' ex h a w ω β r
    cases c <;> simp only [mCode, Bool.false_eq_true] at hm
    simp only [Bool.and_eq_true, beq_iff_eq] at hm
    obtain ⟨rfl, hm⟩ := hm
    simp only [run] at h
    cases hx : run C n x s with
    | none => grind
    | some q =>
      obtain ⟨e1, s1⟩ := q
      rw [hx] at h
      refine wpIn_block (wpIn_mono (ih hB hm hS hx r) ?_)
      rintro e a1 w1 ⟨rfl, ω1, β1, r1⟩
      cases e1 with
      | normal =>
        simp only [Option.some.injEq, Prod.mk.injEq] at h
        obtain ⟨rfl, rfl⟩ := h
        exact ⟨rfl, ω1, β1, r1⟩
      | exit id' =>
        grind [Ex.out, Exit.inBlock]
      | ret =>
        simp only [Option.some.injEq, Prod.mk.injEq] at h
        obtain ⟨rfl, rfl⟩ := h
        exact ⟨rfl, ω1, β1, r1⟩
  | loop x ih =>
    intro hB hm hS s s' ex h a w ω β r
    cases c <;> simp only [mCode, Bool.false_eq_true] at hm
    rename_i body
    simp only [run] at h
    intro b k cs hro hb hr
    have key : ∀ (j : Nat) {s : St} {a : Act} {w : World} {ω : Nat → Nat} {β : Nat → Option Nat}, iter (run C n x) j s = some (ex, s') → Rel C.gl N w0 ω0 S (get? s.env) (look s.objs) a w ω β →
        ∃ e a' w', (e = ex.out ∧ ∃ ω' β', Rel C.gl N w0 ω0 S (get? s'.env) (look s'.objs) a' w' ω' β') ∧ ArrivesIn (Machine.fenced P (Fence.wide.inRound l)) P (lone (b.atR a (.code body :: .inLoop body :: k)) cs w) b k cs e a' w' := by
      intro j
      induction j with
      | zero => grind [iter]
      | succ j ihj =>
        intro s a w ω β h r
        simp only [iter] at h
        cases hx : run C n x s with
        | none => rw [hx] at h; cases h
        | some q =>
          obtain ⟨e1, s1⟩ := q
          rw [hx] at h
          obtain ⟨e, a1, w1, ⟨rfl, ω1, β1, r1⟩, harr⟩ := ih hB hm hS hx r b (.inLoop body :: k) cs hro hb hr
          cases e1 with
          | normal =>
            obtain ⟨e2, a2, w2, hq2, harr2⟩ := ihj h r1
            exact ⟨e2, a2, w2, hq2, .of_steps (StepsIn.trans harr (.one (fenced_calm hb hr rfl) stepR_inLoop)) harr2⟩
          | exit id =>
            simp only [Option.some.injEq, Prod.mk.injEq] at h
            obtain ⟨rfl, rfl⟩ := h
            exact ⟨_, a1, w1, ⟨rfl, ω1, β1, r1⟩, .pass (x := .inLoop body) rfl (fun _ _ => .inl (by simp [Ex.out])) harr⟩
          | ret =>
            simp only [Option.some.injEq, Prod.mk.injEq] at h
            obtain ⟨rfl, rfl⟩ := h
            exact ⟨_, a1, w1, ⟨rfl, ω1, β1, r1⟩, .pass (x := .inLoop body) rfl (fun _ _ => .inl (by simp [Ex.out])) harr⟩
    obtain ⟨e, a', w', hq, harr⟩ := key n h r
    exact ⟨e, a', w', hq, .of_steps (.one (fenced_calm hb hr rfl) stepR_loop) harr⟩
  | exit id =>
    intro hB hm hS s s' ex h a w ω β r
    cases c <;> simp only [mCode, Bool.false_eq_true] at hm
    simp only [beq_iff_eq] at hm
    subst hm
    simp only [run, Option.some.injEq, Prod.mk.injEq] at h
    obtain ⟨rfl, rfl⟩ := h
    exact wpIn_exit ⟨rfl, ω, β, r⟩
  | ret =>
    intro hB hm hS s s' ex h a w ω β r
    cases c <;> simp only [mCode, Bool.false_eq_true] at hm
    simp only [run, Option.some.injEq, Prod.mk.injEq] at h
    obtain ⟨rfl, rfl⟩ := h
    exact wpIn_ret ⟨rfl, ω, β, r⟩
  | rangeB x f s ag p q asg body _ _ =>
    grind [noB]
  | melt k x ih =>
    intro hB hm hS s s' ex h a w ω β r
    simp only [noB, Bool.and_eq_true, Bool.not_eq_true'] at hB
    obtain ⟨hk, hB⟩ := hB
    have hm' : mCode P N c x = true := by cases c <;> simp only [mCode, hk, Bool.false_and, Bool.false_eq_true] at hm <;> exact hm
    simp only [run] at h
    obtain ⟨ω', r'⟩ := r.meltSt k
    exact ih hB hm' hS h r'
  | bad =>
    grind [run]

theorem mIter_ok {f : FuncId} {s : Nat} {ag : Bool} (h : mIter P f s ag = true) : ∃ t e it ie fn, isBack P f t e = true ∧ P.underlying t = some (.slice e) ∧ P.info? t = some it ∧ it.size = 1 ∧ isAggB P t = false ∧ (P.underlying e).isSome = true ∧ P.info? e = some ie ∧ ie.size = s ∧ isAggB P e = ag ∧
    (ag = true ∨ s = 1) ∧ P.funcs[f]? = some fn ∧ fn.body.isSome = true ∧ fn.name ≠ "runtime.NumGoroutine" := by
  unfold mIter at h
  split at h
  · rename_i t e _
    simp only [Bool.and_eq_true, Bool.not_eq_true', beq_iff_eq, Bool.or_eq_true] at h
    obtain ⟨⟨⟨⟨⟨⟨⟨⟨h1, h2⟩, h3⟩, h4⟩, h5⟩, h6⟩, h7⟩, h8⟩, h9⟩ := h
    split at h2
    · rename_i e' hu
      have : e' = e := by simpa using h2
      subst this
      split at h3
      · rename_i it hit
        split at h6
        · rename_i ie hie
          split at h9
          · rename_i fn hfn
            simp only [Bool.and_eq_true, bne_iff_ne] at h9
            exact ⟨t, e', it, ie, fn, h1, hu, hit, by simpa using h3, h4, h5, hie, by simpa using h6, h7, h8, hfn, h9.1, h9.2⟩
          · cases h9
        · cases h6
      · cases h3
    · cases h2
  · cases h

/-- What a round knows: the frame's own act, and the round's. -/
theorem Rel.compose2 {a1 : Act} {E1 : Nat → Option V} {L : Nat → Option Obj} (r : Rel C.gl N w0 ω0 S E1 L a1 w ω β) {E2 : Nat → Option V} {L2 : Nat → Option Obj} {a2 : Act} {w2 : World} {ω2 : Nat → Nat} {β2 : Nat → Option Nat} (h : Rel C.gl N w ω (roundFr w β L S.kept S.lo S.fd) E2 L2 a2 w2 ω2 β2) :
    Rel C.gl N w0 ω0 S E2 L2 a2 w2 ω2 β2 := by
  have tr := tr_of_round h.inv
  refine ⟨h.size, h.defers, h.env, h.obj, h.inj, ?_, ?_, h.gl, S.closed _ _ _ _ _ _ r.inv fun k hk => tr k⟩
  · refine r.keeps.step h.keeps.grows h.keeps.size (fun b hb hs => h.keeps.same b (Nat.lt_of_lt_of_le hb r.keeps.size) ?_) h.keeps.os h.keeps.tape h.keeps.output
    rintro ⟨k, hk, hbk⟩
    rcases r.mine k b hk hbk with h1 | h1 <;> grind
  · intro k b hk hb
    rcases h.mine k b hk hb with ⟨j, hj, hbj⟩ | h1
    · exact r.mine j b hj hbj
    · exact .inr (Nat.le_trans r.keeps.size h1)

theorem scrub_gone {ks : List Nat} {s : St} {k : Nat} (hk : k ∈ ks) : look (s.scrub ks).objs k = none := by
  have hc : ks.contains k = true := by grind
  unfold St.scrub
  cases ha : s.objs.any (fun x => x.2.isSome && ks.contains x.1) with
  | true =>
    grind [look_scrub]
  | false =>
    simp only [cond_false]
    cases hl : look s.objs k with
    | none => rfl
    | some o =>
      unfold look at hl
      have key : ∀ l : Objs, l.any (fun x => x.2.isSome && ks.contains x.1) = false → (get? l k).join = none := by
        intro l
        induction l with
        | nil => intro _; rfl
        | cons x l ih =>
          intro h
          simp only [List.any_cons, Bool.or_eq_false_iff] at h
          obtain ⟨j, y⟩ := x
          simp only [get?]
          cases hj : (j == k) with
          | false => grind
          | true =>
            simp_all
      grind

theorem noncell_same {E : Nat → Option V} {L : Nat → Option Obj} {a : Act} (r : Rel C.gl N w0 ω0 S E L a w ω β) {kept : Nat → Prop} {lo : Nat} {fd : Option (List Deferred)} {E2 : Nat → Option V} {L2 : Nat → Option Obj} {a2 : Act} {w2 : World} {ω2 : Nat → Nat} {β2 : Nat → Option Nat} (h : Rel C.gl N w ω (roundFr w β L kept lo fd) E2 L2 a2 w2 ω2 β2) {b : Nat} {o : Go.Obj} (hb : w.heap[b]? = some o) (ho : bareO o = true) : w2.heap[b]? = some o := by
  refine (h.keeps.same b (Array.getElem?_eq_some_iff.1 hb).1 ?_).1.trans hb
  rintro ⟨k, hk, hbk⟩
  rcases r.cellsOf hk hbk with ⟨cs, t, fr, hc⟩ | ⟨arr, clock, hc⟩
  · rw [hb] at hc
    cases hc
    cases ho
  · rw [hb] at hc
    cases hc
    cases ho

theorem marks_round {E : Nat → Option V} {L : Nat → Option Obj} {a : Act} (r : Rel C.gl N w0 ω0 S E L a w ω β) {kept : Nat → Prop} {lo : Nat} {fd : Option (List Deferred)} {E2 : Nat → Option V} {L2 : Nat → Option Obj} {a2 : Act} {w2 : World} {ω2 : Nat → Nat} {β2 : Nat → Option Nat} (h : Rel C.gl N w ω (roundFr w β L kept lo fd) E2 L2 a2 w2 ω2 β2) : Defs S.fd S.lo w2 a.defers :=
  r.defers.step fun _ _ hD => noncell_same r h hD rfl

theorem Defs.putObj {fd : Option (List Deferred)} {lo : Nat} {w : World} {ds : List Deferred} (h : Defs fd lo w ds) {l : Nat} {o o' : Go.Obj} (hl : w.heap[l]? = some o) (ho : o ≠ .deferred (some [])) : Defs fd lo (w.putObj l o') ds :=
  h.step fun D _ hD => (World.putObj_heap_other (by grind)).trans hD

theorem grows_put {w : World} {ω : Nat → Nat} {l : Nat} {o o' : Go.Obj} (hl : w.heap[l]? = some o) (ho : bareO o = true) : Grows w ω (w.putObj l o') ω := ⟨fun b i hi v hv => by
  obtain ⟨cs, t, fr, hb⟩ := cells_of_at hv
  have hne : b ≠ l := by
    rintro rfl
    rw [hl] at hb
    cases hb
    cases ho
  have hb' : (w.putObj l o').heap[b]? = some (.cells cs t fr) := (World.putObj_heap_other hne).trans hb
  refine ⟨?_, hi⟩
  rw [at?_block hb', ← at?_block hb]
  omega⟩

theorem Rel.put0 {E : Nat → Option V} {L : Nat → Option Obj} {a : Act} (r : Rel C.gl N w0 ω0 S E L a w ω β) {l : Nat} {o : Go.Obj} (o' : Go.Obj) (hl : w.heap[l]? = some o) (ho : bareO o = true) (hl0 : w0.heap.size ≤ l) (hod : o ≠ .deferred (some [])) : Rel C.gl N w0 ω0 S E L a (w.putObj l o') ω β :=
  r.grown (grownBy_putObj' w l o') (fun b hb => by grind) (r.defers.putObj hl hod)

theorem asV_ok {ag : Bool} {row : List Cell} {v : V} {us : List Value} {L : Nat → Option Obj} (h : asV ag (row.map W.c) = some v) (hr : RDlist w ω row us) : RV w ω β L v (packV ag us) := by
  have hr' : RWlist w ω β L (row.map W.c) us := RDlist.to hr
  unfold asV at h
  cases ag with
  | true =>
    simp only [cond_true, Option.some.injEq] at h
    subst h
    exact ⟨us.toArray, by rfl, by omega⟩
  | false =>
    simp only [cond_false] at h
    split at h
    · rename_i x hx
      simp only [Option.some.injEq] at h
      subst h
      rw [hx] at hr'
      cases us <;> grind [RWlist, packV, RV, RV1]
    grind

theorem range_ok (hC : OracleOk P C) (hP : P.follows .mixedOrders = true) (hS : ∀ k, S.kept k → k < 64) (hlo : S.lo ≤ w0.heap.size) (hfd : S.fd = none) {n : Nat} {g : Operand} {p' q' : Tmp} {asg body : Code} {x : Opd} {f s : Nat} {ag : Bool} {p q : Nat} {vasg vbody : VCode}
    (hm : mCode P N (.rangeFunc g ⟨[p', q']⟩ asg body) (.rangeB x f s ag p q vasg vbody) = true) {st st' : St} {ex : Ex} (h : run C n (.rangeB x f s ag p q vasg vbody) st = some (ex, st')) (r : Rel C.gl N w0 ω0 S (get? st.env) (look st.objs) a w ω β)
    {Q : Exit → Act → World → Prop} (hQ : ∀ a w ω β, Rel C.gl N w0 ω0 S (get? st'.env) (look st'.objs) a w ω β → Q ex.out a w) : (Code.rangeFunc g ⟨[p', q']⟩ asg body).wp P Q a w := by
  simp only [mCode, Bool.and_eq_true, beq_iff_eq, Bool.not_eq_true'] at hm
  obtain ⟨⟨⟨⟨⟨⟨⟨⟨⟨⟨⟨hg, rfl⟩, rfl⟩, hpN⟩, hqN⟩, hpq⟩, hit⟩, hnA⟩, hnB⟩, hmA⟩, hmB⟩, hd64⟩ := hm
  obtain ⟨t, e, it, ie, fn, i1, i2, i3, i4, i5, i6, i7, rfl, rfl, i10, i11, i12, i13⟩ := mIter_ok hit
  simp only [run] at h
  have hv := mOpd_ok r hg
  split at h
  · rename_i f' k hxv
    rw [hxv] at hv
    cases hc : (f' == f && Nat.ble 64 k) with
    | false => grind
    | true =>
      rw [hc] at h
      simp only [cond_true] at h
      simp only [Bool.and_eq_true, beq_iff_eq] at hc
      obtain ⟨rfl, hk64⟩ := hc
      split at h
      · rename_i rows hL
        cases hb : Nat.ble rows.length maxRows2 with
        | false => grind
        | true =>
          rw [hb] at h
          simp only [cond_true] at h
          have hlen := Nat.le_of_ble_eq_true hb
          -- the closure and its box
          simp only [RV, RV1, RW] at hv
          obtain ⟨cs, hge, hcaps⟩ := hv
          obtain ⟨c, hcs⟩ : ∃ c, cs.toList = [c] := by
            cases hl : cs.toList <;> grind [RWcaps]
          rw [hcs] at hcaps
          simp only [RWcaps, and_true] at hcaps
          obtain ⟨xs, hxs, hpk⟩ := hcaps
          obtain ⟨vp, rfl⟩ : ∃ vp, xs = [vp] := by
            cases xs <;> grind [RWlist]
          simp only [RWlist, and_true, RW] at hxs
          obtain ⟨bcells, Bs, hLk, hβk, rfl⟩ := hxs
          have hcv : c = .pointer (some ⟨Bs, 0, none⟩) := by
            grind [packs]
          subst hcv
          have hcs' : cs = #[.pointer (some ⟨Bs, 0, none⟩)] := by grind
          subst hcs'
          obtain ⟨Bs', bcs, bt, hβ', hheap, hbl, _⟩ := r.obj k _ hL
          have : Bs' = Bs := by grind
          subst this
          obtain ⟨sv, hsv⟩ : ∃ sv, bcs.toList = [sv] := by
            cases hl : bcs.toList <;> grind [RWlist]
          rw [hsv] at hbl
          simp only [RWlist, and_true, RW, RD] at hbl
          obtain ⟨base, cap, rfl, _, _, hrows⟩ := hbl
          have hbox : w.cell? ⟨Bs', 0, none⟩ = some (.slice base rows.length cap) := by
            have : bcs[0]? = some (.slice base rows.length cap) := by rw [← Array.getElem?_toList, hsv]; rfl
            simp [World.cell?, hheap, this]
          -- the elements
          have hel : ∃ (us : Nat → List Value) (b off : Nat), (rows.length = 0 ∨ base = some ⟨b, off, none⟩) ∧ ∀ m, m < rows.length → (us m).length = ie.size ∧ (∀ row, rows[m]? = some row → RDlist w ω row (us m)) ∧
              ∀ j v, (us m)[j]? = some v → at? w b (off + (m * ie.size + j)) = some v ∧ off + (m * ie.size + j) < ω b := by
            by_cases hr0 : rows = []
            simp_all
            · obtain ⟨b, off, s', rfl, hs', hR⟩ := hrows.resolve_left hr0
              have hs : s' = ie.size := by
                obtain ⟨i, hi⟩ : ∃ i, rows.length = i + 1 := ⟨rows.length - 1, by grind [List.length_pos_iff]⟩
                rw [hi] at h
                simp only [rounds] at h
                cases hrow : rows[i]? with
                | none => rw [hrow] at h; cases h
                | some row =>
                  rw [hrow] at h
                  simp only at h
                  cases hrl : (row.length == ie.size) with
                  | false => grind
                  | true =>
                    have h1 := (hR.get hrow).1
                    have h2 : row.length = ie.size := by simpa using hrl
                    omega
              subst hs
              have hone : ∀ m, m < rows.length → ∃ u : List Value, u.length = ie.size ∧ (∀ row, rows[m]? = some row → RDlist w ω row u) ∧ ∀ j v, u[j]? = some v → at? w b (off + (m * ie.size + j)) = some v ∧ off + (m * ie.size + j) < ω b := by
                intro m hm
                obtain ⟨h1, h2⟩ := hR.get (List.getElem?_eq_getElem hm)
                obtain ⟨u, g1, g2⟩ := h2.list
                refine ⟨u, by rw [← g1.length]; exact h1, fun row hrow => ?_, fun j v hj => ?_⟩ <;> grind
              refine ⟨fun m => if hm : m < rows.length then Classical.choose (hone m hm) else [], b, off, .inr rfl, fun m hm => ?_⟩
              grind
          obtain ⟨us, b, off, hbase, hus⟩ := hel
          have r0 := r.scrubSt (ks := [k]) fun j hj hkept => by
            have h1 := hS j hkept
            have h2 := Nat.le_of_ble_eq_true hk64
            grind
          have hnb0 : ∀ j, look (st.scrub [k]).objs j ≠ none → β j ≠ some Bs' := by
            intro j hj e
            have hjk : j ≠ k := by
              grind [scrub_gone]
            have hj' : look st.objs j ≠ none := by
              intro e0
              apply hj
              unfold St.scrub
              cases st.objs.any (fun x => x.2.isSome && [k].contains x.1) with
              | false => grind
              | true =>
                simp only [cond_true]
                rw [look_scrub, e0]
                simp
            exact hjk (r.inj j k Bs' hj' (by grind) e hβk)
          generalize hst0 : st.scrub [k] = st0 at h r0 hnb0
          have hBlt : Bs' < w.heap.size := (Array.getElem?_eq_some_iff.1 hheap).1
          have hdr : ∀ j, j ∈ dropsOf vasg ++ dropsOf vbody → 64 ≤ j := fun j hj => Nat.le_of_ble_eq_true (List.all_eq_true.1 hd64 j hj)
          refine (wpIn_wide (n := 2)).1 (wpIn_rangeFunc fun fn _ => ?_)
          obtain ⟨rec, hrec⟩ : ∃ rec : LoopState → Option Code → Loop, rec = fun st pe => { state := st, pending := pe, fn := fn, tmps := a.tmps, params := #[p', q'], assign := asg, body := body, defers := w.heap.size } := ⟨_, rfl⟩
          obtain ⟨W1, hW1⟩ : ∃ W1, (w.alloc (.deferred (some []))).alloc (.loop (rec .ready none)) = W1 := ⟨_, rfl⟩
          have hsz1 : W1.heap.size = w.heap.size + 2 := by rw [← hW1]; simp
          have hL1 : W1.heap[w.heap.size + 1]? = some (.loop (rec .ready none)) := by
            grind [World.alloc_heap_new]
          have hK1 : W1.heap[w.heap.size]? = some (.deferred (some [])) := by
            rw [← hW1]; exact (Below.heap_alloc _ _ _ (by simp)).trans (World.alloc_heap_new w _)
          have hg1 : w.grownBy W1 none := by
            rw [← hW1]
            have g1 := World.grownBy_alloc w (.deferred (some [])) none
            have g2 := World.grownBy_alloc (w.alloc (.deferred (some []))) (.loop (rec .ready none)) none
            exact ⟨g2.os.trans g1.os, g2.tape.trans g1.tape, g2.output.trans g1.output, Nat.le_trans g1.size g2.size, fun k hk hne => (g2.block k (Nat.lt_of_lt_of_le hk g1.size) hne).trans (g1.block k hk hne)⟩
          have hMb : ∀ D, ({ target := .collected D, args := #[] } : Deferred) ∈ a.defers → D < w.heap.size := by
            have hdr : Marks S.lo w a.defers := by have := r.defers; rw [hfd] at this; exact this
            have key : ∀ {ds : List Deferred}, Marks S.lo w ds → ∀ D, ({ target := .collected D, args := #[] } : Deferred) ∈ ds → D < w.heap.size := by
              intro ds
              induction ds with
              | nil => simp
              | cons d ds ih =>
                rintro ⟨⟨D0, h1, _, h2, _⟩, h3⟩ D hD
                grind
            exact key hdr
          have hm1 : Defs S.fd S.lo W1 a.defers := r.defers.step fun D hD hd => (hg1.block D (hMb D hD) (by simp)).trans hd
          have r1 := r0.grown hg1 (fun _ hb => by grind) hm1
          have hgr1 : Grows w ω W1 ω := ⟨fun b i hi v hv => by
            obtain ⟨cs, t, fr, hb⟩ := cells_of_at hv
            have hb' : W1.heap[b]? = some (.cells cs t fr) := (hg1.block b (Array.getElem?_eq_some_iff.1 hb).1 (by simp)).trans hb
            refine ⟨?_, hi⟩
            rw [at?_block hb', ← at?_block hb]
            omega⟩
          refine ⟨w.heap.size + 1, [{ target := .collected w.heap.size, args := #[] }], W1, { target := .fn (.func f') #[.pointer (some ⟨Bs', 0, none⟩)], args := #[.func (.yield (w.heap.size + 1)) #[] #[]] }, W1, f',
            #[.func (.yield (w.heap.size + 1)) #[] #[], .pointer (some ⟨Bs', 0, none⟩)], W1, ?_, ?_, fun _ _ => trivial, ?_, fun h => by simp, ?_⟩
          · rw [← hW1, hrec]; exact run_enterLoop_outer _ _ _ _ _
          · simp only [resolve, hge]
            simp [go_sem]
          · obtain ⟨bd, hbd⟩ := Option.isSome_iff_exists.1 i12
            simp [invoke, callFunc, i11, i13, hbd]
          · have hD1 : w0.heap.size ≤ w.heap.size := r.keeps.size
            have hBs1 : W1.heap[Bs']? = w.heap[Bs']? := hg1.block Bs' hBlt (by simp)
            have addMark : ∀ {st2 : St} {W4 : World} {ω4 : Nat → Nat} {β4 : Nat → Option Nat}, Rel C.gl N w0 ω0 S (get? st2.env) (look st2.objs) a W4 ω4 β4 → W4.heap[w.heap.size]? = some (.deferred (some [])) →
                Rel C.gl N w0 ω0 S (get? st2.env) (look st2.objs) { a with defers := [{ target := .collected w.heap.size, args := #[] }] ++ a.defers } W4 ω4 β4 := fun h4 hD4 =>
              ⟨h4.size, by
                have hd4 := h4.defers
                rw [hfd] at hd4 ⊢
                exact ⟨⟨w.heap.size, rfl, Nat.le_trans hlo hD1, hD4, fun D' hD' => by have := hMb D' hD'; omega⟩, hd4⟩, h4.env, h4.obj, h4.inj, h4.keeps, h4.mine, h4.gl, h4.inv⟩
            refine (back_run (n := 2 - 1) i1 i2 i3 i4 i5 i6 i7 i10 us hlen hbase (fun m hm => (hus m hm).1) (l := w.heap.size + 1)
              (J := fun m W => ∃ (s : St) (ω' : Nat → Nat) (β' : Nat → Option Nat), rounds (run C n vasg) (run C n vbody) (dropsOf vasg ++ dropsOf vbody) (dropsOf vbody) ie.size (isAggB P e) p' q' rows m s = some (ex, st') ∧ Rel C.gl N w0 ω0 S (get? s.env) (look s.objs) a W ω' β' ∧
                (∀ j, look s.objs j ≠ none → β' j ≠ some Bs') ∧ Grows w ω W ω' ∧ W.heap[Bs']? = w.heap[Bs']? ∧ W.heap[w.heap.size + 1]? = some (.loop (rec .ready none)) ∧ W.heap[w.heap.size]? = some (.deferred (some [])))
              (Jx := fun W => ∃ c, ((ex = .ret ∧ c = .ret) ∨ ∃ id, ex = .exit id ∧ c = .exit id) ∧ (∃ ω' β', Rel C.gl N w0 ω0 S (get? st'.env) (look st'.objs) a W ω' β') ∧ W.heap[w.heap.size + 1]? = some (.loop (rec .done (some c))) ∧ W.heap[w.heap.size]? = some (.deferred (some [])))
              ⟨by rw [World.cell?_of_block hBs1]; exact hbox, fun m hml j v hj => (hgr1.pub b _ ((hus m hml).2.2 j v hj).2 v ((hus m hml).2.2 j v hj).1).1⟩ ?_ ⟨st0, ω, β, h, r1, hnb0, hgr1, hBs1, hL1, hK1⟩).mono ?_
            · -- one round
              rintro m hml W2 ⟨s2, ω2, β2, hr2, ra, nb, hgr, hBs2, hl2, hd2⟩
              simp only [rounds] at hr2
              cases hrow : rows[m]? with
              | none => rw [hrow] at hr2; cases hr2
              | some row =>
                rw [hrow] at hr2
                simp only at hr2
                cases hrl : (row.length == ie.size) with
                | false => grind
                | true =>
                  rw [hrl] at hr2
                  simp only [cond_true] at hr2
                  cases hav : asV (isAggB P e) (row.map W.c) with
                  | none => grind
                  | some v =>
                    rw [hav] at hr2
                    simp only at hr2
                    have ras := ra.scrubSt (ks := dropsOf vasg ++ dropsOf vbody) fun j hj hkept => by
                      have h1 := hS j hkept
                      have h2 := hdr j hj
                      omega
                    have hsc : ∀ j, j ∈ dropsOf vasg ++ dropsOf vbody → look (s2.scrub (dropsOf vasg ++ dropsOf vbody)).objs j = none := fun j hj => scrub_gone hj
                    have nbs : ∀ j, look (s2.scrub (dropsOf vasg ++ dropsOf vbody)).objs j ≠ none → β2 j ≠ some Bs' := fun j hj => nb j fun e0 => by
                      apply hj
                      unfold St.scrub
                      cases s2.objs.any (fun x => x.2.isSome && (dropsOf vasg ++ dropsOf vbody).contains x.1) with
                      | false => grind
                      | true =>
                        simp only [cond_true]
                        rw [look_scrub, e0]
                        simp
                    generalize hs3 : s2.scrub (dropsOf vasg ++ dropsOf vbody) = s3 at hr2 ras hsc nbs
                    cases hfa : run C n vasg ⟨put (put s3.env p' (.sc (.c (.int .i64 m)))) q' v, s3.objs⟩ with
                    | none => rw [hfa] at hr2; cases hr2
                    | some qa =>
                      obtain ⟨ea, s4⟩ := qa
                      rw [hfa] at hr2
                      cases ea with
                      | exit _ => grind
                      | ret => grind
                      | normal =>
                        simp only at hr2
                        cases hdb : (dropsOf vbody).all (fun k => (look s4.objs k).isNone) with
                        | false => grind
                        | true =>
                          rw [hdb] at hr2
                          simp only [cond_true] at hr2
                          cases hfb : run C n vbody s4 with
                          | none => grind
                          | some qb =>
                            obtain ⟨eb, s5⟩ := qb
                            rw [hfb] at hr2
                            obtain ⟨hu1, hu2, hu3⟩ := hus m hml
                            have hy := run_yield (P := P) (args := #[.int .i64 (m : Int), packV (isAggB P e) (us m)]) hl2 (by grind)
                            -- the round's own act
                            have rb0 : Rel C.gl N w0 ω0 S (get? s3.env) (look s3.objs) { a with defers := [] } W2 ω2 β2 := ⟨ras.size, by rw [hfd]; trivial, ras.env, ras.obj, ras.inj, ras.keeps, ras.mine, ras.gl, ras.inv⟩
                            have hre : RV W2 ω2 β2 (look s3.objs) v (packV (isAggB P e) (us m)) := asV_ok hav ((hu2 row hrow).grow hgr)
                            have rb := (rb0.put (d := p') (v := .sc (.c (.int .i64 m))) (vv := .int .i64 (m : Int)) (Nat.le_of_ble_eq_true hpN) (by rfl)).put (d := q') (v := v) (vv := packV (isAggB P e) (us m)) (Nat.le_of_ble_eq_true hqN) hre
                            rw [← get?_put_fun, ← get?_put_fun] at rb
                            have hkA : ∀ j, (roundFr W2 β2 (look s3.objs) S.kept S.lo S.fd).kept j → j ∉ dropsOf vasg := by
                              rintro j (hj | hj) hmem <;> grind
                            have hact : ({ tmps := ((rec .ready none).params.zip #[Value.int .i64 (m : Int), packV (isAggB P e) (us m)]).foldl (fun tmps (t, v) => tmps.setIfInBounds t v) (rec .ready none).tmps, defers := [] } : Act) =
                                (({ a with defers := [] } : Act).put (some p') (.int .i64 (m : Int))).put (some q') (packV (isAggB P e) (us m)) := by
                              rw [hrec]
                              simp [Act.put]
                            have hlt0 : w.heap.size + 1 < W2.heap.size := (Array.getElem?_eq_some_iff.1 hl2).1
                            refine ⟨_, _, _, _, hy, roundIn_of_wpIn (F := Fence.wide) trivial ?_⟩
                            rw [hact]
                            have has : (rec .ready none).assign = asg := by grind
                            have hbd : (rec .ready none).body = body := by rw [hrec]
                            rw [has, hbd]
                            refine wpIn_mono (run_okIn hC hP hnA hmA hkA hfa rb.rebase) ?_
                            rintro e2 a3 W3 ⟨rfl, ω3, β3, h3⟩
                            have ra3 := ras.compose h3 (marks_round ras h3)
                            have rb3 := rb.compose2 h3
                            have hl3 : W3.heap[w.heap.size + 1]? = some (.loop (rec .ready none)) := noncell_same ras h3 hl2 rfl
                            have hd3 : W3.heap[w.heap.size]? = some (.deferred (some [])) := noncell_same ras h3 hd2 rfl
                            refine ⟨_, run_beginRound hl3 (by grind), ?_⟩
                            have ra4 := ra3.put0 (Go.Obj.loop { rec .ready none with state := .busy }) hl3 rfl (by omega) (by simp)
                            have rb4 := rb3.put0 (Go.Obj.loop { rec .ready none with state := .busy }) hl3 rfl (by omega) (by simp)
                            have hl4 : (W3.putObj (w.heap.size + 1) (.loop { rec .ready none with state := .busy })).heap[w.heap.size + 1]? = some (.loop { rec .ready none with state := .busy }) := World.putObj_heap_same (Array.getElem?_eq_some_iff.1 hl3).1
                            have hd4 : (W3.putObj (w.heap.size + 1) (.loop { rec .ready none with state := .busy })).heap[w.heap.size]? = some (.deferred (some [])) := (World.putObj_heap_other (by omega)).trans hd3
                            have hg4 : Grows W3 ω3 (W3.putObj (w.heap.size + 1) (.loop { rec .ready none with state := .busy })) ω3 := grows_put hl3 rfl
                            have hB4 : (W3.putObj (w.heap.size + 1) (.loop { rec .ready none with state := .busy })).heap[Bs']? = W3.heap[Bs']? := World.putObj_heap_other (by omega)
                            have hs4 : (W3.putObj (w.heap.size + 1) (.loop { rec .ready none with state := .busy })).heap.size = W3.heap.size := by simp
                            generalize W3.putObj (w.heap.size + 1) (.loop { rec .ready none with state := .busy }) = W4 at ra4 rb4 hl4 hd4 hg4 hB4 hs4 ⊢
                            have hkB : ∀ j, (roundFr W4 β3 (look s4.objs) S.kept S.lo S.fd).kept j → j ∉ dropsOf vbody := by
                              rintro j (hj | hj) hmem <;> grind [Option.isNone_iff_eq_none]
                            refine wpIn_mono (run_okIn hC hP hnB hmB hkB hfb rb4.rebase) ?_
                            rintro e5 a5 W5 ⟨rfl, ω5, β5, h5⟩
                            have ra5 := ra4.compose h5 (marks_round ra4 h5)
                            have hl5 := noncell_same ra4 h5 hl4 rfl
                            have hd5 := noncell_same ra4 h5 hd4 rfl
                            have nb3 : ∀ j, look s4.objs j ≠ none → β3 j ≠ some Bs' := fun j hj e0 => by
                              rcases h3.mine j Bs' hj e0 with ⟨j', h1, h2⟩ | h1 <;> grind
                            have hz3 : W2.heap.size ≤ W3.heap.size := h3.keeps.size
                            have nb5 : ∀ j, look s5.objs j ≠ none → β5 j ≠ some Bs' := fun j hj e0 => by
                              rcases h5.mine j Bs' hj e0 with ⟨j', h1, h2⟩ | h1 <;> grind
                            have hB3 : W3.heap[Bs']? = W2.heap[Bs']? := (h3.keeps.same Bs' (by omega) (by rintro ⟨j, h1, h2⟩; grind)).1
                            have hB5 : W5.heap[Bs']? = W4.heap[Bs']? := (h5.keeps.same Bs' (by omega) (by rintro ⟨j, h1, h2⟩; grind)).1
                            have hg5 : Grows W2 ω2 W5 ω5 := (h3.keeps.grows.trans hg4).trans h5.keeps.grows
                            -- the record at the round's end
                            have fin : ∀ jump : Option Code, ∃ W6, (Instr.endRound (w.heap.size + 1) jump).run P W5 = .ok (.bool jump.isNone) W6 ∧ Rel C.gl N w0 ω0 S (get? s3.env) (look s5.objs) a W6 ω5 β5 ∧
                                W6.heap[w.heap.size + 1]? = some (.loop (rec (if jump.isNone then .ready else .done) jump)) ∧ W6.heap[w.heap.size]? = some (.deferred (some [])) ∧ Grows W2 ω2 W6 ω5 ∧ W6.heap[Bs']? = W2.heap[Bs']? := by
                              intro jump
                              refine ⟨_, run_endRound jump hl5, ra5.put0 _ hl5 rfl (by omega) (by simp), ?_, (World.putObj_heap_other (by omega)).trans hd5, hg5.trans (grows_put hl5 rfl), (World.putObj_heap_other (by omega)).trans (hB5.trans (hB4.trans hB3))⟩
                              grind [World.putObj_heap_same]
                            have kp : ∀ {W6 : World}, Grows W2 ω2 W6 ω5 → W6.heap[Bs']? = W2.heap[Bs']? → KpB Bs' b off (rows.length * ie.size) W2 W6 := by
                              intro W6 hg6 hB6
                              refine ⟨fun v hv => by grind [World.cell?_of_block], fun k hk v hv => ?_⟩
                              have hsz : 0 < ie.size := by
                                grind
                              have hm' : k / ie.size < rows.length := Nat.div_lt_of_lt_mul (by grind)
                              obtain ⟨g1, _, g3⟩ := hus (k / ie.size) hm'
                              have hj : k % ie.size < (us (k / ie.size)).length := by rw [g1]; exact Nat.mod_lt _ hsz
                              obtain ⟨q1, q2⟩ := g3 (k % ie.size) _ (List.getElem?_eq_getElem hj)
                              have hko : k / ie.size * ie.size + k % ie.size = k := Nat.div_add_mod' k ie.size
                              rw [hko] at q1 q2
                              exact (hg6.pub b (off + k) (hgr.pub b _ q2 _ q1).2 v hv).1
                            cases eb with
                            | normal =>
                              obtain ⟨W6, f1, f2, f3, f4, f5, f6⟩ := fin none
                              exact ⟨_, W6, f1, .inl ⟨rfl, ⟨⟨s3.env, s5.objs⟩, ω5, β5, hr2, f2, nb5, hgr.trans f5, f6.trans hBs2, f3, f4⟩, kp f5 f6⟩⟩
                            | exit id =>
                              obtain ⟨W6, f1, f2, f3, f4, f5, f6⟩ := fin (some (.exit id))
                              simp only [Option.some.injEq, Prod.mk.injEq] at hr2
                              obtain ⟨rfl, rfl⟩ := hr2
                              exact ⟨_, W6, f1, .inr ⟨rfl, .exit id, .inr ⟨id, rfl, rfl⟩, ⟨ω5, β5, f2⟩, f3, f4⟩⟩
                            | ret =>
                              obtain ⟨W6, f1, f2, f3, f4, f5, f6⟩ := fin (some .ret)
                              simp only [Option.some.injEq, Prod.mk.injEq] at hr2
                              obtain ⟨rfl, rfl⟩ := hr2
                              exact ⟨_, W6, f1, .inr ⟨rfl, .ret, .inl ⟨rfl, rfl⟩, ⟨ω5, β5, f2⟩, f3, f4⟩⟩
            · rintro e' W2 ⟨⟨v, rfl⟩, ⟨s2, ω2, β2, hr2, h2, _, _, _, hl2, hd2⟩ | ⟨c, hc, ⟨ω2, β2, h2⟩, hl2, hd2⟩⟩
              · simp only [rounds, Option.some.injEq, Prod.mk.injEq] at hr2
                obtain ⟨rfl, rfl⟩ := hr2
                have hend := run_endLoop (P := P) hl2 (by grind)
                refine ⟨_, _, hend, ?_⟩
                have hpn : (rec .ready none).pending = none := by grind
                rw [hpn]
                exact hQ _ _ ω2 β2 (addMark (h2.put0 _ hl2 rfl (by omega) (by simp)) ((World.putObj_heap_other (by omega)).trans hd2))
              · have hend := run_endLoop (P := P) hl2 (by grind)
                have hfin := hQ _ _ ω2 β2 (addMark (h2.put0 (Go.Obj.loop { rec .done (some c) with state := .exhausted }) hl2 rfl (by omega) (by simp)) ((World.putObj_heap_other (by omega)).trans hd2))
                generalize W2.putObj (w.heap.size + 1) (Go.Obj.loop { rec .done (some c) with state := .exhausted }) = W4 at hend hfin
                refine ⟨_, W4, hend, ?_⟩
                have hpn : (rec .done (some c)).pending = some c := by grind
                rw [hpn]
                rcases hc with ⟨rfl, rfl⟩ | ⟨id, rfl, rfl⟩
                · exact wpIn_ret hfin
                · exact wpIn_exit hfin
      grind
  grind

/-- What a frame must grant a code: no range over a function and its objects dropped nowhere, or a plain frame. -/
def RunH (S : Fr) (w0 : World) (vc : VCode) : Prop := (noB vc = true ∧ ∀ k, S.kept k → k ∉ dropsOf vc) ∨ ((∀ k, S.kept k → k < 64) ∧ S.lo ≤ w0.heap.size ∧ S.fd = none)

theorem RunH.sub {x y : VCode} (h : RunH S w0 x) (hb : noB x = true → noB y = true) (hd : ∀ k, k ∈ dropsOf y → k ∈ dropsOf x) : RunH S w0 y := by
  rcases h with ⟨h1, h2⟩ | h
  · exact .inl ⟨hb h1, fun k hk hm => h2 k hk (hd k hm)⟩
  · exact .inr h

/-- Code does what its evaluator says. -/
theorem run_okG (hC : OracleOk P C) (hP : P.follows .mixedOrders = true) {n : Nat} : ∀ {c : Code} {vc : VCode}, RunH S w0 vc → mCode P N c vc = true → ∀ {s s' : St} {ex : Ex}, run C n vc s = some (ex, s') →
    ∀ {a : Act} {w : World} {ω : Nat → Nat} {β : Nat → Option Nat}, Rel C.gl N w0 ω0 S (get? s.env) (look s.objs) a w ω β → ∀ {Q : Exit → Act → World → Prop}, (∀ a w ω β, Rel C.gl N w0 ω0 S (get? s'.env) (look s'.objs) a w ω β → Q ex.out a w) → c.wp P Q a w := by
  intro c vc
  induction vc generalizing c with
  | skip =>
    intro hG hm s s' ex h a w ω β r Q hQ
    simp only [run, Option.some.injEq, Prod.mk.injEq] at h
    obtain ⟨rfl, rfl⟩ := h
    cases c <;> simp only [mCode, Bool.false_eq_true] at hm
    · exact wp_skip (hQ a w ω β r)
    · exact wp_label (hQ a w ω β r)
  | region drop vops chk live =>
    intro hG hm s s' ex h a w ω β r Q hQ
    cases c <;> simp only [mCode, Bool.false_eq_true] at hm
    simp only [Bool.and_eq_true] at hm
    simp only [run] at h
    split at h
    · rename_i s2 hs2
      simp only [Option.some.injEq, Prod.mk.injEq] at h
      obtain ⟨rfl, rfl⟩ := h
      refine runOps_ok (ω := ω) (β := β) hC hP hm.1 hs2 ?_ fun a w ω β r' => hQ a w ω β (r'.liveSt live)
      split
      omega
      · exact r.scrubSt fun k hk hkept => by
          have := Nat.le_of_ble_eq_true (List.all_eq_true.1 hm.2 k hk)
          rcases hG with ⟨_, hG⟩ | ⟨hG, _⟩
          · exact hG k hkept hk
          · have := hG k hkept
            omega
    · cases h
  | seq x y ihx ihy =>
    intro hG hm s s' ex h a w ω β r Q hQ
    cases c <;> simp only [mCode, Bool.false_eq_true] at hm
    simp only [Bool.and_eq_true] at hm
    simp only [run] at h
    cases hx : run C n x s with
    | none => grind
    | some q =>
      obtain ⟨e1, s1⟩ := q
      rw [hx] at h
      have hGy : RunH S w0 y := hG.sub (by grind [noB]) (by grind [dropsOf])
      refine wp_seq (ihx (hG.sub (by grind [noB]) (by grind [dropsOf])) hm.1 hx r fun a1 w1 ω1 β1 r1 => ?_)
      cases e1 with
      | normal => exact ihy hGy hm.2 h r1 hQ
      | exit id =>
        simp only [Option.some.injEq, Prod.mk.injEq] at h
        obtain ⟨rfl, rfl⟩ := h
        exact hQ a1 w1 ω1 β1 r1
      | ret =>
        simp only [Option.some.injEq, Prod.mk.injEq] at h
        obtain ⟨rfl, rfl⟩ := h
        exact hQ a1 w1 ω1 β1 r1
  | cond cc x y ihx ihy =>
    intro hG hm s s' ex h a w ω β r Q hQ
    cases c <;> simp only [mCode, Bool.false_eq_true] at hm
    simp only [Bool.and_eq_true] at hm
    simp only [run] at h
    have hv := mOpd_ok r hm.1.1
    have g1 : RunH S w0 x := hG.sub (by grind [noB]) (by grind [dropsOf])
    have g2 : RunH S w0 y := hG.sub (by grind [noB]) (by grind [dropsOf])
    grind [RV, RV1, RW, RD, wp_cond]
  | block id x ih =>
    intro hG hm s s' ex h a w ω β r Q hQ
    cases c <;> simp only [mCode, Bool.false_eq_true] at hm
    simp only [Bool.and_eq_true, beq_iff_eq] at hm
    obtain ⟨rfl, hm⟩ := hm
    simp only [run] at h
    cases hx : run C n x s with
    | none => rw [hx] at h; cases h
    | some q =>
      obtain ⟨e1, s1⟩ := q
      rw [hx] at h
      refine wp_block (ih (hG.sub (fun h => h) (fun _ h => h)) hm hx r fun a1 w1 ω1 β1 r1 => ?_)
      cases e1 with
      | normal =>
        simp only [Option.some.injEq, Prod.mk.injEq] at h
        obtain ⟨rfl, rfl⟩ := h
        exact hQ a1 w1 ω1 β1 r1
      | exit id' =>
        grind [Ex.out, Exit.inBlock]
      | ret =>
        simp only [Option.some.injEq, Prod.mk.injEq] at h
        obtain ⟨rfl, rfl⟩ := h
        exact hQ a1 w1 ω1 β1 r1
  | loop x ih =>
    intro hG hm s s' ex h a w ω β r Q hQ
    cases c <;> simp only [mCode, Bool.false_eq_true] at hm
    rename_i body
    simp only [run] at h
    -- rounds
    have key : ∀ (m : Nat) {s : St} {a : Act} {w : World} {ω : Nat → Nat} {β : Nat → Option Nat}, iter (run C n x) m s = some (ex, s') → Rel C.gl N w0 ω0 S (get? s.env) (look s.objs) a w ω β →
        ∀ (b : Frame) (k : List Item) (cs : List Frame), ∃ e a' w', Q e a' w' ∧ Arrives P (lone (b.at a (.code body :: .inLoop body :: k)) cs w) b k cs e a' w' := by
      intro m
      induction m with
      | zero => grind [iter]
      | succ m ihm =>
        intro s a w ω β h r b k cs
        simp only [iter] at h
        cases hx : run C n x s with
        | none => grind
        | some q =>
          obtain ⟨e1, s1⟩ := q
          rw [hx] at h
          have hwp := ih (hG.sub (fun h => h) (fun _ h => h)) hm hx r (Q := fun e a1 w1 => e = e1.out ∧ ∃ ω1 β1, Rel C.gl N w0 ω0 S (get? s1.env) (look s1.objs) a1 w1 ω1 β1) fun a1 w1 ω1 β1 r1 => ⟨rfl, ω1, β1, r1⟩
          obtain ⟨e, a1, w1, ⟨rfl, ω1, β1, r1⟩, harr⟩ := hwp b (.inLoop body :: k) cs
          cases e1 with
          | normal =>
            obtain ⟨e2, a2, w2, hq2, harr2⟩ := ihm h r1 b k cs
            exact ⟨e2, a2, w2, hq2, .of_steps (Steps.trans harr (.one step_inLoop)) harr2⟩
          | exit id =>
            simp only [Option.some.injEq, Prod.mk.injEq] at h
            obtain ⟨rfl, rfl⟩ := h
            exact ⟨_, a1, w1, hQ a1 w1 ω1 β1 r1, .pass (x := .inLoop body) rfl (fun _ _ => .inl (by simp [Ex.out])) harr⟩
          | ret =>
            simp only [Option.some.injEq, Prod.mk.injEq] at h
            obtain ⟨rfl, rfl⟩ := h
            exact ⟨_, a1, w1, hQ a1 w1 ω1 β1 r1, .pass (x := .inLoop body) rfl (fun _ _ => .inl (by simp [Ex.out])) harr⟩
    intro b k cs
    obtain ⟨e, a', w', hq, harr⟩ := key n h r b k cs
    exact ⟨e, a', w', hq, .of_steps (.one step_loop) harr⟩
  | exit id =>
    intro hG hm s s' ex h a w ω β r Q hQ
    cases c <;> simp only [mCode, Bool.false_eq_true] at hm
    simp only [beq_iff_eq] at hm
    subst hm
    simp only [run, Option.some.injEq, Prod.mk.injEq] at h
    obtain ⟨rfl, rfl⟩ := h
    exact wp_exit (hQ a w ω β r)
  | ret =>
    intro hG hm s s' ex h a w ω β r Q hQ
    cases c <;> simp only [mCode, Bool.false_eq_true] at hm
    simp only [run, Option.some.injEq, Prod.mk.injEq] at h
    obtain ⟨rfl, rfl⟩ := h
    exact wp_ret (hQ a w ω β r)
  | rangeB x f s ag p q asg body _ _ =>
    intro hG hm s s' ex h a w ω β r Q hQ
    cases c <;> first | (simp only [mCode, Bool.false_eq_true] at hm; done) | skip
    rename_i g ps asg' body'
    obtain ⟨l⟩ := ps
    rcases l with _ | ⟨p', _ | ⟨q', _ | ⟨_, _⟩⟩⟩ <;> first | (simp [mCode] at hm; done) | exact (hG.elim (fun h => absurd h.1 (by simp [noB])) fun ⟨hS, hlo, hfd⟩ => range_ok hC hP hS hlo hfd hm h r hQ)
  | melt k x ih =>
    intro hG hm s s' ex h a w ω β r Q hQ
    simp only [run] at h
    obtain ⟨ω', r'⟩ := r.meltSt k
    have hG' : RunH S w0 x := hG.sub (by grind [noB]) (fun _ h => h)
    by_cases hc : ∃ c', c = .scope c'
    · obtain ⟨c', rfl⟩ := hc
      simp only [mCode, Bool.and_eq_true] at hm
      refine wp_scope_straight (ih hG' hm.2 h r' fun a w ω β r => ?_)
      have := hQ a w ω β r
      cases ex <;> exact this
    · have hm' : mCode P N c x = true := by cases c <;> first | exact hm | exact absurd ⟨_, rfl⟩ hc
      grind
  | bad =>
    grind [run]

theorem run_ok (hC : OracleOk P C) (hP : P.follows .mixedOrders = true) (hS : ∀ k, S.kept k → k < 64) (hlo : S.lo ≤ w0.heap.size) {n : Nat} {c : Code} {vc : VCode} (hm : mCode P N c vc = true) {s s' : St} {ex : Ex} (h : run C n vc s = some (ex, s'))
    {a : Act} {w : World} {ω : Nat → Nat} {β : Nat → Option Nat} (r : Rel C.gl N w0 ω0 S (get? s.env) (look s.objs) a w ω β) {Q : Exit → Act → World → Prop} (hQ : ∀ a w ω β, Rel C.gl N w0 ω0 S (get? s'.env) (look s'.objs) a w ω β → Q ex.out a w) (hfd : S.fd = none := by rfl) : c.wp P Q a w :=
  run_okG hC hP (.inr ⟨hS, hlo, hfd⟩) hm h r hQ

end
end Go.Vs

/- The value semantics, 26: functions. -/
namespace Go.Vs
open Go

def enumF {α : Type} : Nat → List α → List (Nat × α)
  | _, [] => []
  | i, x :: r => (i, x) :: enumF (i + 1) r

def packR : List V → V
  | [v] => v
  | vs => .tu vs

def notTu : V → Bool
  | .tu _ => false
  | _ => true

/-- What a function hands back: its values, and the objects ks under new names. -/
def export1 (L : Nat → Option Obj) (ks : List Nat) (vs : List V) : Option (V × List Obj) :=
  match listM L ks with
  | none => none
  | some os => some (packR (vs.map (V.ren (indexIn ks))), os.map (Obj.ren (indexIn ks)))

def resV (s : St) : VRes → Option V
  | .tmp t => get? s.env t
  | .cell t ag n => (exec1 ⟨fun _ _ _ => none, fun _ => []⟩ (get? s.env) (look s.objs) 0 (.load ag n (.t t))).map (·.1)

def finish (keep : Bool) (m : Nat) (rs : List VRes) (s : St) : Option (V × List Obj) :=
  match listM (resV s) rs with
  | none => none
  | some vs =>
    bif vs.all notTu then
      bif keep then
        export1 (look s.objs) (List.range m ++ (reach (look s.objs) (vs.flatMap V.refs ++ (List.range m).flatMap fun k => match look s.objs k with | some o => o.refs | none => [])).filter fun k => Nat.ble 64 k) vs
      else match listM (V.toR (look s.objs)) vs with
        | none => none
        | some ds => bif vs.all (fun v => v.cells.all fun x => (W.ids (look s.objs) deep x).all fun k => Nat.ble 64 k) then export1 (look s.objs) (List.range m) ds else none
    else none

/-- The functions of a table; those outside of it by X. -/
def evalFn (T : FuncId → Option VFun) (X : Oracle) (gl : Nat → List Cell) : Nat → Oracle
  | 0, _, _, _ => none
  | n + 1, f, args, objs => match T f with
    | none => X f args objs
    | some vf => bif args.length == vf.nparams && Nat.ble objs.length 64 then
        match run ⟨evalFn T X gl n, gl⟩ n vf.body ⟨enumF 0 args, enumF 0 (objs.map some)⟩ with
        | some (.exit _, _) => none
        | some (_, s) => finish vf.keep objs.length vf.results s
        | none => none
      else none

def mRes (P : Program) : List ResultVar → List VRes → Bool
  | [], [] => true
  | .tmp t :: r, .tmp t' :: r' => t == t' && mRes P r r'
  | .cell t ty :: r, .cell t' ag n :: r' => t == t' && tyOk P ty n && isAggB P ty == ag && mRes P r r'
  | _, _ => false

def mFun (P : Program) (f : FuncId) (vf : VFun) : Bool := match P.funcs[f]? with
  | some fn => !(fn.name == "runtime.NumGoroutine") && (match fn.body with
    | some c => mCode P fn.ntmps c vf.body && mRes P fn.results.toList vf.results && Nat.ble vf.nparams fn.ntmps
    | none => false)
  | none => false

section
variable {P : Program} {C : Ctx} {N : Nat} {w0 : World} {ω0 : Nat → Nat} {S : Fr} {E : Nat → Option V} {L : Nat → Option Obj} {a : Act} {w : World} {ω : Nat → Nat} {β : Nat → Option Nat}

theorem get?_enumF {α : Type} : ∀ (l : List α) (i k : Nat), get? (enumF i l) k = if i ≤ k then l[k - i]? else none
  | [], i, k => by simp [enumF, get?]
  | x :: r, i, k => by
    simp only [enumF, get?]
    cases h : (i == k) with
    | true =>
      grind
    | false =>
      have hne : i ≠ k := by grind
      simp only [cond_false, get?_enumF r (i + 1) k]
      grind

theorem get?_enum0 {α : Type} (l : List α) (k : Nat) : get? (enumF 0 l) k = l[k]? := by simp [get?_enumF]

theorem look_enum (objs : List Obj) : look (enumF 0 (objs.map some)) = Lof objs := by
  grind [look, get?_enum0, Lof]

theorem RVs_get : ∀ {xs : List V} {vs : List Value}, RVs w ω β L xs vs → xs.length = vs.length ∧ ∀ (i : Nat) (x : V), xs[i]? = some x → ∃ v, vs[i]? = some v ∧ RV1 w ω β L x v
  | [], [], _ => ⟨rfl, fun i x h => by grind⟩
  | [], _ :: _, h => h.elim
  | _ :: _, [], h => h.elim
  | y :: xs, v :: vs, h => by
    obtain ⟨h1, h2⟩ := RVs_get h.2
    refine ⟨by grind, fun i x hi => ?_⟩
    cases i with
    | zero =>
      simp only [List.getElem?_cons_zero, Option.some.injEq] at hi
      subst hi
      exact ⟨v, rfl, h.1⟩
    | succ i => grind

theorem RV_of1 {x : V} {v : Value} (h : RV1 w ω β L x v) : RV w ω β L x v := by
  cases x with
  | tu l => exact h.elim
  | _ => exact h

theorem RV1_of {x : V} {v : Value} (hx : notTu x = true) (h : RV w ω β L x v) : RV1 w ω β L x v := by
  cases x with
  | tu l => cases hx
  | _ => exact h

/-- How a result variable is read. -/
def resSem (tmps : Array Value) : ResultVar → Sem Value
  | .tmp t => pure (tmps.getD t undef)
  | .cell a t => do loadVar t (← asAddr (tmps.getD a undef))

theorem exec1_load_gl {C C' : Ctx} {E : Nat → Option V} {L : Nat → Option Obj} {oid n t : Nat} {ag : Bool} : exec1 C E L oid (.load ag n (.t t)) = exec1 C' E L oid (.load ag n (.t t)) := rfl

/-- The values of the results' variables. -/
theorem listM_res {s : St} (r : Rel C.gl N w0 ω0 S (get? s.env) (look s.objs) a w ω β) : ∀ {rs : List ResultVar} {vrs : List VRes} {vs : List V}, mRes P rs vrs = true → listM (resV s) vrs = some vs → vs.all notTu = true →
    ∃ us : List Value, (rs.mapM (resSem a.tmps)).run P w = .ok us w ∧ us.length = rs.length ∧ RVs w ω β (look s.objs) vs us
  | [], [], vs, _, h, _ => by simp [listM] at h; subst h; exact ⟨[], by simp, rfl, trivial⟩
  | [], _ :: _, _, h, _, _ => by simp [mRes] at h
  | .tmp _ :: _, [], _, h, _, _ => by simp [mRes] at h
  | .cell .. :: _, [], _, h, _, _ => by simp [mRes] at h
  | .cell .. :: _, .tmp _ :: _, _, h, _, _ => by simp [mRes] at h
  | .tmp _ :: _, .cell .. :: _, _, h, _, _ => by simp [mRes] at h
  | .tmp t :: rs, .tmp t' :: vrs, vs, hm, h, hn => by
    simp only [mRes, Bool.and_eq_true, beq_iff_eq] at hm
    obtain ⟨rfl, hm⟩ := hm
    simp only [listM, resV] at h
    cases hx : get? s.env t with
    | none => grind
    | some x =>
      simp only [hx] at h
      cases hl : listM (resV s) vrs with
      | none => grind
      | some vs' =>
        simp only [hl, Option.some.injEq] at h
        subst h
        simp only [List.all_cons, Bool.and_eq_true] at hn
        obtain ⟨us, h1, h2, h3⟩ := listM_res r hm hl hn.2
        refine ⟨a.tmps.getD t undef :: us, ?_, by grind, RV1_of hn.1 (r.env t x hx).2, h3⟩
        grind [resSem, Sem.run_bind, Result.andThen_ok, Sem.run_pure]
  | .cell t ty :: rs, .cell t' ag n :: vrs, vs, hm, h, hn => by
    simp only [mRes, Bool.and_eq_true, beq_iff_eq] at hm
    obtain ⟨⟨⟨rfl, hty⟩, rfl⟩, hm⟩ := hm
    obtain ⟨hu, i, hi, rfl⟩ := tyOk_ok hty
    simp only [listM, resV] at h
    cases hx : exec1 ⟨fun _ _ _ => none, fun _ => []⟩ (get? s.env) (look s.objs) 0 (.load (isAggB P ty) i.size (.t t)) with
    | none => grind
    | some q =>
      obtain ⟨x, u⟩ := q
      simp only [hx, Option.map_some] at h
      cases hl : listM (resV s) vrs with
      | none => grind
      | some vs' =>
        simp only [hl, Option.some.injEq] at h
        subst h
        simp only [List.all_cons, Bool.and_eq_true] at hn
        obtain ⟨us, h1, h2, h3⟩ := listM_res r hm hl hn.2
        rw [exec1_load_gl (C' := C)] at hx
        obtain ⟨_, b, off, vv, he, hrun, hv⟩ := load_key (x := .tmp t) r (by simp [mOpd]) hu hi hx
        refine ⟨vv :: us, ?_, by grind, RV1_of hn.1 hv, h3⟩
        have he' : a.tmps.getD t undef = .pointer (some ⟨b, off, none⟩) := he
        grind [resSem, asAddr, Sem.run_bind, Result.andThen_ok, Sem.run_pure]

theorem results_run {fn : Func} {tmps : Array Value} {us : List Value} (h : (fn.results.toList.mapM (resSem tmps)).run P w = .ok us w) {vs : List V} (hr : RVs w ω β L vs us) :
    ∃ v, (results fn tmps).run P w = .ok v w ∧ RV w ω β L (packR vs) v := by
  have h1 : (fn.results.mapM (resSem tmps)).run P w = .ok us.toArray w := by
    rw [← Array.toArray_toList (xs := fn.results), List.mapM_toArray, map_eq_pure_bind, Sem.run_bind, h, Result.andThen_ok, Sem.run_pure]
  refine ⟨if h : us.toArray.size = 1 then us.toArray[0] else .tuple us.toArray, ?_, ?_⟩
  · show ((fn.results.mapM (resSem tmps)) >>= fun vs => pure (if h : vs.size = 1 then vs[0] else .tuple vs)).run P w = _
    simp_all
  · have hlen := (RVs_get hr).1
    match vs, us, hlen, hr with
    | [], [], _, hr => exact ⟨_, rfl, hr⟩
    | [x], [u], _, hr => exact RV_of1 hr.1
    | x :: y :: vs, u :: z :: us, _, hr => 
      rw [dif_neg (by simp)]
      exact ⟨_, rfl, hr⟩

end
end Go.Vs

/- The value semantics, 27: the evaluator of functions is sound. -/
namespace Go.Vs
open Go

section
variable {P : Program} {C : Ctx} {N : Nat} {w0 : World} {ω0 : Nat → Nat} {S : Fr} {E : Nat → Option V} {L : Nat → Option Obj} {a : Act} {w : World} {ω : Nat → Nat} {β : Nat → Option Nat}

theorem RVs_nil {w' : World} {ω' : Nat → Nat} {β' : Nat → Option Nat} {L' : Nat → Option Obj} {v : Value} (h : RV w ω β L (packR []) v) : RV w' ω' β' L' (packR []) v := by
  obtain ⟨arr, h1, h2⟩ := h
  refine ⟨arr, h1, ?_⟩
  generalize arr.toList = l at h2
  cases l with
  | nil => trivial
  | cons _ _ => exact h2.elim

theorem packR_ren {ρ : Nat → Option Nat} {vs : List V} {v : Value} (hn : vs.all notTu = true) (β' : Nat → Option Nat) (L' : Nat → Option Obj) (hρ : Ren ρ β L β' L') (h : RV w ω β L (packR vs) v) : RV w ω β' L' (packR (vs.map (V.ren ρ))) v := by
  match vs, hn, h with
  | [], _, h => exact RVs_nil h
  | [x], _, h => exact RV.rename (x := x) hρ h
  | x :: y :: r, _, h =>
    obtain ⟨arr, h1, h2⟩ := h
    exact ⟨arr, h1, RVs.rename hρ h2⟩

/-- What is handed back is what is owed. -/
theorem export1_ok {objs : List Obj} {β0 : Nat → Option Nat} (r : Rel C.gl N w0 ω0 S E L a w ω β) (hS : S.S = fun b => ∃ k, Lof objs k ≠ none ∧ β0 k = some b)
    (hJ : ∀ k, k < objs.length → Tr w0 β0 w β (Lof objs) L k)
    {ω1 : Nat → Nat} (g1 : Grows w ω w ω1) {ds : List Nat} (hds : ∀ k ∈ ds, 64 ≤ k) (p2 : ∀ b, (∀ k ∈ ds, ∀ s rows p, L k = some (.arr s rows p) → β k ≠ some b) → ω1 b = ω b)
    {rest : List Nat} (hrest : rest.Nodup) (hge : ∀ k ∈ rest, 64 ≤ k) (hlen : objs.length ≤ 64) (hdisj : ∀ k ∈ ds, k ∉ rest)
    {vs : List V} (hn : vs.all notTu = true) {vv : Value} (hv : RV w ω1 β L (packR vs) vv) {rv : V} {objs' : List Obj} (h : export1 L (List.range objs.length ++ rest) vs = some (rv, objs')) :
    ∃ β', RV w ω1 β' (Lof objs') rv vv ∧ (∀ k o, Lof objs' k = some o → ObjOk w ω1 β' (Lof objs') k o) ∧
      (∀ j k b, Lof objs' j ≠ none → Lof objs' k ≠ none → β' j = some b → β' k = some b → j = k) ∧
      Keeps w0 ω0 (fun b => ∃ k, Lof objs k ≠ none ∧ β0 k = some b) w ω1 ∧
      (∀ k b, Lof objs' k ≠ none → β' k = some b → (∃ j, Lof objs j ≠ none ∧ β0 j = some b) ∨ w0.heap.size ≤ b) ∧
      (∀ k, Tr w0 β0 w β' (Lof objs) (Lof objs') k) := by
  unfold export1 at h
  cases hl : listM L (List.range objs.length ++ rest) with
  | none => rw [hl] at h; cases h
  | some os =>
    rw [hl] at h
    simp only [Option.some.injEq, Prod.mk.injEq] at h
    obtain ⟨rfl, rfl⟩ := h
    generalize hks : List.range objs.length ++ rest = ks at hl
    have hnd : ks.Nodup := by
      rw [← hks, List.nodup_append]
      refine ⟨List.nodup_range, hrest, fun x hx y hy e => ?_⟩
      have := List.mem_range.1 hx
      have := hge y hy
      omega
    obtain ⟨hlen2, hget⟩ := listM_some hl
    have hat : ∀ (k : Nat) (o' : Obj), Lof (os.map (Obj.ren (indexIn ks))) k = some o' → ∃ i o, ks[k]? = some i ∧ L i = some o ∧ os[k]? = some o ∧ o' = o.ren (indexIn ks) := by
      intro k o' hk
      simp only [Lof, List.getElem?_map] at hk
      obtain ⟨o, h1, rfl⟩ := Option.map_eq_some_iff.1 hk
      have hlt := (List.getElem?_eq_some_iff.1 h1).1
      have hi : ks[k]? = some ks[k] := List.getElem?_eq_getElem (by omega)
      obtain ⟨y, hy1, hy2⟩ := hget k _ hi
      rw [h1] at hy1
      cases hy1
      exact ⟨_, o, hi, hy2, h1, rfl⟩
    have hren : Ren (indexIn ks) β L (fun i => (ks[i]?).bind β) (Lof (os.map (Obj.ren (indexIn ks)))) := by
      intro k j o h1 h2
      have h3 := indexIn_get h1
      obtain ⟨y, hy1, hy2⟩ := hget j k h3
      rw [h2] at hy2
      cases hy2
      exact ⟨by simp [Lof, hy1], by simp [h3]⟩
    have hω : ∀ k b, k ∈ ks → L k ≠ none → β k = some b → ω1 b = ω b := by
      intro k b hk hLk hb
      refine p2 b fun j hj s rows p hLj hbj => ?_
      have := r.inj j k b (by simp [hLj]) hLk hbj hb
      subst this
      rw [← hks, List.mem_append] at hk
      rcases hk with hk | hk
      · have := List.mem_range.1 hk
        have := hds j hj
        omega
      · exact hdisj j hj hk
    have hobj1 : ∀ k o, k ∈ ks → L k = some o → ObjOk w ω1 β L k o := by
      intro k o hk ho
      refine (r.obj k o ho).step g1 (fun k => Tr.refl k) rfl fun b hb => ⟨rfl, hω k b hk (by simp [ho]) hb⟩
    have hmem : ∀ {k i : Nat}, ks[k]? = some i → i ∈ ks := fun h => List.mem_of_getElem? h
    refine ⟨fun i => (ks[i]?).bind β, packR_ren hn _ _ hren hv, ?_, ?_, ?_, ?_, ?_⟩
    · intro k o' hk
      obtain ⟨i, o, h1, h2, _, rfl⟩ := hat k o' hk
      exact (hobj1 i o (hmem h1) h2).rename hren (by simp [h1])
    · intro j k b hj hk hbj hbk
      obtain ⟨oj, hj'⟩ := Option.ne_none_iff_exists'.1 hj
      obtain ⟨ok, hk'⟩ := Option.ne_none_iff_exists'.1 hk
      obtain ⟨ij, oj', h1, h2, _⟩ := hat j oj hj'
      obtain ⟨ik, ok', h3, h4, _⟩ := hat k ok hk'
      simp only [h1, h3, Option.bind_some] at hbj hbk
      have := r.inj ij ik b (by simp [h2]) (by simp [h4]) hbj hbk
      subst this
      exact nodup_inj hnd h1 h3
    · have hk := r.keeps
      rw [hS] at hk
      refine hk.step g1 (Nat.le_refl _) (fun b hb hs => ⟨rfl, p2 b fun k hk' s rows p hL hbk => ?_⟩) rfl rfl rfl
      rcases r.mine k b (by simp [hL]) hbk with h1 | h1
      · rw [hS] at h1; exact hs h1
      · omega
    · intro k b hk hb
      obtain ⟨ok, hk'⟩ := Option.ne_none_iff_exists'.1 hk
      obtain ⟨i, o, h1, h2, _⟩ := hat k ok hk'
      simp only [h1, Option.bind_some] at hb
      have := r.mine i b (by simp [h2]) hb
      rw [hS] at this
      exact this
    · intro k
      by_cases hk : k < objs.length
      · refine (hJ k hk).trans ?_
        have hkk : ks[k]? = some k := by
          rw [← hks, List.getElem?_append_left (by simpa using hk)]
          simp [hk]
        obtain ⟨o, ho1, ho2⟩ := hget k k hkk
        unfold Tr
        rw [ho2]
        have hx : Lof (os.map (Obj.ren (indexIn ks))) k = some (o.ren (indexIn ks)) := by simp [Lof, ho1]
        cases o with
        | box cs => exact ⟨⟨_, hx, by simp⟩, by simp [hkk]⟩
        | arr s rows p => exact ⟨_, p, hx, by simp, fun _ => ⟨by simp [hkk], fun b cur t _ hc => ⟨cur, hc, rfl⟩⟩⟩
        | mp es => exact ⟨⟨_, hx⟩, by simp [hkk]⟩
      · have : Lof objs k = none := by simp only [Lof]; exact List.getElem?_eq_none (by omega)
        unfold Tr
        rw [this]
        trivial

theorem packR_toD {ω1 : Nat → Nat} (hobj : ∀ k o, L k = some o → ObjOk w ω β L k o) (g : Grows w ω w ω1) {vs ds : List V} (hd : listM (V.toR L) vs = some ds) {vv : Value} (hv : RV w ω β L (packR vs) vv)
    (hs : Shows β L ω1 (vs.flatMap fun v => v.cells.flatMap (W.ids L deep))) : RV w ω1 β L (packR ds) vv ∧ ds.all notTu = true := by
  have nt : ∀ {x d : V}, x.toR L = some d → notTu d = true := by
    intro x d h
    cases x with
    | sc x => cases x with
      | full r => simp only [V.toR, Option.some.injEq] at h; subst h; rfl
      | _ => simp only [V.toR] at h; obtain ⟨_, _, rfl⟩ := Option.map_eq_some_iff.1 h; rfl
    | ag x => obtain ⟨_, _, rfl⟩ := Option.map_eq_some_iff.1 h; rfl
    | tu x => cases h
  have all : ∀ {vs ds : List V}, listM (V.toR L) vs = some ds → ds.all notTu = true := by
    intro vs ds h
    obtain ⟨h1, h2⟩ := listM_some h
    rw [List.all_eq_true]
    intro d hd
    obtain ⟨i, hi⟩ := List.mem_iff_getElem?.1 hd
    have hlt := (List.getElem?_eq_some_iff.1 hi).1
    obtain ⟨y, hy1, hy2⟩ := h2 i _ (List.getElem?_eq_getElem (by omega))
    rw [hi] at hy1
    cases hy1
    exact nt hy2
  have many : ∀ {vs ds : List V} {us : List Value}, listM (V.toR L) vs = some ds → RVs w ω β L vs us → Shows β L ω1 (vs.flatMap fun v => v.cells.flatMap (W.ids L deep)) → RVs w ω1 β L ds us := by
    intro vs
    induction vs with
    | nil =>
      intro ds us h hr _
      simp [listM] at h
      subst h
      cases us with
      | nil => trivial
      | cons _ _ => exact hr.elim
    | cons x vs ih =>
      intro ds us h hr hs
      cases us with
      | nil => exact hr.elim
      | cons u us =>
        simp only [listM] at h
        cases hx : x.toR L with
        | none => simp [hx] at h
        | some d =>
          simp only [hx] at h
          cases hl : listM (V.toR L) vs with
          | none => simp [hl] at h
          | some ds' =>
            simp only [hl, Option.some.injEq] at h
            subst h
            exact ⟨toR_ok hobj g (RV_of1 hr.1) hx (fun k hk => hs k (by simp only [List.flatMap_cons, List.mem_append]; exact .inl hk)) β L,
              ih hl hr.2 fun k hk => hs k (by simp only [List.flatMap_cons, List.mem_append]; exact .inr hk)⟩
  refine ⟨?_, all hd⟩
  match vs, hd, hv, hs with
  | [], hd, hv, _ => simp [listM] at hd; subst hd; exact RVs_nil hv
  | [x], hd, hv, hs =>
    simp only [listM] at hd
    cases hx : x.toR L with
    | none => simp [hx] at hd
    | some d =>
      simp only [hx, Option.some.injEq] at hd
      subst hd
      exact RV_of1 (toR_ok (x := x) hobj g hv hx (by simpa using hs) β L)
  | x :: y :: rr, hd, hv, hs =>
    obtain ⟨arr, h1, h2⟩ := hv
    have h3 := many hd h2 hs
    have hlen := (listM_some hd).1
    match ds, hlen, h3 with
    | d1 :: d2 :: dr, _, h3 => exact ⟨arr, h1, h3⟩

end
end Go.Vs

/- The value semantics, 28: the evaluator of functions is sound, the theorem. -/
namespace Go.Vs
open Go

section
variable {P : Program} {gl : Nat → List Cell} {N : Nat} {w0 : World} {ω0 : Nat → Nat} {S : Fr} {a : Act} {w : World} {ω : Nat → Nat} {β : Nat → Option Nat}

/-- The frame of a call. -/
def callFr (objs : List Obj) (w : World) (β : Nat → Option Nat) : Fr where
  lo := w.heap.size
  fd := none
  S := fun b => ∃ k, Lof objs k ≠ none ∧ β k = some b
  kept := fun k => k < objs.length
  J := fun w' β' L' => ∀ k, k < objs.length → Tr w β w' β' (Lof objs) L' k
  closed := fun _ _ _ _ _ _ h h' k hk => (h k hk).trans (h' k hk)

theorem finish_ok {C : Ctx} {objs : List Obj} {β0 : Nat → Option Nat} {s : St} (r : Rel C.gl N w0 ω0 (callFr objs w0 β0) (get? s.env) (look s.objs) a w ω β) (hlen : objs.length ≤ 64) {fn : Func} {vf : VFun} (hm : mRes P fn.results.toList vf.results = true)
    {rv : V} {objs' : List Obj} (h : finish vf.keep objs.length vf.results s = some (rv, objs')) :
    ∃ v ω' β', (results fn a.tmps).run P w = .ok v w ∧ RV w ω' β' (Lof objs') rv v ∧
      (∀ k o, Lof objs' k = some o → ObjOk w ω' β' (Lof objs') k o) ∧
      (∀ j k b, Lof objs' j ≠ none → Lof objs' k ≠ none → β' j = some b → β' k = some b → j = k) ∧
      Keeps w0 ω0 (fun b => ∃ k, Lof objs k ≠ none ∧ β0 k = some b) w ω' ∧
      (∀ k b, Lof objs' k ≠ none → β' k = some b → (∃ j, Lof objs j ≠ none ∧ β0 j = some b) ∨ w0.heap.size ≤ b) ∧
      (∀ k, Tr w0 β0 w β' (Lof objs) (Lof objs') k) := by
  unfold finish at h
  cases hvs : listM (resV s) vf.results with
  | none => grind
  | some vs =>
    rw [hvs] at h
    simp only at h
    cases hn : vs.all notTu with
    | false => grind
    | true =>
      rw [hn] at h
      simp only [cond_true] at h
      obtain ⟨us, h1, _, h3⟩ := listM_res r hm hvs hn
      obtain ⟨v, g1, g2⟩ := results_run h1 h3
      cases hk : vf.keep with
      | true =>
        rw [hk] at h
        simp only [cond_true] at h
        obtain ⟨β', q⟩ := export1_ok r rfl r.inv (Grows.refl w ω) (ds := []) (by simp) (fun _ _ => rfl) ((reach_nodup _ _).filter _) (fun k hk' => Nat.le_of_ble_eq_true (List.mem_filter.1 hk').2) hlen (by simp) hn g2 h
        grind
      | false =>
        rw [hk] at h
        simp only [cond_false] at h
        split at h
        grind
        · rename_i ds hds
          cases hids : (vs.all fun v => v.cells.all fun x => (W.ids (look s.objs) deep x).all fun k => Nat.ble 64 k) with
          | false => grind
          | true =>
            rw [hids] at h
            simp only [cond_true] at h
            obtain ⟨ω', p0, p1, p2⟩ := publish_ex r (vs.flatMap fun v => v.cells.flatMap (W.ids (look s.objs) deep))
            have hge : ∀ k ∈ (vs.flatMap fun v => v.cells.flatMap (W.ids (look s.objs) deep)), 64 ≤ k := by
              intro k hk'
              obtain ⟨v', hv', hk'⟩ := List.mem_flatMap.1 hk'
              obtain ⟨x, hx, hk'⟩ := List.mem_flatMap.1 hk'
              exact Nat.le_of_ble_eq_true (List.all_eq_true.1 (List.all_eq_true.1 (List.all_eq_true.1 hids v' hv') x hx) k hk')
            obtain ⟨e1, e2⟩ := packR_toD r.obj p0 hds g2 (fun k hk' s' rows p b hL hb => Nat.le_of_eq (p1 k hk' s' rows p b hL hb).symm)
            rw [← List.append_nil (List.range objs.length)] at h
            obtain ⟨β', q⟩ := export1_ok r rfl r.inv p0 hge p2 (rest := []) (by simp) (by simp) hlen (by simp) e2 e1 h
            grind

/-- On the way out the marks' blocks are shut. -/
theorem leave_ok {GL : Nat → List Cell} {E : Nat → Option V} {L : Nat → Option Obj} {fn : Func} {R : Ending → World → Prop} {n : Nat} (hlo : w0.heap.size ≤ S.lo) (hfd : S.fd = none) {tmps : Array Value}
    (hfin : ∀ (w' : World) (ω : Nat → Nat) (β : Nat → Option Nat), Rel GL N w0 ω0 S E L { tmps := tmps, defers := [] } w' ω β → ∃ v, (results fn tmps).run P w' = .ok v w' ∧ R (.returned v) w') :
    ∀ {ds : List Deferred} {w : World} {ω : Nat → Nat} {β : Nat → Option Nat}, Rel GL N w0 ω0 S E L { tmps := tmps, defers := ds } w ω β → LeavesInM Fence.wide n P fn tmps R ds .returning w
  | [], w, ω, β, r => hfin w ω β r
  | d :: ds, w, ω, β, r => by
    have hds := r.defers
    rw [hfd] at hds
    obtain ⟨⟨D, hd, hD, hh, hne⟩, hrest⟩ := hds
    refine ⟨by simp, .inl ⟨D, _, by rw [hd], run_takeDeferred hh, ?_⟩⟩
    have r' : Rel GL N w0 ω0 S E L { tmps := tmps, defers := ds } w ω β := ⟨r.size, by rw [hfd]; exact hrest, r.env, r.obj, r.inj, r.keeps, r.mine, r.gl, r.inv⟩
    refine leave_ok hlo hfd hfin (r'.grown (grownBy_putObj' w D (.deferred none)) (fun b hb => by cases hb; exact ⟨Nat.le_trans hlo hD, _, hh, rfl⟩) ?_)
    rw [hfd]
    show Marks _ _ _
    grind [Marks.step, World.putObj_heap_other]

theorem evalFn_ok {T : FuncId → Option VFun} {X : Oracle} (hP : P.follows .mixedOrders = true) (hT : ∀ f vf, T f = some vf → mFun P f vf = true)
    (hX : ∀ f args objs rv objs', X f args objs = some (rv, objs') → FnOk P gl f args objs rv objs') :
    ∀ (n : Nat) {f : FuncId} {args : List V} {objs : List Obj} {rv : V} {objs' : List Obj}, evalFn T X gl n f args objs = some (rv, objs') → FnOk P gl f args objs rv objs' := by
  intro n
  induction n with
  | zero => grind [evalFn]
  | succ n ih =>
    intro f args objs rv objs' h
    simp only [evalFn] at h
    split at h
    grind
    · rename_i vf hvf
      cases hc : (args.length == vf.nparams && Nat.ble objs.length 64) with
      | false => grind
      | true =>
        rw [hc] at h
        simp only [cond_true] at h
        simp only [Bool.and_eq_true, beq_iff_eq] at hc
        have hlen : objs.length ≤ 64 := Nat.le_of_ble_eq_true hc.2
        have hm := hT f vf hvf
        unfold mFun at hm
        split at hm
        · rename_i fn hfn
          simp only [Bool.and_eq_true, Bool.not_eq_true'] at hm
          obtain ⟨hname, hm⟩ := hm
          split at hm
          · rename_i c hbody
            simp only [Bool.and_eq_true] at hm
            obtain ⟨⟨m1, m2⟩, m3⟩ := hm
            refine ⟨⟨fn, hfn, by grind, hname⟩, ?_⟩
            intro w ω β cargs hgl hargs hobj hinj
            obtain ⟨al, ag⟩ := RVs_get hargs
            have al' : args.length = cargs.size := by omega
            have hnp : cargs.size ≤ fn.ntmps := by simp_all
            have hOr : OracleOk P ⟨evalFn T X gl n, gl⟩ := fun f args objs rv objs' h => ih h
            have r0 : Rel gl fn.ntmps w ω (callFr objs w β) (get? (enumF 0 args)) (look (enumF 0 (objs.map some))) { tmps := cargs ++ Array.replicate (fn.ntmps - cargs.size) undef, defers := [] } w ω β := by
              rw [look_enum]
              refine ⟨by grind, trivial, ?_, hobj, hinj, Keeps.refl _ _ _, fun k b hk hb => .inl ⟨k, hk, hb⟩, hgl, fun k _ => Tr.refl k⟩
              intro t x ht
              rw [get?_enum0] at ht
              obtain ⟨v, hv1, hv2⟩ := ag t x ht
              have hlt : t < cargs.size := by
                grind
              refine ⟨by omega, ?_⟩
              have : (cargs ++ Array.replicate (fn.ntmps - cargs.size) undef).getD t undef = v := by
                rw [Array.getD_eq_getD_getElem?, Array.getElem?_append_left hlt, ← Array.getElem?_toList, hv1]
                rfl
              grind [RV_of1]
            have post : ∀ {s : St}, finish vf.keep objs.length vf.results s = some (rv, objs') → ∀ (a : Act) (w' : World) (ω' : Nat → Nat) (β' : Nat → Option Nat), Rel gl fn.ntmps w ω (callFr objs w β) (get? s.env) (look s.objs) a w' ω' β' →
                LeavesInM Fence.wide 0 P fn a.tmps (fun e w' => ∃ vv ω2 β2, e = .returned vv ∧ RV w' ω2 β2 (Lof objs') rv vv ∧
                (∀ k o, Lof objs' k = some o → ObjOk w' ω2 β2 (Lof objs') k o) ∧
                (∀ j k b, Lof objs' j ≠ none → Lof objs' k ≠ none → β2 j = some b → β2 k = some b → j = k) ∧
                Keeps w ω (fun b => ∃ k, Lof objs k ≠ none ∧ β k = some b) w' ω2 ∧
                (∀ k b, Lof objs' k ≠ none → β2 k = some b → (∃ j, Lof objs j ≠ none ∧ β j = some b) ∨ w.heap.size ≤ b) ∧
                (∀ k, Tr w β w' β2 (Lof objs) (Lof objs') k)) a.defers .returning w' := by
              intro s hs a w' ω' β' r
              refine leave_ok (S := callFr objs w β) (Nat.le_refl _) rfl (fun w' ω' β' r => ?_) r
              obtain ⟨v, ω2, β2, q1, q2⟩ := finish_ok (P := P) (C := ⟨evalFn T X gl n, gl⟩) r hlen m2 hs
              grind
            refine (callsIn_wide (n := 0)).1 (callsIn_of_wp_marks hfn hbody trivial ((wpIn_wide (n := 0)).2 ?_))
            split at h
            grind
            · rename_i ex s hne hrun
              refine run_ok (C := ⟨evalFn T X gl n, gl⟩) hOr hP (S := callFr objs w β) (fun k hk => Nat.lt_of_lt_of_le hk hlen) (Nat.le_refl _) m1 hrun r0 fun a w' ω' β' r => ?_
              cases ex with
              | normal => exact post h a w' ω' β' r
              | exit id => grind
              | ret => exact post h a w' ω' β' r
            grind
          grind
        grind

end
end Go.Vs

/- The value semantics, 29: tables of functions. -/
namespace Go.Vs
open Go

def AllT (p : Nat → VFun → Prop) : List (Nat × VFun) → Prop
  | [] => True
  | x :: r => p x.1 x.2 ∧ AllT p r

theorem AllT.get {p : Nat → VFun → Prop} : ∀ {l : List (Nat × VFun)}, AllT p l → ∀ (f : Nat) (v : VFun), get? l f = some v → p f v
  | [], _, _, _, h => by cases h
  | (j, x) :: r, hp, f, v, h => by
    simp only [get?] at h
    cases hj : (j == f) with
    | true =>
      rw [hj] at h
      cases h
      have : j = f := by simpa using hj
      subst this
      exact hp.1
    | false =>
      rw [hj] at h
      exact AllT.get hp.2 f v h

/- short words for the tables' texts -/
abbrev zi : W := .c (.int .i64 0)
abbrev zs : W := .c (.str [])
abbrev ki (n : Int) : Opd := .k (.sc (.c (.int .i64 n)))
abbrev kf (f : Nat) : Opd := .k (.sc (.c (.fn f [] [])))
abbrev kn : Opd := .k (.sc .nil)
abbrev kt : Opd := .k (.sc (.c (.bool true)))
abbrev kF : Opd := .k (.sc (.c (.bool false)))
abbrev tv (n : Nat) : Opd := .t n
abbrev o (d : Nat) (op : VOp) : VOper := ⟨some d, op, none, 0, []⟩
abbrev oa (d : Nat) (op : VOp) (i : Nat) : VOper := ⟨some d, op, none, i, []⟩
abbrev on (op : VOp) : VOper := ⟨none, op, none, 0, []⟩
abbrev og (d : Nat) (op : VOp) (g : Nat) (w : Bool) : VOper := ⟨some d, op, some (g, w), 0, []⟩

end Go.Vs

/- The value semantics, 30: from a law's value to its row: the arguments opened, the world behind the call. -/
namespace Go.Vs
open Go Go.ChangeShapes Go.RowKit

/-- All cells of all blocks that are there: a law writes none of them. -/
def wAll (w : World) (b : Nat) : Nat := match w.heap[b]? with
  | some (.cells c _ _) => c.size
  | _ => 0

def intRows (k : IntKind) (zs : List Int) : List (List Cell) := zs.map fun n => [.int k n]

section
variable {H : Type} {enc : TypeId × Value → H} {P : Program} {W W' : World} {β : Nat → Option Nat} {L : Nat → Option Obj}

theorem wAll_cell {w : World} {b i : Nat} {v : Value} (h : at? w b i = some v) : i < wAll w b := by
  unfold at? World.cell? at h
  unfold wAll
  simp only at h
  split at h <;> simp_all
  exact (Array.getElem?_eq_some_iff.1 h).1

theorem ints_rows {k : IntKind} {b : Nat} : ∀ {zs : List Int} {off : Nat}, (∀ j, j < zs.length → W.cell? ⟨b, off + j, none⟩ = some (.int k (zs.getD j 0))) → RDrows W (wAll W) b 1 off (intRows k zs)
  | [], _, _ => by simp [intRows, RDrows]
  | z :: zs, off, h => by
    simp only [intRows, List.map_cons, RDrows, List.length_singleton, RDcells, and_true, true_and]
    have h0 : at? W b off = some (.int k z) := by simpa [at?] using h 0 (by simp)
    refine ⟨⟨wAll_cell h0, _, h0, by simp [RD]⟩, ints_rows (zs := zs) fun j hj => ?_⟩
    have := h (j + 1) (by simpa using hj)
    rw [Nat.add_assoc, Nat.add_comm 1 j]
    simpa using this

/-- A slice of integers among the arguments. -/
theorem ints_arg {base : Nat} {b0 : Nat} {r : Reach} {t e : TypeId} {k : IntKind} {v : Value} {d : DataW H} {ps : List MemPlace} (ht : P.underlying t = some (.slice e)) (he : P.underlying e = some (.int k)) (hc : P.cellsOf e = 1)
    (hval : Value.okWide P W r b0 t v) (h : DataW.Trod enc P W base (fun _ => true) true t v d ps) :
    ∃ zs : List Int, RV1 W (wAll W) β L (.sc (.c (.sl (intRows k zs)))) v ∧ ∀ n ∈ zs, (Lit.int k n).wf = true := by
  obtain ⟨fuel, hf⟩ := h
  obtain ⟨a0, l0, c0, rfl⟩ := WideShapes.okWide_slice ht hval
  rcases open_ints ht he hc hf with ⟨hcs, _⟩ | ⟨a, len, cap, zs, hcs, _, hl, hm, hz, _, hcell, hwz⟩
  · refine ⟨[], ?_, by simp⟩
    simp only [Value.cells, List.cons.injEq, Value.slice.injEq, and_true] at hcs
    obtain ⟨rfl, rfl, rfl⟩ := hcs
    simp only [RV1, RW, RD, intRows, List.map_nil]
    exact ⟨none, 0, by simp, by simp, by simp [maxRows], by simp⟩
  · simp only [Value.cells, List.cons.injEq, Value.slice.injEq, and_true] at hcs
    obtain ⟨rfl, rfl, rfl⟩ := hcs
    simp only [if_true] at hz
    have hlen : (intRows k (zs.take l0)).length = l0 := by simp [intRows]; omega
    refine ⟨zs.take l0, ?_, fun n hn => hwz n (List.mem_of_mem_take hn)⟩
    simp only [RV1, RW, RD]
    refine ⟨some a, c0, by rw [hlen], by rw [hlen]; exact hl, hm, ?_⟩
    by_cases h0 : l0 = 0
    · left
      subst h0
      simp [intRows]
    · right
      obtain ⟨b, off, spot⟩ := a
      have hspot : spot = none := by simpa [Addr.add] using World.cell?_spot (hcell 0 (by omega))
      subst hspot
      have hat : ∀ j, j < zs.length → W.cell? ⟨b, off + j, none⟩ = some (.int k (zs.getD j 0)) := fun j hj => by rw [← Go.WideShapes.add_plain]; exact hcell j hj
      refine ⟨b, off, 1, rfl, Nat.one_pos, ints_rows fun j hj => ?_⟩
      have hj' : j < l0 := by simp at hj; omega
      rw [hat j (by omega)]
      simp [List.getD_eq_getElem?_getD, hj']

/-- An integer among the arguments. -/
theorem int_arg {base : Nat} {b0 : Nat} {r : Reach} {spare : Nat → Bool} {held : Bool} {t : TypeId} {k : IntKind} {v : Value} {d : DataW H} {ps : List MemPlace} (ht : P.underlying t = some (.int k))
    (hval : Value.okWide P W r b0 t v) (h : DataW.Trod enc P W base spare held t v d ps) :
    ∃ n : Int, RV1 W (wAll W) β L (.sc (.c (.int k n))) v ∧ (Lit.int k n).wf = true := by
  obtain ⟨n, rfl, _, _, hw⟩ := open_int ht hval h
  exact ⟨n, by simp [RV1, RW, RD], hw⟩

/-- A law that is handed nothing but data. -/
theorem law_calls {gl : Nat → List Cell} {f : FuncId} {vs : List V} (h : FnOk P gl f vs [] (.sc (.c (.bool true))) []) (hgl : ∀ g, RDcells W (wAll W) g 0 (gl g)) {args : Array Value} (hargs : RVs W (wAll W) (fun _ => none) (Lof []) vs args.toList) :
    Calls P f args W fun e W' => e = .returned (.bool true) ∧ Below W.heap.size W W' := by
  refine (h.2 W (wAll W) (fun _ => none) args hgl hargs (fun k o hk => by simp [Lof] at hk) (fun _ _ _ hj => by simp [Lof] at hj)).mono fun e W' ⟨vv, ω', β', he, hv, _, _, hk, _⟩ => ?_
  simp only [RV, RV1, RW, RD] at hv
  subst hv
  exact ⟨he, hk.os, hk.tape, hk.output, hk.size, fun b hb => (hk.same b hb (by simp [Lof])).1⟩

theorem trodAll_stays (hl : laidOutB P = true) : ∀ {ts : List TypeId} {vs : List Value} {ds : List (DataW H)} {ps : List MemPlace}, (∀ t ∈ ts, P.readableRec t = true ∧ t < P.types.size) →
    DataW.TrodAll enc P W 0 (fun _ => true) true ts vs ds ps → Below W.heap.size W W' → (∀ x ∈ ps, x.block < W.heap.size) → DataW.TrodAll enc P W' 0 (fun b => decide (b < W.heap.size)) true ts vs ds ps
  | [], vs, ds, ps, _, h, _, _ => by
    obtain ⟨rfl, rfl, rfl⟩ := trodAll_nil h
    exact trodAll_mk0
  | t :: ts, vs, ds, ps, hr, h, hb, hlt => by
    obtain ⟨v, vs, d, ds, p, q, rfl, rfl, rfl, h1, h2⟩ := trodAll_cons h
    exact ⟨p, q, Below.trod hl (hr t (by simp)).1 (hr t (by simp)).2 h1 hb fun x hx => hlt x (by simp [hx]),
      trodAll_stays hl (fun u hu => hr u (by simp [hu])) h2 hb fun x hx => hlt x (by simp [hx]), rfl⟩

theorem law_post {f : Func} {s : ChangeSpec} {apart fresh handsOn : Bool} {t : TypeId} {args : Array Value} {ds gs : List (DataW H)} {before : List MemPlace} (hl : laidOutB P = true) (hr : ∀ t ∈ f.params.toList, P.readableRec t = true ∧ t < P.types.size)
    (hrt : f.resultTypes = #[t]) (ht : P.underlying t = some .bool) (hvars : s.vars = []) (hW : DataW.Whole enc P f.params.toList s.vars apart W args.toList ds gs before)
    (hspec : (s.fn H (ds ++ [])).results = [.lit (.bool true)] ∧ (s.fn H (ds ++ [])).args = ds ∧ (s.fn H (ds ++ [])).vars = []) (hb : Below W.heap.size W W') :
    s.post enc P f apart fresh handsOn false W args (.bool true) W' := by
  have hW' := hW
  obtain ⟨p, q, hA, hV, rfl, hfz, hnd⟩ := hW
  rw [hvars] at hV
  obtain ⟨rfl, rfl⟩ := trodVars_none hV
  obtain ⟨h1, h2, h3⟩ := hspec
  refine ⟨ds, [], p ++ [], [], p, [], hW', ?_, ?_, ?_, ?_, fun h => nomatch h⟩
  · rw [h1, hrt]
    exact trodAll_mk1 (shut_bool ht true)
  · rw [h2]
    exact trodAll_stays hl hr hA hb fun x hx => by simpa using hW'.lt x (by simp [hx])
  · rw [h3, hvars]
    rfl
  · exact hb.frame _

end
end Go.Vs

/- The value semantics, 31: loops by what holds ahead of each round. -/
namespace Go.Vs
open Go

/-- A loop of at most m rounds: ahead of round i, I i holds; a round goes on, or ends the loop with R. -/
theorem iter_inv {f : St → Option (Ex × St)} (I : Nat → St → Prop) {R : Ex × St → Prop} {m : Nat}
    (step : ∀ i s, i ≤ m → I i s → (∃ s', f s = some (.normal, s') ∧ i < m ∧ I (i + 1) s') ∨ ∃ e s', f s = some (e, s') ∧ e ≠ .normal ∧ R (e, s')) :
    ∀ n i s, i ≤ m → m - i < n → I i s → ∃ e s', iter f n s = some (e, s') ∧ R (e, s') := by
  intro n
  induction n with
  | zero => intro i s _ h _; omega
  | succ n ih =>
    intro i s hi hn h
    rcases step i s hi h with ⟨s', h1, h2, h3⟩ | ⟨e, s', h1, h2, h3⟩
    · obtain ⟨e, s2, h4, h5⟩ := ih (i + 1) s' h2 (by omega) h3
      exact ⟨e, s2, by simp only [iter, h1]; exact h4, h5⟩
    · refine ⟨e, s', ?_, h3⟩
      simp only [iter, h1]
      cases e with
      | normal => exact absurd rfl h2
      | exit id => rfl
      | ret => rfl

/-- What refers to no object is not touched where objects are forgotten. -/
theorem scrub_get {ks : List Nat} {s : St} {t : Nat} {v : V} (h : get? s.env t = some v) (hv : v.ren (dropR ks) = v) : get? (s.scrub ks).env t = some v := by
  unfold St.scrub
  cases s.objs.any (fun x => x.2.isSome && ks.contains x.1) with
  | false => exact h
  | true =>
    simp only [cond_true]
    rw [get?_map (V.ren (dropR ks)), h, Option.map_some, hv]

theorem scrub_look {ks : List Nat} {s : St} {k : Nat} (h : look s.objs k = none) : look (s.scrub ks).objs k = none := by
  unfold St.scrub
  cases s.objs.any (fun x => x.2.isSome && ks.contains x.1) with
  | false => exact h
  | true =>
    simp only [cond_true]
    rw [look_scrub, h]
    cases ks.contains k <;> rfl

theorem get?_mem2 {α : Type} : ∀ {l : List (Nat × α)} {k : Nat} {x : α}, get? l k = some x → (k, x) ∈ l
  | [], _, _, h => by cases h
  | (j, y) :: r, k, x, h => by
    simp only [get?] at h
    cases hj : (j == k) with
    | true =>
      rw [hj] at h
      cases h
      have : j = k := by simpa using hj
      simp [this]
    | false =>
      rw [hj] at h
      exact List.mem_cons_of_mem _ (get?_mem2 h)

theorem scrub_drop {ks : List Nat} {s : St} {k : Nat} (hk : k ∈ ks) : look (s.scrub ks).objs k = none := by
  have hc : ks.contains k = true := by simpa using hk
  unfold St.scrub
  cases ha : s.objs.any (fun x => x.2.isSome && ks.contains x.1) with
  | true =>
    simp only [cond_true]
    rw [look_scrub, hc]
    rfl
  | false =>
    simp only [cond_false]
    cases hl : look s.objs k with
    | none => rfl
    | some o =>
      unfold look at hl
      cases hg : get? s.objs k with
      | none => rw [hg] at hl; cases hl
      | some x =>
        rw [hg] at hl
        cases x with
        | none => cases hl
        | some x =>
          have := List.any_eq_false.1 ha _ (get?_mem2 hg)
          simp [hk] at this

end Go.Vs

/- The value semantics, 32: code put together, and loops that count. -/
namespace Go.Vs
open Go

section
variable {C : Ctx} {p : Nat}

theorem runSeq {a b : VCode} {s s' : St} (h : run C p a s = some (.normal, s')) : run C p (.seq a b) s = run C p b s' := by
  rw [run, h]

theorem runSeqStop {a b : VCode} {s s' : St} {e : Ex} (h : run C p a s = some (e, s')) (he : e ≠ .normal) : run C p (.seq a b) s = some (e, s') := by
  rw [run, h]
  cases e with
  | normal => exact absurd rfl he
  | exit _ => rfl
  | ret => rfl

theorem runCond {t : Nat} {x y : VCode} {s : St} {b : Bool} (h : get? s.env t = some (.sc (.c (.bool b)))) : run C p (.cond (.t t) x y) s = bif b then run C p x s else run C p y s := by
  simp [run, Opd.val, h]

theorem runBlock {k : Nat} {a : VCode} {s s' : St} (h : run C p a s = some (.normal, s')) : run C p (.block k a) s = some (.normal, s') := by
  rw [run, h]

theorem runBlockExit {k : Nat} {a : VCode} {s s' : St} (h : run C p a s = some (.exit k, s')) : run C p (.block k a) s = some (.normal, s') := by
  rw [run, h]
  simp

/-- A loop that counts to m: its head, and its body with the step. -/
theorem countLoop {lc lb : VCode} {b e : Nat} (I : Nat → St → Prop) {m : Nat}
    (hc : ∀ i s, i ≤ m → I i s → ∃ s', run C p lc s = some (.normal, s') ∧ get? s'.env b = some (.sc (.c (.bool (decide (i < m))))) ∧ I i s')
    (hb : ∀ i s, i < m → I i s → ∃ s', run C p lb s = some (.normal, s') ∧ I (i + 1) s') (hm : m < p) {s : St} (h : I 0 s) :
    ∃ s', run C p (.loop (.seq (.seq lc (.cond (.t b) .skip (.exit e))) lb)) s = some (.exit e, s') ∧ I m s' := by
  obtain ⟨x, s', h1, h2, h3⟩ := iter_inv I (R := fun x => x.1 = .exit e ∧ I m x.2) (m := m) (f := run C p (.seq (.seq lc (.cond (.t b) .skip (.exit e))) lb)) (fun i s hi h => by
    obtain ⟨s1, e1, b1, h1⟩ := hc i s hi h
    by_cases hlt : i < m
    · obtain ⟨s2, e2, h2⟩ := hb i s1 hlt h1
      refine .inl ⟨s2, ?_, hlt, h2⟩
      rw [runSeq (s' := s1) (by rw [runSeq e1, runCond b1]; simp [hlt, run])]
      exact e2
    · have : i = m := by omega
      subst this
      exact .inr ⟨_, s1, runSeqStop (by rw [runSeq e1, runCond b1]; simp [run]) (by simp), by simp, rfl, h1⟩) p 0 s (Nat.zero_le _) (by omega) h
  simp only at h2 h3
  subst h2
  exact ⟨s', h1, h3⟩

/-- The code ends so. -/
def Ends (C : Ctx) (p : Nat) (c : VCode) (s : St) (Q : Ex → St → Prop) : Prop := ∃ e s', run C p c s = some (e, s') ∧ Q e s'

theorem Ends.seqP {a b : VCode} {s : St} {Q : Ex → St → Prop} (R : St → Prop) (h1 : ∃ s', run C p a s = some (.normal, s') ∧ R s') (h2 : ∀ s', R s' → Ends C p b s' Q) : Ends C p (.seq a b) s Q := by
  obtain ⟨s', e1, hr⟩ := h1
  obtain ⟨e, s2, e2, hq⟩ := h2 s' hr
  exact ⟨e, s2, by rw [runSeq e1]; exact e2, hq⟩

theorem Ends.seqStop {a b : VCode} {s : St} {Q : Ex → St → Prop} (h : ∃ e s', run C p a s = some (e, s') ∧ e ≠ .normal ∧ Q e s') : Ends C p (.seq a b) s Q := by
  obtain ⟨e, s', e1, he, hq⟩ := h
  exact ⟨e, s', runSeqStop e1 he, hq⟩

theorem Ends.seqAssoc {a b c : VCode} {s : St} {Q : Ex → St → Prop} (h : Ends C p (.seq a (.seq b c)) s Q) : Ends C p (.seq (.seq a b) c) s Q := by
  obtain ⟨e, s', h, hq⟩ := h
  refine ⟨e, s', ?_, hq⟩
  simp only [run] at h ⊢
  cases ha : run C p a s with
  | none => rw [ha] at h; cases h
  | some x =>
    obtain ⟨e1, s1⟩ := x
    rw [ha] at h
    cases e1 <;> simpa using h

theorem Ends.condP {t : Nat} {x y : VCode} {s : St} {b : Bool} {Q : Ex → St → Prop} (h : get? s.env t = some (.sc (.c (.bool b)))) (h2 : Ends C p (bif b then x else y) s Q) : Ends C p (.cond (.t t) x y) s Q := by
  obtain ⟨e, s', h2, hq⟩ := h2
  refine ⟨e, s', ?_, hq⟩
  rw [runCond h]
  cases b <;> exact h2

theorem Ends.ret {s : St} {Q : Ex → St → Prop} (h : Q .ret s) : Ends C p .ret s Q := ⟨_, s, rfl, h⟩

/-- A function that returns one truth, from its body. -/
theorem evalFn_bool {T : FuncId → Option VFun} {X : Oracle} {gl : Nat → List Cell} {n f t : Nat} {vf : VFun} {args : List V} {b : Bool} (hT : T f = some vf) (hn : args.length = vf.nparams) (hr : vf.results = [.tmp t]) (hk : vf.keep = false)
    (h : Ends ⟨evalFn T X gl n, gl⟩ n vf.body ⟨enumF 0 args, []⟩ fun e s => e = .ret ∧ get? s.env t = some (.sc (.c (.bool b)))) : evalFn T X gl (n + 1) f args [] = some (.sc (.c (.bool b)), []) := by
  obtain ⟨e, s', h, rfl, hb⟩ := h
  have h0 : (args.length == vf.nparams && Nat.ble ([] : List Obj).length 64) = true := by simp [hn]
  simp only [evalFn, hT, h0, cond_true, List.map_nil, enumF, h, finish, hr, hk]
  simp [listM, resV, hb, notTu, V.toR, W.toC, deep, V.cells, W.ids, export1, packR, V.ren, W.ren]

end
end Go.Vs

/- The value semantics, 33: small laws for evaluating by rewriting. -/
namespace Go.Vs
open Go

def iv (n : Int) : V := .sc (.c (.int .i64 n))
def bv (b : Bool) : V := .sc (.c (.bool b))
def strv (s : List UInt8) : V := .sc (.c (.str s))
/-- A list of rows, as data. -/
def rv (rows : List (List Cell)) : V := .sc (.c (.sl rows))
/-- A row, as an aggregate of data. -/
def av (row : List Cell) : V := .ag (row.map W.c)

theorem ble_dec (a b : Nat) : Nat.ble a b = decide (a ≤ b) := by
  cases h : Nat.ble a b with
  | true => simpa using Nat.le_of_ble_eq_true h
  | false => simpa using Nat.not_le_of_not_ble_eq_true (by simp [h])

theorem blt_dec (a b : Nat) : Nat.blt a b = decide (a < b) := ble_dec (a + 1) b

theorem wrap_in (x : Int) (h : -4611686018427387904 ≤ x ∧ x ≤ 4611686018427387904) : IntKind.i64.wrap x = x := Go.IntWalk.i64_in x (by omega)

theorem wrapI_in (x : Int) (h : -4611686018427387904 ≤ x ∧ x ≤ 4611686018427387904) : wrapI .i64 x = .int .i64 x := by
  simp only [wrapI]
  rw [wrap_in x h]

theorem natBelow_nat (k : IntKind) (n b : Nat) : natBelow (.sc (.c (.int k (n : Int)))) b = bif Nat.blt n b then some n else none := rfl

theorem toC_c (L : Nat → Option Obj) (d : Nat) (x : Cell) : W.toC L d (.c x) = some x := by cases d <;> rfl
theorem ids_c (L : Nat → Option Obj) (d : Nat) (x : Cell) : W.ids L d (.c x) = [] := by cases d <;> rfl
theorem refs_c (d : Nat) (x : Cell) : W.refs d (.c x) = [] := by cases d <;> rfl
theorem ren_c (ρ : Nat → Option Nat) (d : Nat) (x : Cell) : W.ren ρ d (.c x) = .c x := by cases d <;> rfl

theorem listM_c (L : Nat → Option Obj) (d : Nat) : ∀ r : List Cell, listM (W.toC L d) (r.map W.c) = some r
  | [] => rfl
  | x :: r => by simp only [List.map_cons, listM, toC_c, listM_c L d r]

theorem listM_cc (L : Nat → Option Obj) (d : Nat) : ∀ rows : List (List Cell), listM (listM (W.toC L d)) (rows.map fun x => x.map W.c) = some rows
  | [] => rfl
  | x :: r => by simp only [List.map_cons, listM, listM_c, listM_cc L d r]

theorem ids_cs (it : List Cell) (L : Nat → Option Obj) (d : Nat) : (it.map W.c).flatMap (W.ids L d) = [] := by
  simp [List.flatMap_eq_nil_iff, ids_c]

theorem ids_cc (L : Nat → Option Obj) (d : Nat) : ∀ rows : List (List Cell), (rows.map fun x => x.map W.c).flatMap (fun r => r.flatMap (W.ids L d)) = [] := by
  intro rows
  simp [List.flatMap_eq_nil_iff, ids_c]

theorem refs_cs (it : List Cell) (d : Nat) : (it.map W.c).flatMap (W.refs d) = [] := by
  simp [List.flatMap_eq_nil_iff, refs_c]

theorem ren_cs (it : List Cell) (ρ : Nat → Option Nat) (d : Nat) : (it.map W.c).map (W.ren ρ d) = it.map W.c := by
  rw [List.map_map]
  exact List.map_congr_left fun x _ => ren_c ρ d x

theorem notUn_cs (it : List Cell) : (it.map W.c).all notUn = true := by simp [notUn]

theorem all_rows (k : Nat) (rows : List (List Cell)) (h : ∀ r ∈ rows, r.length = k) : (rows.map fun x => x.map W.c).all (fun r => r.length == k && r.all notUn) = true := by
  rw [List.all_eq_true]
  intro r hr
  obtain ⟨x, hx, rfl⟩ := List.mem_map.1 hr
  simp [h x hx, notUn]

theorem fit_rows (k : Nat) (rows : List (List Cell)) (h : ∀ r ∈ rows, r.length = k) : rowsFit k rows = true := by
  cases rows with
  | nil => rfl
  | cons r rs => simp [rowsFit, h r (by simp)]

theorem listM_snoc {α γ : Type} {f : α → Option γ} : ∀ {l : List α} {a : List γ} {x : α} {b : γ}, listM f l = some a → f x = some b → listM f (l ++ [x]) = some (a ++ [b])
  | [], a, x, b, h1, h2 => by
    simp only [listM, Option.some.injEq] at h1
    subst h1
    simp only [List.nil_append, listM, h2]
  | y :: l, a, x, b, h1, h2 => by
    simp only [listM] at h1
    cases hy : f y with
    | none => simp [hy] at h1
    | some c =>
      simp only [hy] at h1
      cases hl : listM f l with
      | none => simp [hl] at h1
      | some a' =>
        simp only [hl, Option.some.injEq] at h1
        subst h1
        simp only [List.cons_append, listM, hy, listM_snoc hl h2]

theorem listM_append {α γ : Type} {f : α → Option γ} : ∀ {l m : List α} {a b : List γ}, listM f l = some a → listM f m = some b → listM f (l ++ m) = some (a ++ b)
  | [], m, a, b, h1, h2 => by
    simp only [listM, Option.some.injEq] at h1
    subst h1
    simpa using h2
  | y :: l, m, a, b, h1, h2 => by
    simp only [listM] at h1
    cases hy : f y with
    | none => simp [hy] at h1
    | some c =>
      simp only [hy] at h1
      cases hl : listM f l with
      | none => simp [hl] at h1
      | some a' =>
        simp only [hl, Option.some.injEq] at h1
        subst h1
        simp only [List.cons_append, listM, hy, listM_append hl h2]

section
variable {C : Ctx} {p : Nat}

theorem seqSplit {a b : VCode} {s s' : St} (h : run C p (.seq a b) s = some (.normal, s')) : ∃ s1, run C p a s = some (.normal, s1) ∧ run C p b s1 = some (.normal, s') := by
  rw [run] at h
  cases ha : run C p a s with
  | none => rw [ha] at h; cases h
  | some x =>
    obtain ⟨e, s1⟩ := x
    rw [ha] at h
    cases e with
    | normal => exact ⟨s1, rfl, h⟩
    | exit i => cases h
    | ret => cases h

theorem runBlockRet {k : Nat} {a : VCode} {s s' : St} (h : run C p a s = some (.ret, s')) : run C p (.block k a) s = some (.ret, s') := by
  rw [run, h]

theorem Ends.mono {c : VCode} {s : St} {Q R : Ex → St → Prop} (h : Ends C p c s Q) (hq : ∀ e s, Q e s → R e s) : Ends C p c s R := by
  obtain ⟨e, s', h1, h2⟩ := h
  exact ⟨e, s', h1, hq _ _ h2⟩

theorem Ends.eqP {a b : VCode} {s s1 : St} {Q : Ex → St → Prop} (h1 : run C p a s = some (.normal, s1)) (h2 : Ends C p b s1 Q) : Ends C p (.seq a b) s Q := by
  obtain ⟨e, s2, e2, hq⟩ := h2
  exact ⟨e, s2, by rw [runSeq h1]; exact e2, hq⟩

end

/-- A function, from its body. -/
theorem evalFn_body {T : FuncId → Option VFun} {X : Oracle} {gl : Nat → List Cell} {n f : Nat} {vf : VFun} {args : List V} {objs : List Obj} {r : V × List Obj} (hT : T f = some vf) (hn : args.length = vf.nparams) (ho : objs.length ≤ 64)
    (h : Ends ⟨evalFn T X gl n, gl⟩ n vf.body ⟨enumF 0 args, enumF 0 (objs.map some)⟩ fun e s => (∀ id, e ≠ .exit id) ∧ finish vf.keep objs.length vf.results s = some r) : evalFn T X gl (n + 1) f args objs = some r := by
  obtain ⟨e, s', h, he, hb⟩ := h
  have h0 : (args.length == vf.nparams && Nat.ble objs.length 64) = true := by
    simp only [hn, beq_self_eq_true, Bool.true_and]
    exact Nat.ble_eq_true_of_le ho
  simp only [evalFn, hT, h0, cond_true, h]
  cases e with
  | normal => exact hb
  | exit id => exact absurd rfl (he id)
  | ret => exact hb

end Go.Vs

/- A program that turns a function's code into the language of the value semantics; what it gives is checked elsewhere. Nothing is claimed here. -/
namespace Go.Vs
open Go

/-- The value v, which was reckoned out of a. -/
abbrev G {α : Type} (a : α) {v : α} (_ : v = a := by conv => rhs; cbv) : α := v

/-- What is asked of a type: is it an aggregate, its cells, bytes, kind, elements, length, kind of integer, zero, fields. -/
structure TI where
  ag : Bool
  sz : Nat
  bt : Nat
  tg : Nat
  el : Nat
  n : Nat
  ik : IntKind
  zero : List W
  fs : List (Nat × Nat × Bool)
  deriving Inhabited

def cW : Value → W
  | .int k n => .c (.int k n)
  | .bool b => .c (.bool b)
  | .string s => .c (.str s.data.toList)
  | .pointer none => .c .nilptr
  | .nilFunc => .c .nilfn
  | .nilIface => .c .nilif
  | .slice none 0 0 => .nil
  | .map none => .c .mp
  | _ => .un
def cV : Value → V
  | .agg a => .ag (a.toList.map cW)
  | v => .sc (cW v)
def cO : Operand → Opd
  | .tmp t => .t t
  | .global g => .g g
  | .func f => .k (.sc (.c (.fn f [] [])))
  | .const v => .k (cV v)

def tgOf : TypeDesc → Nat
  | .bool => 1
  | .slice _ => 2
  | .pointer _ => 3
  | .func .. => 4
  | .interface _ => 5
  | .string => 6
  | .int _ => 7
  | .array .. => 8
  | .map .. => 9
  | _ => 0
def elOf : TypeDesc → Nat
  | .slice e => e
  | .array _ e => e
  | .map _ e => e
  | _ => 0
def keyK (P : Program) (t : Nat) : IntKind := match P.underlying t with | some (.int k) => k | _ => .i64
def keyS (P : Program) (t : Nat) : Nat := match P.underlying t with | some .string => 1 | _ => 0
def fsOf (P : Program) : TypeDesc → List (Nat × Nat × Bool)
  | .struct fs => fs.toList.map fun x => (x.offset, ((P.info? x.type).map (·.size)).getD 0, isAggB P x.type)
  | _ => []
def mkTI (P : Program) (t : Nat) : TI := match P.info? t, P.underlying t with
  | some i, some d => ⟨isAggB P t, i.size, i.bytes, tgOf d, elOf d, match d with | .array n _ => n | .map k _ => keyS P k | _ => 0, match d with | .int k => k | .map k _ => keyK P k | _ => .i64, match i.zero with | some z => z.cells.toList.map cW | none => [], fsOf P d⟩
  | _, _ => default

/-- The types by the bits of their numbers. -/
inductive TT where
  | no
  | lf (x : TI)
  | nd (p : Nat) (l r : TT)
def mkTT (P : Program) (used : Nat) : Nat → Nat → TT
  | 0, b => if used / 2 ^ (b % 256) % 2 = 1 then .lf (mkTI P b) else .no
  | d + 1, b => .nd (b + 2 ^ d) (mkTT P used d b) (mkTT P used d (b + 2 ^ d))
def TT.get : TT → Nat → TI
  | .no, _ => default
  | .lf x, _ => x
  | .nd p l r, n => if n < p then l.get n else r.get n

section
variable (T : TT)
def tI (t : Nat) : TI := T.get t
def eI (t : Nat) : TI := tI T (tI T t).el

def cZ : W → Cell
  | .c x => x
  | .nil => .sl []
  | _ => .mp
def kdT (t : Nat) : Option IntKind := if (tI T t).n = 1 then none else some (tI T t).ik
def cOp : Op → VOp
  | .move x | .assign x => .mv (cO x)
  | .pick a b d => .pick (cO a) (cO b) (cO d)
  | .binOp op t x y _ => .bin op (if (tI T t).tg ≤ 5 then (tI T t).tg else 0) (cO x) (cO y)
  | .unOp op _ x => .un op (cO x)
  | .alloc t => .new (tI T t).zero []
  | .box _ x => .box (cO x)
  | .build t ps => .build (tI T t).zero (ps.toList.map fun x => if (tI T t).tg = 8 then (x.1 * (eI T t).sz, (eI T t).sz, cO x.2) else match (tI T t).fs[x.1]? with | some p => (p.1, p.2.1, cO x.2) | none => (0, 0, cO x.2))
  | .buildSlice t _ ps => .mkSl (eI T t).sz (ps.toList.map fun x => cO x.2)
  | .load t x => .load (tI T t).ag (tI T t).sz (cO x)
  | .store t x y => .store (tI T t).sz (cO x) (cO y) []
  | .nilCheck x => .nn (cO x)
  | .fieldAddr t x f => .fld (((tI T t).fs[f]?).getD (0, 0, false)).1 (cO x)
  | .field t x f => match (tI T t).fs[f]? with | some p => .part p.2.2 p.1 p.2.1 (cO x) | none => .bad
  | .indexAddr t x i => if (tI T t).tg = 8 then .idxAA (eI T t).sz (tI T t).n (cO x) (cO i) else .idxA (eI T t).sz (cO x) (cO i)
  | .index _ x i => .idxS (cO x) (cO i)
  | .slice t x lo hi mx => match (tI T t).tg with
    | 6 => .slS (cO x) (lo.map cO) (hi.map cO)
    | 8 => .slA (eI T t).sz (tI T t).n (cO x) (lo.map cO) (hi.map cO)
    | _ => .sl (eI T t).sz (cO x) (lo.map cO) (hi.map cO) (mx.map cO)
  | .makeSlice t x _ => .mkS (eI T t).sz (eI T t).bt (eI T t).zero (cO x)
  | .makeFunc (.func g) _ ys => .fn g (ys.toList.map cO)
  | .extract x j => .ext j (cO x)
  | .convert src dst x => match (tI T src).tg, (tI T dst).tg with
    | 7, _ => .cvI (tI T dst).ik (cO x)
    | 6, _ => .cvB (cO x)
    | _, _ => .cvS (cO x)
  | .makeInterface t x => .ifc t (cO x)
  | .makeMap .. => .newM
  | .lookup t m x ok => .lkM (kdT T t) ((eI T t).zero.map cZ) (Bool.not (eI T t).ag) ok (cO m) (cO x)
  | .mapUpdate t m x y => .upM (kdT T t) (cO m) (cO x) (cO y)
  | .insert t m x y => .upM (kdT T t) (cO m) (cO x) (cO y)
  | .call { callee := .builtin b, args := ⟨x :: r⟩, argTypes := ⟨t :: _⟩ } => match b, r with
    | .len, _ => .len (Nat.beq (tI T t).tg 6) (cO x)
    | .max, [y] => .mx (cO x) (cO y)
    | .min, [y] => .mn (cO x) (cO y)
    | .append, [y] => .app (eI T t).sz (eI T t).bt false (cO x) (cO y)
    | .clear, _ => .clr (eI T t).sz (eI T t).zero (cO x)
    | .copy, [y] => .cp (eI T t).sz (cO x) (cO y)
    | _, _ => .bad
  | .defer { callee := .value g, args := _, argTypes := _ } => .mv (cO g)
  | .call { callee := .value g, args := xs, argTypes := ts } => .call (cO g) ((xs.toList.zip ts.toList).map fun x => (Nat.beq (tI T x.2).tg 3 || Nat.beq (tI T x.2).tg 4 || Nat.beq (tI T x.2).tg 9, cO x.1)) []
  | _ => .bad

/-- Does the operation make an object? -/
def mkO : VOp → Bool
  | .new .. | .newA .. | .newM | .box _ | .mkSl .. | .mkS .. | .call .. | .appN .. | .appF .. => true
  | .app _ _ mk _ _ => mk
  | .store _ _ _ (_ :: _) => true
  | _ => false

/-- Hints: an operation's other form by its number (0 mk, 1 by reference, 2 as data, 3 own rows within, 4 own rows, 5 to data, 6 append to nil, 7 append to a clone, 8 none) with its arguments, the objects that a region drops, those that become data there, slots that stay. -/
structure TH where
  ov : List (Nat × Nat × List Nat)
  dr : List (Nat × List Nat)
  ml : List (Nat × Nat)
  st : List Nat

def pairs2 : List Nat → List (Nat × Nat)
  | a :: b :: r => (a, b) :: pairs2 r
  | _ => []
def setB (l : List (Bool × Opd)) (j : Nat) (b : Bool) : List (Bool × Opd) := match l, j with
  | [], _ => []
  | x :: r, 0 => (b, x.2) :: r
  | x :: r, j + 1 => x :: setB r j b
def hint1 (k : Nat) (l : List Nat) (x : VOp × List (Nat × Nat)) : VOp × List (Nat × Nat) := match k, x.1 with
  | 0, .app s b _ p q => (.app s b true p q, x.2)
  | 1, .call f as o => (.call f (l.foldl (fun as j => setB as j true) as) o, x.2)
  | 2, .call f as o => (.call f (l.foldl (fun as j => setB as j false) as) o, x.2)
  | 3, .call f as _ => (.call f as (pairs2 l), x.2)
  | 3, .new z _ => (.new z (pairs2 l), x.2)
  | 3, .store n a y _ => (.store n a y (pairs2 l), x.2)
  | 4, op => (op, pairs2 l)
  | 5, .mv p => (.mvD p, x.2)
  | 5, .box p => (.boxD p, x.2)
  | 5, .build z p => (.bldD z p, x.2)
  | 5, .load a n p => (.ldD a n p, x.2)
  | 5, .new z _ => (.newA (l.headD 0) (z.take (l.getD 1 0)), x.2)
  | 6, .app s b _ _ q => (.appN s b q, x.2)
  | 7, .app s b _ p q => (.appF s b p q, x.2)
  | 7, .mkSl .. => (.mkE, x.2)
  | 8, .bin op _ p q => (.bin op (l.headD 0) p q, x.2)
  | _, _ => x
def hint (i : Nat) : List (Nat × Nat × List Nat) → VOp × List (Nat × Nat) → VOp × List (Nat × Nat)
  | [], x => x
  | h :: r, x => if i < h.1 then x else hint i r (if h.1 = i then hint1 h.2.1 h.2.2 x else x)

def gOf (all : List Oper) : Option (Nat × Bool) → Option (Nat × Bool)
  | none => none
  | some g => match all[g.1]? with | some o' => o'.dst.map fun t => (t, g.2) | none => none
def mkOp (d : Option Nat) (g : Option (Nat × Bool)) (i : Nat) : VOp × List (Nat × Nat) → VOper
  | (op, own) => ⟨d, op, g, if mkO op || !own.isEmpty then 64 + 64 * i else 0, own⟩
def cOper (H : TH) (all : List Oper) (i : Nat) (o : Oper) : VOper := mkOp o.dst (gOf all o.guard) i (hint i H.ov (cOp T o.op, []))
def cOps (H : TH) (all : List Oper) : Nat → List Oper → List VOper
  | _, [] => []
  | i, o :: r => cOper T H all i o :: cOps H all (i + 1) r
def chkOf (v : List VOper) (anc : List (List Nat)) : List (Nat × Nat) := (List.range v.length).flatMap fun j => (List.range j).filterMap fun i =>
  if ((anc[j]?).getD []).contains i then none else match v[i]?, v[j]? with
    | some x, some y => if isPlain x || isPlain y then none else some (i, j)
    | _, _ => none
def szC : Code → Nat
  | .seq a b | .cond _ a b | .rangeFunc _ _ a b => szC a + szC b
  | .region _ ops _ => ops.toList.length
  | .block _ a | .loop a | .scope a => szC a
  | _ => 0
def drOf (H : TH) (i : Nat) : List Nat := (get? H.dr i).getD []
def cC (H : TH) (rb : Nat × Nat × Bool) : Nat → Code → VCode
  | i, .region _ ops draw =>
    let v := cOps T H ops.toList i ops.toList
    H.ml.foldr (fun m c => if m.1 = i then .melt m.2 c else c) (.region (drOf H i) v (if draw then chkOf v (ancTab ops.toList []) else []) [])
  | i, .seq a b => .seq (cC H rb i a) (cC H rb (i + szC a) b)
  | i, .cond c a b => .cond (cO c) (cC H rb i a) (cC H rb (i + szC a) b)
  | i, .block id b => .block id (cC H rb i b)
  | i, .loop b => .loop (cC H rb i b)
  | i, .scope b => .melt 63 (cC H rb i b)
  | i, .rangeFunc g ⟨[p, q]⟩ a b => .rangeB (cO g) rb.1 rb.2.1 rb.2.2 p q (cC H rb i a) (cC H rb (i + szC a) b)
  | _, .exit id => .exit id
  | _, .ret => .ret
  | _, .skip | _, .label _ => .skip
  | _, _ => .bad
end

/- ## What is live: slots as bits -/
def bO : Opd → Nat | .t n => 2 ^ n | _ => 0
def bM (l : Option Opd) : Nat := match l with | some x => bO x | none => 0
def bL : List Opd → Nat
  | [] => 0
  | x :: r => bO x ||| bL r
def bU : VOp → Nat
  | .mv x | .un _ x | .box x | .boxD x | .fld _ x | .part _ _ _ x | .len _ x | .ext _ x | .cvI _ x | .ifc _ x | .nn x | .cvB x | .cvS x | .load _ _ x | .ldD _ _ x | .mvD x | .mkS _ _ _ x | .clr _ _ x | .appN _ _ x => bO x
  | .pick c a b | .upM _ c a b => bO c ||| bO a ||| bO b
  | .bin _ _ x y | .idxA _ x y | .idxAA _ _ x y | .idxS x y | .mx x y | .mn x y | .app _ _ _ x y | .cp _ x y | .appF _ _ x y | .store _ x y _ | .lkM _ _ _ _ x y => bO x ||| bO y
  | .build _ ps | .bldD _ ps => bL (ps.map (·.2.2))
  | .mkSl _ xs => bL xs
  | .slS x l h | .slA _ _ x l h => bO x ||| bM l ||| bM h
  | .sl _ x l h m => bO x ||| bM l ||| bM h ||| bM m
  | .fn _ cs => bL cs
  | .call f l _ => bO f ||| bL (l.map (·.2))
  | _ => 0
def without (m b : Nat) : Nat := m - (m &&& b)
def bOps : List VOper → Nat → Nat
  | [], out => out
  | o :: r, out => (match o.dst with | some d => without (bOps r out) (2 ^ d) | none => bOps r out) ||| bU o.op ||| (match o.guard with | some g => 2 ^ g.1 | none => 0)
def exO (ex : List (Nat × Nat)) : Nat := match ex with
  | [] => 0
  | x :: r => x.2 ||| exO r
def kills : List VOper → Nat
  | [] => 0
  | o :: r => match o.dst with | some d => 2 ^ d ||| kills r | none => kills r
/-- What of code matters to what is live. -/
inductive DG where
  | r (u k : Nat)
  | s (a b : DG)
  | c (m : Nat) (a b : DG)
  | b (id : Nat) (a : DG)
  | l (a : DG)
  | e (id : Nat)
  | t
  | x (m q : Nat) (a b : DG)
  | z
def dg : VCode → DG
  | .region _ ops _ _ => .r (bOps ops 0) (kills ops)
  | .seq a b => .s (dg a) (dg b)
  | .cond c a b => .c (bO c) (dg a) (dg b)
  | .block id a => .b id (dg a)
  | .loop a => .l (dg a)
  | .exit id => .e id
  | .ret => .t
  | .melt _ a => dg a
  | .rangeB x _ _ _ p q a b => .x (bO x) (2 ^ p ||| 2 ^ q) (dg a) (dg b)
  | _ => .z
/-- What is live ahead of code. -/
def lv (rets : Nat) : List (Nat × Nat) → DG → Nat → Nat
  | _, .r u k, out => without out k ||| u
  | ex, .s a b, out => lv rets ex a (lv rets ex b out)
  | ex, .c m x y, out => lv rets ex x out ||| lv rets ex y out ||| m
  | ex, .b id b, out => lv rets ((id, out) :: ex) b out
  | ex, .l b, _ => lv rets ex b 0
  | ex, .e id, out => (get? ex id).getD out
  | _, .t, _ => rets
  | ex, .x m q a b, out => (out ||| rets ||| exO ex) ||| without (lv rets ex a (lv rets ex b (out ||| rets ||| exO ex))) q ||| m
  | _, .z, out => out
def bits : Nat → Nat → Nat → List Nat
  | 0, _, _ => []
  | n + 1, k, m => if m = 0 then [] else if m % 2 = 1 then k :: bits n (k + 1) (m / 2) else bits n (k + 1) (m / 2)
def nLp : VCode → Nat
  | .seq a b | .cond _ a b => nLp a + nLp b
  | .block _ a | .melt _ a => nLp a
  | .loop a => nLp a + 1
  | .rangeB _ _ _ _ _ _ _ b => nLp b + 1
  | _ => 0
/-- Code with its live lists; loops' bodies stand apart, in their order; and what is live ahead of it. -/
def lB (rets st : Nat) (ls : List VCode) : List (Nat × Nat) → Nat → VCode → DG → Nat → VCode × List VCode × Nat
  | _, _, .region d ops chk _, .r u k, out => (.region d ops chk (if out = 0 then [1000000] else bits 400 0 (out ||| st)), [], without out k ||| u)
  | ex, k, .seq a b, .s da db, out =>
    let y := lB rets st ls ex (k + nLp a) b db out
    let x := lB rets st ls ex k a da y.2.2
    (.seq x.1 y.1, x.2.1 ++ y.2.1, x.2.2)
  | ex, k, .cond c a b, .c m da db, out =>
    let x := lB rets st ls ex k a da out
    let y := lB rets st ls ex (k + nLp a) b db out
    (.cond c x.1 y.1, x.2.1 ++ y.2.1, x.2.2 ||| y.2.2 ||| m)
  | ex, k, .block id b, .b _ d, out => let x := lB rets st ls ((id, out) :: ex) k b d out; (.block id x.1, x.2)
  | ex, k, .loop b, .l d, _ =>
    let x := lB rets st ls ex k b d (lv rets ex d 0)
    (.loop ((ls[k + nLp b]?).getD .bad), x.2.1 ++ [x.1], lv rets ex d 0)
  | ex, k, .melt m b, d, out => let x := lB rets st ls ex k b d out; (.melt m x.1, x.2)
  | ex, k, .rangeB x f s ag p q a b, .x m w da db, out =>
    let all := out ||| rets ||| exO ex
    let y := lB rets st ls ex k b db all
    let u := lB rets st ls ex k a da y.2.2
    (.rangeB x f s ag p q u.1 ((ls[k + nLp b]?).getD .bad), y.2.1 ++ [y.1], all ||| without u.2.2 w ||| m)
  | ex, _, .exit id, _, out => (.exit id, [], (get? ex id).getD out)
  | _, _, .ret, _, _ => (.ret, [], rets)
  | _, _, c, _, out => (c, [], out)

def resOf (T : TT) : ResultVar → VRes
  | .tmp t => .tmp t
  | .cell t ty => .cell t (tI T ty).ag (tI T ty).sz
def resBit : VRes → Nat
  | .tmp t => 2 ^ t
  | .cell t _ _ => 2 ^ t
def orAll : List Nat → Nat
  | [] => 0
  | x :: r => x ||| orAll r
/-- A function out of its code with operations (cC). -/
def lF (T : TT) (f : Func) (keep : Bool) (st : List Nat) (c : VCode) (ls : List VCode) : VFun × List VCode :=
  let rs := f.results.toList.map (resOf T)
  let rb := orAll (rs.map resBit)
  let y := lB rb (orAll (st.map fun k => 2 ^ k)) ls [] 0 c (dg c) rb
  (⟨f.params.toList.length + f.nfree, y.1, rs, keep⟩, y.2.1)
def cF (T : TT) (f : Func) (keep : Bool) (H : TH) (rb : Nat × Nat × Bool) (ls : List VCode) : VFun × List VCode :=
  lF T f keep H.st (cC T H rb 0 (f.body.getD .skip)) ls

end Go.Vs
