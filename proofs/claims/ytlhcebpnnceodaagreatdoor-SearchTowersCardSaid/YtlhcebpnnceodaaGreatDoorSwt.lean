/- Parts of a code, by the place that its first operation writes. Nothing is claimed here. -/
import Derived.Test.YtlhcebpnnceodaaGreatDoorB4t
import Derived.Test.YtlhcebpnnceodaaGreatDoorM6t
import Derived.Test.YtlhcebpnnceodaaGreatDoorSdt
import Derived.Test.YtlhcebpnnceodaaGreatDoorS1t
import Derived.Test.YtlhcebpnnceodaaGreatDoorS4t
import Derived.Test.YtlhcebpnnceodaaGreatDoorS5t
import Derived.Test.YtlhcebpnnceodaaGreatDoorS6t
import Derived.Test.YtlhcebpnnceodaaGreatDoorS7t
import Derived.Test.YtlhcebpnnceodaaGreatDoorS9t
set_option linter.unusedSimpArgs false
set_option linter.unusedVariables false
set_option linter.deprecated false

/- Parts of a code, by the place that its first operation writes. Nothing is claimed here. -/
namespace Go.Vs
open Go

/-- Does the code begin with the operation that writes place k? -/
def hC (k : Nat) : VCode → Bool
  | .seq a _ => hC k a
  | .region _ (o :: _) _ _ => o.dst == some k
  | _ => false
/-- The part that begins so. -/
def fdC (k : Nat) : VCode → VCode
  | .seq a b => if hC k a then .seq a b else match fdC k a with
    | .bad => fdC k b
    | c => c
  | .cond _ x y => match fdC k x with
    | .bad => fdC k y
    | c => c
  | .block _ b => fdC k b
  | .region d l c e => if hC k (.region d l c e) then .region d l c e else .bad
  | _ => .bad
/-- The part that begins so replaced. -/
def rpC (k : Nat) (a : VCode) : VCode → VCode
  | .seq x y => if hC k x then a else .seq (rpC k a x) (rpC k a y)
  | .cond c x y => .cond c (rpC k a x) (rpC k a y)
  | .block i b => .block i (rpC k a b)
  | c => if hC k c then a else c
/-- A table of bytes under another name. -/
def rtO (a : List UInt8) (o : VOper) : VOper := match o.op with
  | .idxS (.k (.sc (.c (.str _)))) i => ⟨o.dst, .idxS (.k (.sc (.c (.str a)))) i, o.guard, o.oid, o.own⟩
  | _ => o
def rtL (a : List UInt8) : List VOper → List VOper
  | [] => []
  | o :: r => rtO a o :: rtL a r
def rtC (a : List UInt8) : VCode → VCode
  | .seq x y => .seq (rtC a x) (rtC a y)
  | .cond c x y => .cond c (rtC a x) (rtC a y)
  | .block i b => .block i (rtC a b)
  | .region d l c e => .region d (rtL a l) c e
  | c => c
end Go.Vs

/- SearchTowers: the law. -/
namespace Go.Vs.Tryz
open Go Go.Vs Go.Proofs.Tryz
set_option maxRecDepth 100000
noncomputable section
theorem owA (n : Nat) (hn : n < 7) : FnOk prog gl0 7 (twA ((n + 1 : Nat) : Int)) [] (twR n).1 (twR n).2 := by
  match n, hn with
  | 0, _ => exact ow1
  | 1, _ => exact ow2
  | 2, _ => exact ow3
  | 3, _ => exact ow4
  | 4, _ => exact ow5
  | 5, _ => exact ow6
  | 6, _ => exact ow7
def swK (n : Nat) : List KE := [⟨4, [], [], .sc (.c (.bool true)), []⟩, ⟨6, [.sc (.c (.int .i64 16))], [], .sc (.c (.sl [natRow])), []⟩, ⟨8, [.sc (.c (.str [78, 97, 116])), .sc (.c (.sl []))], [], natG, []⟩,
  ⟨7, twA ((n + 1 : Nat) : Int), [], (twR n).1, (twR n).2⟩, ⟨9, [towV n, towV n], [], .sc (.c (.bool true)), []⟩]
theorem swK_ok (n : Nat) (hn : n < 7) : ∀ e ∈ swK n, KOk e := by
  simp only [swK, List.mem_cons, List.not_mem_nil, or_false]
  rintro e (rfl | rfl | rfl | rfl | rfl)
  · exact ofirst
  · exact od6
  · exact od8
  · exact owA n hn
  · exact oe9 n hn
def Tw : FuncId → Option VFun := fun f => bif f == 3 || f == 5 then T f else none
theorem Tw_ok : ∀ f vf, Tw f = some vf → mFun prog f vf = true := by
  intro f vf h
  unfold Tw at h
  cases hf : (f == 3 || f == 5) with
  | true => rw [hf] at h; exact T_ok f vf h
  | false => rw [hf] at h; cases h
def Kw (n : Nat) : Ctx := ⟨lim Tw (findO (swK n)) gl0, gl0⟩
@[simp] theorem Kw_gl (n : Nat) : (Kw n).gl = gl0 := rfl
theorem fn_w {n : Nat} {f : FuncId} {vf : VFun} {args : List V} {objs : List Obj} {r : V × List Obj} (hT : Tw f = some vf) (hn : args.length = vf.nparams) (ho : objs.length ≤ 1024)
    (h : wp (Kw n) vf.body (doneQ vf.keep objs.length vf.results r) ⟨enumF 0 args, enumF 0 (objs.map some)⟩) : (Kw n).call f args objs = some r := lim_wp hT hn ho h
theorem kw_x {n : Nat} {f : FuncId} {args : List V} {res : V} (hT : Tw f = none) (h : findO (swK n) f args [] = some (res, [])) : (Kw n).call f args [] = some (res, []) := lim_X hT h
theorem le_w (n : Nat) : Le (findO (swK n)) (Kw n).call := by
  intro f a o r h
  by_cases hf : Tw f = none
  · exact lim_X hf h
  · exfalso
    have h1 : f = 3 ∨ f = 5 := by
      unfold Tw at hf
      cases hb : (f == 3 || f == 5) with
      | true => simpa using hb
      | false => rw [hb] at hf; exact absurd rfl hf
    rcases h1 with rfl | rfl <;> (unfold swK at h; cases h)
abbrev natV (n : Nat) : V := .sc (.c (.int .i64 n))
abbrev numV (n : Int) : V := .sc (.c (.int .i64 n))
def modN (a m : Int) : Nat := if a.tmod m < 0 then (a.tmod m + m).toNat else (a.tmod m).toNat
theorem modN_lt (a m : Int) (hm : 0 < m) : (modN a m : Int) < m := by
  have hlt : a.tmod m < m := Int.tmod_lt_of_pos a (by omega)
  unfold modN
  split <;> omega
theorem mod5 (q : Nat) (a m : Int) (hm : 0 < m) (hb : m ≤ 687194767360) : (Kw q).call 5 [numV a, numV m] [] = some (natV (modN a m), []) := by
  have h1 : ¬ m < 1 := by omega
  have h0 : m ≠ 0 := by omega
  have hlt : a.tmod m < m := Int.tmod_lt_of_pos a (by omega)
  have hgt : -m < a.tmod m := Int.lt_tmod_of_pos a (by omega)
  unfold modN
  by_cases hneg : a.tmod m < 0
  · have hw : ((a.tmod m + m).toNat : Int) = a.tmod m + m := by omega
    rw [if_pos hneg, natV, hw]
    refine fn_w (vf := v5) (by kernel_rfl) rfl (by simp) ?_
    unfold v5
    simp (disch := first | omega | (simp; done) | (simp; omega)) [h1, h0, hneg]
  · have hw : ((a.tmod m).toNat : Int) = a.tmod m := by omega
    rw [if_neg hneg, natV, hw]
    refine fn_w (vf := v5) (by kernel_rfl) rfl (by simp) ?_
    unfold v5
    simp (disch := first | omega | (simp; done) | (simp; omega)) [h1, h0, hneg]
/-- The code behind the size. -/
def b3 : VCode := fdC 14 v3.body
theorem v3_eq : v3.body = .seq (.region [] [⟨some 2, .mv (.k (.sc (.c (.bool false)))), none, 0, []⟩] [] [0])
    (.seq (.seq (.region [] [⟨some 9, .call (.k (.sc (.c (.fn 4 [] [])))) [] [], none, 1088, []⟩, ⟨some 10, .un .not (.t 9), none, 0, []⟩] [] [0, 10])
      (.cond (.t 10) (.seq (.region [] [⟨some 2, .mv (.k (.sc (.c (.bool false)))), none, 0, []⟩] [] [2]) .ret) .skip))
    (.seq (.region [] [⟨some 11, .mv (.t 0), none, 0, []⟩, ⟨some 12, .call (.k (.sc (.c (.fn 5 [] [])))) [(false, .t 11), (false, .k (.sc (.c (.int .i64 7))))] [], none, 1344, []⟩,
      ⟨some 13, .bin .add 0 (.k (.sc (.c (.int .i64 1)))) (.t 12), none, 0, []⟩, ⟨some 3, .mv (.t 13), none, 0, []⟩] [] [3]) b3)) := by kernel_rfl
def end3 (r : Option (Ex × St)) : Option (V × List Obj) := match r with
  | some (.exit _, _) => none
  | some (_, s) => (finish v3.keep 0 v3.results s).map (normR v3.keep)
  | none => none
theorem rest3_0 : end3 (run ⟨findO (swK 0), gl0⟩ 30 b3 ⟨[(3, numV (1 + ((0 : Nat) : Int)))], []⟩) = some (.sc (.c (.bool true)), []) := by kernel_rfl
theorem rest3_1 : end3 (run ⟨findO (swK 1), gl0⟩ 30 b3 ⟨[(3, numV (1 + ((1 : Nat) : Int)))], []⟩) = some (.sc (.c (.bool true)), []) := by kernel_rfl
theorem rest3_2 : end3 (run ⟨findO (swK 2), gl0⟩ 30 b3 ⟨[(3, numV (1 + ((2 : Nat) : Int)))], []⟩) = some (.sc (.c (.bool true)), []) := by kernel_rfl
theorem rest3_3 : end3 (run ⟨findO (swK 3), gl0⟩ 30 b3 ⟨[(3, numV (1 + ((3 : Nat) : Int)))], []⟩) = some (.sc (.c (.bool true)), []) := by kernel_rfl
theorem rest3_4 : end3 (run ⟨findO (swK 4), gl0⟩ 30 b3 ⟨[(3, numV (1 + ((4 : Nat) : Int)))], []⟩) = some (.sc (.c (.bool true)), []) := by kernel_rfl
theorem rest3_5 : end3 (run ⟨findO (swK 5), gl0⟩ 30 b3 ⟨[(3, numV (1 + ((5 : Nat) : Int)))], []⟩) = some (.sc (.c (.bool true)), []) := by kernel_rfl
theorem rest3_6 : end3 (run ⟨findO (swK 6), gl0⟩ 30 b3 ⟨[(3, numV (1 + ((6 : Nat) : Int)))], []⟩) = some (.sc (.c (.bool true)), []) := by kernel_rfl
theorem rest3 : ∀ r < 7, end3 (run ⟨findO (swK r), gl0⟩ 30 b3 ⟨[(3, numV (1 + (r : Int)))], []⟩) = some (.sc (.c (.bool true)), []) := by
  intro n hn
  match n, hn with
  | 0, _ => exact rest3_0
  | 1, _ => exact rest3_1
  | 2, _ => exact rest3_2
  | 3, _ => exact rest3_3
  | 4, _ => exact rest3_4
  | 5, _ => exact rest3_5
  | 6, _ => exact rest3_6
theorem rest_wp (r : Nat) (hr : r < 7) : wp (Kw r) b3 (doneQ v3.keep 0 v3.results (.sc (.c (.bool true)), [])) ⟨[(3, numV (1 + (r : Int)))], []⟩ := by
  have h := rest3 r hr
  cases e : run ⟨findO (swK r), gl0⟩ 30 b3 ⟨[(3, numV (1 + (r : Int)))], []⟩ with
  | none => rw [e] at h; cases h
  | some q =>
    obtain ⟨x, s⟩ := q
    rw [e] at h
    refine ⟨30, x, s, run_mono (le_w r) (Nat.le_refl _) e, ?_⟩
    cases x with
    | exit id => cases h
    | normal => exact ⟨by simp, h⟩
    | ret => exact ⟨by simp, h⟩
theorem sw_law (z : Int) : FnOk prog gl0 3 [numV z] [] (.sc (.c (.bool true))) [] := by
  have hr := modN_lt z 7 (by omega)
  have h5 := mod5 (modN z 7) z 7 (by omega) (by omega)
  generalize modN z 7 = r at hr h5
  have hr : r < 7 := by omega
  have h4 : (Kw r).call 4 [] [] = some (.sc (.c (.bool true)), []) := kw_x (by kernel_rfl) (by rfl)
  have h : (Kw r).call 3 [numV z] [] = some (.sc (.c (.bool true)), []) := by
    refine fn_w (vf := v3) (by kernel_rfl) rfl (by simp) ?_
    have hb := rest_wp r hr
    rw [v3_eq]
    have hk : (1 : Int) + (r : Int) = 1 + (r : Int) := rfl
    generalize b3 = b at hb
    simp (disch := first | omega | (simp; done) | (simp; omega)) [h4, h5]
    exact hb
  obtain ⟨n, h⟩ := lim_ex h
  exact evalN_ok follows Tw_ok (findO_ok (Q := FnOk prog gl0) (swK_ok r hr)) n h
abbrev intV (n : Int) : V := .sc (.c (.int .i64 n))
abbrev boolV (b : Bool) : V := .sc (.c (.bool b))
theorem searchTowers_fn (x0 : Int) : FnOk Go.Proofs.Tryz.prog gl0 3 [intV x0] [] (boolV true) [] := sw_law x0
end
end Go.Vs.Tryz
