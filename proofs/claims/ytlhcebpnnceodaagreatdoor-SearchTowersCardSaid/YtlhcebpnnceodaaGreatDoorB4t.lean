/- The tables. -/
import Derived.Test.YtlhcebpnnceodaaGreatDoorT1t
import Derived.Test.YtlhcebpnnceodaaGreatDoorT2t
import Derived.Test.YtlhcebpnnceodaaGreatDoorT3t
import Derived.Test.YtlhcebpnnceodaaGreatDoorT4t
import Derived.Test.YtlhcebpnnceodaaGreatDoorM4t
set_option linter.unusedSimpArgs false
set_option linter.unusedVariables false
set_option linter.deprecated false

/- The tables. -/
namespace Go.Vs.Tryz
open Go Go.Vs Go.Proofs.Tryz
set_option maxRecDepth 100000
set_option maxHeartbeats 8000000
noncomputable section
def tab:TL:=[a1_0,a1_1,a2_0,a2_1,a3_0,a3_1,a3_2,a4_0,a4_1].flatten
def T:FuncId → Option VFun:=get? tab
theorem T_ok:∀ f vf,T f=some vf→mFun prog f vf=true:=all_get (l:=tab) (by unfold tab;simp only [List.flatten_cons,List.flatten_nil,List.all_append,List.all_nil,k1_0,k1_1,k2_0,k2_1,k3_0,k3_1,k3_2,k4_0,k4_1,Bool.and_self])
def cab : List (Nat × VFun) := [(132, v132)]
def Tc : FuncId → Option VFun := get? cab
theorem Tc_ok : ∀ f vf, Tc f = some vf → mFun prog f vf = true := AllT.get (l := cab) ⟨m132, trivial⟩
theorem follows : prog.follows .mixedOrders = true := by kernel_rfl
end
end Go.Vs.Tryz

/- The oracle beside the tables: Clone of empty slices. No package-level variable is read. -/
namespace Go.Vs.Tryz
open Go Go.Vs

def gl0 : Nat → List Cell := fun _ => []
def X : Oracle := fun f args objs => match objs with
  | _ :: _ => evalFn Tc (fun _ _ _ => none) gl0 3 f args objs
  | [] => match args with
    | [.sc (.c (.sl []))] => bif f == 132 then some (.sc (.c (.sl [])), []) else none
    | _ => evalFn Tc (fun _ _ _ => none) gl0 3 f args objs

abbrev ev (n : Nat) (f : FuncId) (args : List V) (objs : List Obj) : Option (V × List Obj) := evalFn T X gl0 n f args objs
end Go.Vs.Tryz

/- The oracle beside the tables is sound. -/
namespace Go.Vs
open Go

theorem clone_empty {P : Program} {gl : Nat → List Cell} {f : FuncId} (h1 : FnOk P gl f [.sc (.e0 true)] [] (.sc (.c (.sl []))) []) (h2 : FnOk P gl f [.sc (.e0 false)] [] (.sc (.full [])) []) :
    FnOk P gl f [.sc (.c (.sl []))] [] (.sc (.c (.sl []))) [] := by
  refine ⟨h1.1, fun w ω β cargs hgl hargs hobj hinj => ?_⟩
  obtain ⟨l⟩ := cargs
  match l, hargs with
  | [], hargs => simp [RVs] at hargs
  | v :: _ :: _, hargs => simp [RVs] at hargs
  | [v], hargs =>
    simp only [RVs, RV1, RW, RD, and_true] at hargs
    obtain ⟨base, cap, hv, _, hcap, _⟩ := hargs
    simp only [List.length_nil] at hv
    cases base with
    | none =>
      have hr : RVs w ω β (Lof []) [.sc (.e0 true)] [v] := by
        simp only [RVs, RV1, RW, and_true]
        exact ⟨none, cap, hv, hcap, rfl⟩
      exact h1.2 w ω β #[v] hgl hr hobj hinj
    | some a =>
      have hr : RVs w ω β (Lof []) [.sc (.e0 false)] [v] := by
        simp only [RVs, RV1, RW, and_true]
        exact ⟨some a, cap, hv, hcap, rfl⟩
      refine (h2.2 w ω β #[v] hgl hr hobj hinj).mono ?_
      rintro e w' ⟨vv, ω', β', he, hrv, hrest⟩
      exact ⟨vv, ω', β', he, by simp only [RV, RV1, RW] at hrv ⊢; exact hrv.1, hrest⟩

namespace Tryz

theorem X_none : ∀ (f : FuncId) (args : List V) (objs : List Obj) (rv : V) (objs' : List Obj), (fun _ _ _ => none : Oracle) f args objs = some (rv, objs') → FnOk Go.Proofs.Tryz.prog gl0 f args objs rv objs' :=
  fun _ _ _ _ _ h => by cases h

theorem Tc_fn {n : Nat} {f : FuncId} {args : List V} {objs : List Obj} {rv : V} {objs' : List Obj} (h : evalFn Tc (fun _ _ _ => none) gl0 n f args objs = some (rv, objs')) : FnOk Go.Proofs.Tryz.prog gl0 f args objs rv objs' :=
  evalFn_ok follows Tc_ok X_none n h

theorem clone_of : FnOk Go.Proofs.Tryz.prog gl0 132 [.sc (.c (.sl []))] [] (.sc (.c (.sl []))) [] :=
  clone_empty (Tc_fn (n := 3) (by kernel_rfl)) (Tc_fn (n := 3) (by kernel_rfl))

theorem X_ok : ∀ (f : FuncId) (args : List V) (objs : List Obj) (rv : V) (objs' : List Obj), X f args objs = some (rv, objs') → FnOk Go.Proofs.Tryz.prog gl0 f args objs rv objs' := by
  intro f args objs rv objs' h
  unfold X at h
  split at h
  · exact Tc_fn h
  · split at h
    · cases hc : (f == 132) with
      | false => rw [hc] at h; cases h
      | true =>
        rw [hc] at h
        simp only [cond_true, Option.some.injEq, Prod.mk.injEq] at h
        simp only [beq_iff_eq] at hc
        obtain ⟨rfl, rfl⟩ := h
        subst hc
        exact clone_of
    · exact Tc_fn h

/-- What the evaluator says, the program does. -/
theorem ev_ok {n : Nat} {f : FuncId} {args : List V} {objs : List Obj} {rv : V} {objs' : List Obj} (h : ev n f args objs = some (rv, objs')) : FnOk Go.Proofs.Tryz.prog gl0 f args objs rv objs' :=
  evalFn_ok follows T_ok X_ok n h
end Tryz
end Go.Vs
