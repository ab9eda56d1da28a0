/- The tables. -/
import Derived.Test.YtchkkbbchpnabaaGreatDoorT1c
import Derived.Test.YtchkkbbchpnabaaGreatDoorT2c
import Derived.Test.YtchkkbbchpnabaaGreatDoorT3c
import Derived.Test.YtchkkbbchpnabaaGreatDoorT4c
import Derived.Test.YtchkkbbchpnabaaGreatDoorT5c
import Derived.Test.YtchkkbbchpnabaaGreatDoorT6c
import Derived.Test.YtchkkbbchpnabaaGreatDoorT7c
import Derived.Test.YtchkkbbchpnabaaGreatDoorT8c
import Derived.Test.YtchkkbbchpnabaaGreatDoorT9c
import Derived.Test.YtchkkbbchpnabaaGreatDoorTAc
import Derived.Test.YtchkkbbchpnabaaGreatDoorM4c
set_option linter.unusedSimpArgs false
set_option linter.unusedVariables false
set_option linter.deprecated false

/- The tables. -/
namespace Go.Vs.Tryz
open Go Go.Vs Go.Proofs.Tryz
set_option maxRecDepth 100000
set_option maxHeartbeats 8000000
noncomputable section
def tab:TL:=[a1_0,a1_1,a2_0,a2_1,a3_0,a3_1,a4_0,a5_0,a5_1,a6_0,a6_1,a7_0,a7_1,a8_0,a8_1,a9_0,a9_1,a10_0,a10_1].flatten
def T:FuncId → Option VFun:=get? tab
theorem T_ok:∀ f vf,T f=some vf→mFun prog f vf=true:=all_get (l:=tab) (by unfold tab;simp only [List.flatten_cons,List.flatten_nil,List.all_append,List.all_nil,k1_0,k1_1,k2_0,k2_1,k3_0,k3_1,k4_0,k5_0,k5_1,k6_0,k6_1,k7_0,k7_1,k8_0,k8_1,k9_0,k9_1,k10_0,k10_1,Bool.and_self])
def cab : List (Nat × VFun) := [(64, v64), (92, v92), (167, v167), (168, v168), (177, v177), (141, v141), (248, v248)]
def Tc : FuncId → Option VFun := get? cab
theorem Tc_ok : ∀ f vf, Tc f = some vf → mFun prog f vf = true := AllT.get (l := cab) ⟨m64, m92, m167, m168, m177, m141, m248, trivial⟩
theorem follows : prog.follows .mixedOrders = true := by kernel_rfl
end
end Go.Vs.Tryz

/- The oracle beside the tables: Clone of empty slices. No package-level variable is read. -/
namespace Go.Vs.Tryz
open Go Go.Vs

def gl0 : Nat → List Cell := fun _ => []
def isClone (f : Nat) : Bool := f == 64 || f == 92 || f == 141 || f == 167 || f == 168 || f == 177 || f == 248

def X : Oracle := fun f args objs => match objs with
  | _ :: _ => evalFn Tc (fun _ _ _ => none) gl0 3 f args objs
  | [] => match args with
    | [.sc (.c (.sl []))] => bif isClone f then some (.sc (.full []), []) else none
    | _ => evalFn Tc (fun _ _ _ => none) gl0 3 f args objs

abbrev ev (n : Nat) (f : FuncId) (args : List V) (objs : List Obj) : Option (V × List Obj) := evalFn T X gl0 n f args objs

end Go.Vs.Tryz

/- The oracle beside the tables is sound. -/
namespace Go.Vs
open Go Go.RowKit

theorem keeps_below {w w' : World} {ω : Nat → Nat} {S : Nat → Prop} (hb : Below w.heap.size w w') : Keeps w ω S w' ω :=
  ⟨⟨fun b i hi v hv => by
    obtain ⟨cs, t, fr, h⟩ := cells_of_at hv
    have h' : w'.heap[b]? = some (.cells cs t fr) := (hb.block b (Array.getElem?_eq_some_iff.1 h).1).trans h
    refine ⟨?_, hi⟩
    rw [at?_block h', ← at?_block h]
    exact hv⟩, hb.size, fun b hbl _ => ⟨hb.block b hbl, rfl⟩, hb.os, hb.tape, hb.output⟩

theorem clone_empty {P : Program} {gl : Nat → List Cell} {f : FuncId} (h1 : FnOk P gl f [.sc (.e0 true)] [] (.sc .nil) []) (h2 : FnOk P gl f [.sc (.e0 false)] [] (.sc (.full [])) []) :
    FnOk P gl f [.sc (.c (.sl []))] [] (.sc (.full [])) [] := by
  refine ⟨h1.1, fun w ω β cargs hgl hargs hobj hinj => ?_⟩
  obtain ⟨l⟩ := cargs
  match l, hargs with
  | [], hargs => simp [RVs] at hargs
  | v :: _ :: _, hargs => simp [RVs] at hargs
  | [v], hargs =>
    simp only [RVs, RV1, RW, RD, and_true] at hargs
    obtain ⟨base, cap, hv, _, hcap, _⟩ := hargs
    simp only [List.length_nil] at hv
    cases base with
    | none =>
      have hr : RVs w ω β (Lof []) [.sc (.e0 true)] [v] := by
        simp only [RVs, RV1, RW, and_true]
        exact ⟨none, cap, hv, hcap, rfl⟩
      refine (h1.2 w ω β #[v] hgl hr hobj hinj).mono ?_
      rintro e w' ⟨vv, ω', β', he, hrv, hrest⟩
      refine ⟨vv, ω', β', he, ?_, hrest⟩
      simp only [RV, RV1, RW] at hrv
      subst hrv
      simp only [RV, RV1, RW, RD]
      exact ⟨⟨none, 0, rfl, by simp, by simp [maxRows], by simp⟩, none, 0, rfl⟩
    | some a =>
      have hr : RVs w ω β (Lof []) [.sc (.e0 false)] [v] := by
        simp only [RVs, RV1, RW, and_true]
        exact ⟨some a, cap, hv, hcap, rfl⟩
      exact h2.2 w ω β #[v] hgl hr hobj hinj

/-- An empty slice without room is an array of one's own. -/
theorem FnOk.owned {P : Program} {gl : Nat → List Cell} {f : FuncId} {args : List V} {s : Nat} (hs : 0 < s) (h : FnOk P gl f args [] (.sc (.full [])) []) : FnOk P gl f args [] (.sc (.arr 0 0)) [.arr s [] 0] := by
  refine ⟨h.1, fun w ω β cargs hgl hargs hobj hinj => (h.2 w ω β cargs hgl hargs hobj hinj).mono ?_⟩
  rintro e w' ⟨vv, ω', β', he, hrv, _, _, hk, _, _⟩
  simp only [RV, RV1, RW, RD] at hrv
  obtain ⟨⟨base, cap, h2, _⟩, base', n, h3⟩ := hrv
  have hv : vv = .slice base' 0 0 := by
    rw [h3] at h2 ⊢
    simp only [Value.slice.injEq, List.length_nil] at h2
    rw [h2.2.1]
  refine ⟨vv, ω', fun _ => none, he, ?_, ?_, ?_, hk, ?_, ?_⟩
  · simp only [RV, RV1, RW]
    exact ⟨s, [], 0, rfl, by simp, ⟨_, _, _, hv⟩, fun _ => .inr ⟨rfl, rfl, base', hv⟩⟩
  · intro k o hko
    cases k with
    | zero =>
      have : Obj.arr s [] 0 = o := by simpa [Lof] using hko
      subst this
      exact ⟨hs, by simp, by simp, .inr ⟨rfl, rfl⟩⟩
    | succ k => simp [Lof] at hko
  · intro j k b _ _ hj
    cases hj
  · intro k b _ hb
    cases hb
  · intro k
    simp [Tr, Lof]

namespace Tryz

theorem X_none : ∀ (f : FuncId) (args : List V) (objs : List Obj) (rv : V) (objs' : List Obj), (fun _ _ _ => none : Oracle) f args objs = some (rv, objs') → FnOk Go.Proofs.Tryz.prog gl0 f args objs rv objs' :=
  fun _ _ _ _ _ h => by cases h

theorem Tc_fn {n : Nat} {f : FuncId} {args : List V} {objs : List Obj} {rv : V} {objs' : List Obj} (h : evalFn Tc (fun _ _ _ => none) gl0 n f args objs = some (rv, objs')) : FnOk Go.Proofs.Tryz.prog gl0 f args objs rv objs' :=
  evalFn_ok follows Tc_ok X_none n h

theorem clone_of {f : Nat} (h : isClone f = true) : FnOk Go.Proofs.Tryz.prog gl0 f [.sc (.c (.sl []))] [] (.sc (.full [])) [] := by
  have hf : f = 64 ∨ f = 92 ∨ f = 141 ∨ f = 167 ∨ f = 168 ∨ f = 177 ∨ f = 248 := by
    simp only [isClone, Bool.or_eq_true, beq_iff_eq] at h
    omega
  rcases hf with rfl | rfl | rfl | rfl | rfl | rfl | rfl <;> exact clone_empty (Tc_fn (n := 3) (by kernel_rfl)) (Tc_fn (n := 3) (by kernel_rfl))

theorem X_ok : ∀ (f : FuncId) (args : List V) (objs : List Obj) (rv : V) (objs' : List Obj), X f args objs = some (rv, objs') → FnOk Go.Proofs.Tryz.prog gl0 f args objs rv objs' := by
  intro f args objs rv objs' h
  unfold X at h
  split at h
  · exact Tc_fn h
  · split at h
    · cases hc : isClone f with
      | false => rw [hc] at h; cases h
      | true =>
        rw [hc] at h
        simp only [cond_true, Option.some.injEq, Prod.mk.injEq] at h
        obtain ⟨rfl, rfl⟩ := h
        exact clone_of hc
    · exact Tc_fn h

/-- What the evaluator says, the program does. -/
theorem ev_ok {n : Nat} {f : FuncId} {args : List V} {objs : List Obj} {rv : V} {objs' : List Obj} (h : ev n f args objs = some (rv, objs')) : FnOk Go.Proofs.Tryz.prog gl0 f args objs rv objs' :=
  evalFn_ok follows T_ok X_ok n h
end Tryz
end Go.Vs
