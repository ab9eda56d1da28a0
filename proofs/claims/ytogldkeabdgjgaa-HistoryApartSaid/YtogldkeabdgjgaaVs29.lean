/- The value semantics, 29: tables of functions. -/
import Derived.Test.YtogldkeabdgjgaaVs28
namespace Go.Vs
open Go

def AllT (p : Nat → VFun → Prop) : List (Nat × VFun) → Prop
  | [] => True
  | x :: r => p x.1 x.2 ∧ AllT p r

theorem AllT.get {p : Nat → VFun → Prop} : ∀ {l : List (Nat × VFun)}, AllT p l → ∀ (f : Nat) (v : VFun), get? l f = some v → p f v
  | [], _, _, _, h => by cases h
  | (j, x) :: r, hp, f, v, h => by
    simp only [get?] at h
    cases hj : (j == f) with
    | true =>
      rw [hj] at h
      cases h
      have : j = f := by simpa using hj
      subst this
      exact hp.1
    | false =>
      rw [hj] at h
      exact AllT.get hp.2 f v h

end Go.Vs
