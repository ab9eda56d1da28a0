/- SearchTowers: calls of the law whose answers the kernel finds. -/
import Derived.Test.YtlhcebpnnceodaaGreatDoorB8t
set_option linter.unusedSimpArgs false
set_option linter.unusedVariables false
set_option linter.deprecated false

/- SearchTowers: calls of the law whose answers the kernel finds. -/
namespace Go.Vs.Tryz
open Go Go.Vs Go.Proofs.Tryz
set_option maxRecDepth 100000
noncomputable section
theorem td6 : evk [] 3000 6 [.sc (.c (.int .i64 16))] [] = some (.sc (.c (.sl [natRow])), []) := by kernel_rfl
theorem od6 : FnOk prog gl0 6 [.sc (.c (.int .i64 16))] [] (.sc (.c (.sl [natRow]))) [] := evk_ok (by simp) td6
def natG : V := .ag [.c (.int .i64 4), .c (.str [78, 97, 116]), .c (.int .i64 0), .c (.int .i64 0), .nil]
theorem td8 : evk [] 300 8 [.sc (.c (.str [78, 97, 116])), .sc (.c (.sl []))] [] = some (natG, []) := by kernel_rfl
theorem od8 : FnOk prog gl0 8 [.sc (.c (.str [78, 97, 116])), .sc (.c (.sl []))] [] natG [] := evk_ok (by simp) td8
def towV (n : Nat) : V := .ag ((towE n).map W.c)
theorem te9_0 : evk [] 300 9 [towV 0, towV 0] [] = some (.sc (.c (.bool true)), []) := by kernel_rfl
theorem te9_1 : evk [] 300 9 [towV 1, towV 1] [] = some (.sc (.c (.bool true)), []) := by kernel_rfl
theorem te9_2 : evk [] 300 9 [towV 2, towV 2] [] = some (.sc (.c (.bool true)), []) := by kernel_rfl
theorem te9_3 : evk [] 300 9 [towV 3, towV 3] [] = some (.sc (.c (.bool true)), []) := by kernel_rfl
theorem te9_4 : evk [] 300 9 [towV 4, towV 4] [] = some (.sc (.c (.bool true)), []) := by kernel_rfl
theorem te9_5 : evk [] 300 9 [towV 5, towV 5] [] = some (.sc (.c (.bool true)), []) := by kernel_rfl
theorem te9_6 : evk [] 300 9 [towV 6, towV 6] [] = some (.sc (.c (.bool true)), []) := by kernel_rfl
theorem te9 : ∀ n < 7, evk [] 300 9 [towV n, towV n] [] = some (.sc (.c (.bool true)), []) := by
  intro n hn
  match n, hn with
  | 0, _ => exact te9_0
  | 1, _ => exact te9_1
  | 2, _ => exact te9_2
  | 3, _ => exact te9_3
  | 4, _ => exact te9_4
  | 5, _ => exact te9_5
  | 6, _ => exact te9_6
theorem oe9 (n : Nat) (hn : n < 7) : FnOk prog gl0 9 [towV n, towV n] [] (.sc (.c (.bool true))) [] := evk_ok (by simp) (te9 n hn)
end
end Go.Vs.Tryz
