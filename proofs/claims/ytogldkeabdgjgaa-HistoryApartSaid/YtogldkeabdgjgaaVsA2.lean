import Derived.Test.YtogldkeabdgjgaaVsA1
namespace Go.Vs.Try
open Go Go.Vs

theorem first_true : evalFn T (fun _ _ _ => none) (fun _ => []) 20 6 [] [] = some (.sc (.c (.bool true)), []) := by kernel_rfl
end Go.Vs.Try
