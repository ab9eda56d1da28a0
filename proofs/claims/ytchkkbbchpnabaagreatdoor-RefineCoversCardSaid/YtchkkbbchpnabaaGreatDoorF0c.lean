/- The laid variables: two errors, as a frame's data. -/
import Derived.Test.YtchkkbbchpnabaaGreatDoorB4c
import Derived.Test.YtchkkbbchpnabaaGreatDoorM4c
import Derived.Test.YtchkkbbchpnabaaGreatDoorCards
import Derived.Test.YtchkkbbchpnabaaGreatDoorTie
import Derived.ProofKit
import Derived.LaidMore
import Derived.OpenShut
import Derived.Stop.Joined
import Derived.Stop.LaidErr
import Derived.SevenTiedAt
import Derived.Lib.LaidTab
set_option linter.unusedSimpArgs false
set_option linter.unusedVariables false
set_option linter.deprecated false

/- The laid variables: two errors, as a frame's data. -/
namespace Go.Proofs.YtchkkbbchpnabaaGreatDoor
open Go Go.ChangeShapes Go.WideShapes Go.ChangeAt Go.RowKit

theorem own : ownKnob Tryz.prog.godebug = none := by kernel_rfl
theorem laidOut : laidOutB Tryz.prog = true := by kernel_rfl
abbrev laid5 : List (String × DataW Unit) := [("math/bits.deBruijn32tab", Rows.laid_math_bits_deBruijn32tab), ("math/bits.deBruijn64tab", Rows.laid_math_bits_deBruijn64tab), ("internal/strconv.uint64pow10", Rows.laid_internal_strconv_uint64pow10), ("errors.errorType", Rows.laid_errors_errorType), ("strconv.ErrRange", Rows.laid_strconv_ErrRange), ("strconv.ErrSyntax", Rows.laid_strconv_ErrSyntax)]
theorem door_met (os : Os) (args : Array Value) : laidMetH Tryz.prog laid5 ((World.doorLaid Tryz.prog 400 os).forCall (fun _ _ => 0) ⟨#[], args, []⟩).memory :=
  laidMetH_of_parts3 (fuel := 8) (laidMet_of_run' 8 (by kernel_rfl) (by kernel_rfl)) (by kernel_rfl) (by kernel_rfl)

/-- No variable is read. -/
theorem gl_ok {W : World} (_ : laidMetH Tryz.prog laid5 W) : ∀ g, Go.Vs.RDcells W (Go.Vs.wAll W) g 0 (Go.Vs.Tryz.gl0 g) := fun _ => trivial

end Go.Proofs.YtchkkbbchpnabaaGreatDoor
