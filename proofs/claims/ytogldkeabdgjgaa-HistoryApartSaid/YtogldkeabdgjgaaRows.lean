/-
  No cell of these rows narrows 'for every input' (looked for: loops, veiled, ifaces, maps, wideKeys, modest, calm, conditions, laid).
  DERIVED. THE GIVEN ROWS OF THIS SEAT. 3 by the template 'for every input the law returns true; each argument reads behind the call as it read before'; 0 by the template 'total and deterministic' (their statements: YtogldkeabdgjgaaTotals.lean).
  GIVEN WITH THE SEED: the statements are not yours to turn. If you find one false, say at which input.
  Laid BY PROGRAM, IN A SANDBOX (cutbox-rows.mjs): the forced cells as the released guide's own fill.sh prints them over the translation bb240f42cecafbdb… (all of the seat's roots in one cut). By AI agents, Wed Nov 11 2026. No macro, syntax, notation, axiom, sorry.
-/
import Derived.Test.YtogldkeabdgjgaaChecked
import GoSem.Claim
import GoSem.ClaimJoined
import GoSem.ClaimMapViews
import Derived.JoinedTies
import Derived.KernelRfl
namespace Go.Proofs.Ytogldkeabdgjgaa
/- THE CELL 'sum', in the pinned program and in every row, IS THE sha256 OF THE DUMP (.gsa) THAT YtogldkeabdgjgaaProg.lean LOADS. Nothing in Lean hashes anything: it is a label: what it is worth is what the hold of that sum in a sandbox is worth. -/
noncomputable def Try.pinned : Pinned := { name := "ytogldkeabdgjgaa", sum := "bb240f42cecafbdbf2413e78c2dd90ec62683f4280ce98a8d85aa035d49a69e7", checked := Try.checked }
namespace Rows
def none {H : Type} : Left H := { results := [], args := [] }

/-- 'typedholeslaw36.HistoryRuns': WHATEVER THE INPUT: true; the input reads as it did. -/
def historyRunsSpec : ChangeSpec := { name := "historyRuns", fn := fun _ => fun
  | [d] => { results := [.lit (.bool true)], args := [d] }
  | _ => none }
def historyRunsRow : OpenClaim := { program := "ytogldkeabdgjgaa", sum := "bb240f42cecafbdbf2413e78c2dd90ec62683f4280ce98a8d85aa035d49a69e7", func := "typedholes/typedholeslaw36.HistoryRuns", spec := "historyRuns", apart := false }
def HistoryRunsSaid : Prop := historyRunsRow.holds Try.pinned (OpenSpec.ofChange historyRunsSpec)

/-- ITS FALSE NEIGHBOUR: 'it returns false'. Refute it at one input. -/
def historyRunsWrong : ChangeSpec := { name := "historyRuns", fn := fun _ => fun
  | [d] => { results := [.lit (.bool false)], args := [d] }
  | _ => none }
def HistoryRunsWrongFalsely : Prop := historyRunsRow.holds Try.pinned (OpenSpec.ofChange historyRunsWrong)

/-- 'typedholeslaw36.HistoryApart': WHATEVER THE INPUT: true; the input reads as it did. -/
def historyApartSpec : ChangeSpec := { name := "historyApart", fn := fun _ => fun
  | [d1, d2, d3, d4] => { results := [.lit (.bool true)], args := [d1, d2, d3, d4] }
  | _ => none }
def historyApartRow : OpenClaim := { program := "ytogldkeabdgjgaa", sum := "bb240f42cecafbdbf2413e78c2dd90ec62683f4280ce98a8d85aa035d49a69e7", func := "typedholes/typedholeslaw36.HistoryApart", spec := "historyApart", apart := false }
def HistoryApartSaid : Prop := historyApartRow.holds Try.pinned (OpenSpec.ofChange historyApartSpec)

/-- ITS FALSE NEIGHBOUR: 'it returns false'. Refute it at one input. -/
def historyApartWrong : ChangeSpec := { name := "historyApart", fn := fun _ => fun
  | [d1, d2, d3, d4] => { results := [.lit (.bool false)], args := [d1, d2, d3, d4] }
  | _ => none }
def HistoryApartWrongFalsely : Prop := historyApartRow.holds Try.pinned (OpenSpec.ofChange historyApartWrong)

/-- 'typedholeslaw36.HistoryUndoes': WHATEVER THE INPUT: true; the input reads as it did. -/
def historyUndoesSpec : ChangeSpec := { name := "historyUndoes", fn := fun _ => fun
  | [d1, d2] => { results := [.lit (.bool true)], args := [d1, d2] }
  | _ => none }
def historyUndoesRow : OpenClaim := { program := "ytogldkeabdgjgaa", sum := "bb240f42cecafbdbf2413e78c2dd90ec62683f4280ce98a8d85aa035d49a69e7", func := "typedholes/typedholeslaw36.HistoryUndoes", spec := "historyUndoes", apart := false }
def HistoryUndoesSaid : Prop := historyUndoesRow.holds Try.pinned (OpenSpec.ofChange historyUndoesSpec)

/-- ITS FALSE NEIGHBOUR: 'it returns false'. Refute it at one input. -/
def historyUndoesWrong : ChangeSpec := { name := "historyUndoes", fn := fun _ => fun
  | [d1, d2] => { results := [.lit (.bool false)], args := [d1, d2] }
  | _ => none }
def HistoryUndoesWrongFalsely : Prop := historyUndoesRow.holds Try.pinned (OpenSpec.ofChange historyUndoesWrong)

/- THE SECOND FORM. 'bulk': how many values and letters a reading holds, each counted each time it is reached (what is shared counts as often as it is met; a slice's spare places count too). A statement '..UptoSaid' is the law's where the arguments, and the package variables that the reading takes, are together of bulk at most 1048576: NARROWER than '..Said'. Prove '..Said' where nothing that the law and all that it calls make is longer than what came in: it says more and counts as full. Else prove '..UptoSaid'. A law counts once. -/
mutual
def uptoBulk {H : Type} : DataW H → Nat
  | .lit (.string bytes) => bytes.length + 1
  | .lit _ => 1
  | .nil => 1
  | .ptr d => uptoBulk d + 1
  | .slice elems spare => uptoBulkAll elems + uptoBulkAll spare + 1
  | .agg parts => uptoBulkAll parts + 1
  | .iface _ d => uptoBulk d + 1
  | .map entries => uptoBulkEntries entries + 1
  | .held _ => 1
def uptoBulkAll {H : Type} : List (DataW H) → Nat
  | [] => 0
  | d :: r => uptoBulk d + uptoBulkAll r
def uptoBulkEntries {H : Type} : List (Lit × DataW H) → Nat
  | [] => 0
  | x :: r => uptoBulkEntry x + uptoBulkEntries r
def uptoBulkEntry {H : Type} : Lit × DataW H → Nat
  | (.string bytes, d) => bytes.length + uptoBulk d + 1
  | (_, d) => uptoBulk d + 1
 end
def uptoSmall : (H : Type) → List (DataW H) → Bool := fun _ ds => decide (uptoBulkAll ds ≤ 1048576)
def OpenSpec.upto (s : _root_.Go.ChangeSpec) : _root_.Go.OpenSpec := { _root_.Go.OpenSpec.ofChange s with cond := some uptoSmall }

/-- 'typedholeslaw36.HistoryRuns', WHERE WHAT IT READS IS OF BULK AT MOST 1048576: true; the input reads as it did. -/
def historyRunsUptoRow : OpenClaim := { program := "ytogldkeabdgjgaa", sum := "bb240f42cecafbdbf2413e78c2dd90ec62683f4280ce98a8d85aa035d49a69e7", func := "typedholes/typedholeslaw36.HistoryRuns", spec := "historyRuns", apart := false, narrowed := true }
def HistoryRunsUptoSaid : Prop := historyRunsUptoRow.holds Try.pinned (OpenSpec.upto historyRunsSpec)

/-- 'typedholeslaw36.HistoryApart', WHERE WHAT IT READS IS OF BULK AT MOST 1048576: true; the input reads as it did. -/
def historyApartUptoRow : OpenClaim := { program := "ytogldkeabdgjgaa", sum := "bb240f42cecafbdbf2413e78c2dd90ec62683f4280ce98a8d85aa035d49a69e7", func := "typedholes/typedholeslaw36.HistoryApart", spec := "historyApart", apart := false, narrowed := true }
def HistoryApartUptoSaid : Prop := historyApartUptoRow.holds Try.pinned (OpenSpec.upto historyApartSpec)

/-- 'typedholeslaw36.HistoryUndoes', WHERE WHAT IT READS IS OF BULK AT MOST 1048576: true; the input reads as it did. -/
def historyUndoesUptoRow : OpenClaim := { program := "ytogldkeabdgjgaa", sum := "bb240f42cecafbdbf2413e78c2dd90ec62683f4280ce98a8d85aa035d49a69e7", func := "typedholes/typedholeslaw36.HistoryUndoes", spec := "historyUndoes", apart := false, narrowed := true }
def HistoryUndoesUptoSaid : Prop := historyUndoesUptoRow.holds Try.pinned (OpenSpec.upto historyUndoesSpec)

end Rows
end Go.Proofs.Ytogldkeabdgjgaa
