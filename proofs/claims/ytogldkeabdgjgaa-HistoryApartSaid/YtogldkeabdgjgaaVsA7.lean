/- Whatever list of integers HistoryRuns is given, it returns true and changes nothing: no condition. -/
import Derived.Test.YtogldkeabdgjgaaVsA6
import Derived.Test.YtogldkeabdgjgaaRows
import Derived.ProofKit
namespace Go.Proofs.Ytogldkeabdgjgaa
open Go.ChangeShapes Go.WideShapes Go.ChangeAt Go.RowKit

theorem Try.own : ownKnob Try.prog.godebug = none := by kernel_rfl
theorem Try.laidOut : laidOutB Try.prog = true := by kernel_rfl

theorem noX : ∀ f args objs rv objs', Go.Vs.Try.X0 f args objs = some (rv, objs') → Go.Vs.FnOk Try.prog Go.Vs.Try.gl0 f args objs rv objs' := fun _ _ _ _ _ h => nomatch h

theorem runs_fn (zs : List Int) : Go.Vs.FnOk Try.prog Go.Vs.Try.gl0 3 [Go.Vs.Try.rv (Go.Vs.intRows .i64 zs)] [] (.sc (.c (.bool true))) [] :=
  Go.Vs.evalFn_ok Go.Vs.Try.follows Go.Vs.Try.T_ok noX 300 (Go.Vs.Try.runs_eq zs)

theorem readInts3 : ∀ t ∈ Try.f3.params.toList, Try.prog.readableRec t = true ∧ t < Try.prog.types.size := by
  rw [Try.params3]
  intro t ht
  simp only [List.mem_singleton] at ht
  subst ht
  exact ⟨by kernel_rfl, of_decide_eq_true (by kernel_rfl)⟩

set_option maxRecDepth 100000 in
theorem runs_lifted (os : Os) (started : os.Started) (H : Type) (enc : TypeId × Value → H) :
    ReturnsInHanded {} Try.checked os 3 .any (Rows.historyRunsSpec.pre6 enc Try.prog Try.f3 Rows.historyRunsRow.domain false) (Rows.historyRunsSpec.post enc Try.prog Try.f3 false true false false) := by
  refine returnsInHanded_of_change (C := Try.checked) Try.own started (by kernel_rfl) Try.func3
    (ChangeSpec.witness6 (enc := enc) (C := Try.checked) false ⟨#[], #[.slice none 0 0], []⟩ 8 (by kernel_rfl) (by kernel_rfl) (by kernel_rfl) (by kernel_rfl)) ?_
  intro W base args ds gs before hval0 hW _ _
  have hval : ∀ (j : Nat) t v, Try.f3.params[j]? = some t → args[j]? = some v → Value.okWide Try.prog W .any base t v := hval0
  have hW' := hW
  obtain ⟨p, q, hA0, hV, rfl, hfz, hnd⟩ := hW
  have hA : DataW.TrodAll enc Try.prog W 0 (fun _ => true) true Try.f3.params.toList args.toList ds p := hA0
  rw [Try.params3] at hA hval
  obtain ⟨v0, d0, rfl, rfl, h0⟩ := trodAll_one hA
  obtain ⟨zs, hz, _⟩ := Go.Vs.ints_arg (β := fun _ => none) (L := Go.Vs.Lof []) Try.underlying22 Try.underlying3 (by kernel_rfl) (hval 0 22 v0 rfl rfl) h0
  refine (Go.Vs.law_calls (runs_fn zs) (fun _ => trivial) (args := #[v0]) ⟨hz, trivial⟩).mono fun e W' ⟨he, hb⟩ => ?_
  exact ⟨_, he, Go.Vs.law_post (t := 4) Try.laidOut (f := Try.f3) readInts3 (by kernel_rfl) Try.underlying4 rfl hW' ⟨rfl, rfl, rfl⟩ hb⟩

theorem runs_holds : Rows.HistoryRunsSaid :=
  OpenClaim.holds_of_wide 3 Try.f3 rfl rfl rfl rfl rfl rfl rfl ⟨rfl, rfl, rfl, rfl, rfl⟩ rfl rfl rfl rfl rfl (by kernel_rfl) Try.func3 (by kernel_rfl)
    (of_decide_eq_true (by kernel_rfl)) (by unfold Func.isWrapper; first | (rw [if_pos (by decide +kernel)]; kernel_rfl) | (rw [if_neg (by decide +kernel)]; exact ⟨rfl, rfl⟩))
    (fun os started H enc _ => runs_lifted os started H enc)

end Go.Proofs.Ytogldkeabdgjgaa
