/- Whatever number and list of integers HistoryUndoes is given, it returns true and changes nothing: no condition. -/
import Derived.Test.YtogldkeabdgjgaaVsA7
import Derived.Test.YtogldkeabdgjgaaVsA9
import Derived.Test.YtogldkeabdgjgaaRows
import Derived.ProofKit
namespace Go.Proofs.Ytogldkeabdgjgaa
open Go.ChangeShapes Go.WideShapes Go.ChangeAt Go.RowKit

theorem undoes_fn (n : Int) (l : List Int) : Go.Vs.FnOk Try.prog Go.Vs.Try.gl0 5 [Go.Vs.Try.iv n, Go.Vs.Try.rv (Go.Vs.intRows .i64 l)] [] (.sc (.c (.bool true))) [] :=
  Go.Vs.evalFn_ok Go.Vs.Try.follows Go.Vs.Try.T_ok noX 300 (Go.Vs.Try.undoes_eq n l)

theorem read5 : ∀ t ∈ Try.f5.params.toList, Try.prog.readableRec t = true ∧ t < Try.prog.types.size := by
  rw [Try.params5]
  intro t ht
  simp only [List.mem_cons, List.not_mem_nil, or_false] at ht
  rcases ht with rfl | rfl
  · exact ⟨by kernel_rfl, of_decide_eq_true (by kernel_rfl)⟩
  · exact ⟨by kernel_rfl, of_decide_eq_true (by kernel_rfl)⟩

set_option maxRecDepth 100000 in
theorem undoes_lifted (os : Os) (started : os.Started) (H : Type) (enc : TypeId × Value → H) :
    ReturnsInHanded {} Try.checked os 5 .any (Rows.historyUndoesSpec.pre6 enc Try.prog Try.f5 Rows.historyUndoesRow.domain false) (Rows.historyUndoesSpec.post enc Try.prog Try.f5 false true false false) := by
  refine returnsInHanded_of_change (C := Try.checked) Try.own started (by kernel_rfl) Try.func5
    (ChangeSpec.witness6 (enc := enc) (C := Try.checked) false ⟨#[], #[.int .i64 0, .slice none 0 0], []⟩ 8 (by kernel_rfl) (by kernel_rfl) (by kernel_rfl) (by kernel_rfl)) ?_
  intro W base args ds gs before hval0 hW _ _
  have hval : ∀ (j : Nat) t v, Try.f5.params[j]? = some t → args[j]? = some v → Value.okWide Try.prog W .any base t v := hval0
  have hW' := hW
  obtain ⟨p, q, hA0, hV, rfl, hfz, hnd⟩ := hW
  have hA : DataW.TrodAll enc Try.prog W 0 (fun _ => true) true Try.f5.params.toList args.toList ds p := hA0
  rw [Try.params5] at hA hval
  obtain ⟨v0, v1, d0, d1, p0, p1, rfl, rfl, rfl, h0, h1⟩ := trodAll_two hA
  obtain ⟨n, hn, _⟩ := Go.Vs.int_arg (β := fun _ => none) (L := Go.Vs.Lof []) Try.underlying3 (hval 0 3 v0 rfl rfl) h0
  obtain ⟨zs, hz, _⟩ := Go.Vs.ints_arg (β := fun _ => none) (L := Go.Vs.Lof []) Try.underlying22 Try.underlying3 (by kernel_rfl) (hval 1 22 v1 rfl rfl) h1
  refine (Go.Vs.law_calls (undoes_fn n zs) (fun _ => trivial) (args := #[v0, v1]) ⟨hn, hz, trivial⟩).mono fun e W' ⟨he, hb⟩ => ?_
  exact ⟨_, he, Go.Vs.law_post (t := 4) Try.laidOut (f := Try.f5) read5 (by kernel_rfl) Try.underlying4 rfl hW' ⟨rfl, rfl, rfl⟩ hb⟩

theorem undoes_holds : Rows.HistoryUndoesSaid :=
  OpenClaim.holds_of_wide 5 Try.f5 rfl rfl rfl rfl rfl rfl rfl ⟨rfl, rfl, rfl, rfl, rfl⟩ rfl rfl rfl rfl rfl (by kernel_rfl) Try.func5 (by kernel_rfl)
    (of_decide_eq_true (by kernel_rfl)) (by unfold Func.isWrapper; first | (rw [if_pos (by decide +kernel)]; kernel_rfl) | (rw [if_neg (by decide +kernel)]; exact ⟨rfl, rfl⟩))
    (fun os started H enc _ => undoes_lifted os started H enc)

end Go.Proofs.Ytogldkeabdgjgaa
