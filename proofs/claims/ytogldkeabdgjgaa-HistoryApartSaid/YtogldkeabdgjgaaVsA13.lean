/- Whatever two numbers and two lists of integers HistoryApart is given, it returns true and changes nothing: no condition. -/
import Derived.Test.YtogldkeabdgjgaaVsA7
import Derived.Test.YtogldkeabdgjgaaVsA12
import Derived.Test.YtogldkeabdgjgaaRows
import Derived.ProofKit
namespace Go.Proofs.Ytogldkeabdgjgaa
open Go.ChangeShapes Go.WideShapes Go.ChangeAt Go.RowKit

theorem apart_fn (n k : Int) (l m : List Int) : Go.Vs.FnOk Try.prog Go.Vs.Try.gl0 4 [Go.Vs.Try.iv n, Go.Vs.Try.iv k, Go.Vs.Try.rv (Go.Vs.intRows .i64 l), Go.Vs.Try.rv (Go.Vs.intRows .i64 m)] [] (.sc (.c (.bool true))) [] :=
  Go.Vs.evalFn_ok Go.Vs.Try.follows Go.Vs.Try.T_ok noX 300 (Go.Vs.Try.apart_eq n k l m)

theorem read4 : ∀ t ∈ Try.f4.params.toList, Try.prog.readableRec t = true ∧ t < Try.prog.types.size := by
  rw [Try.params4]
  intro t ht
  simp only [List.mem_cons, List.not_mem_nil, or_false] at ht
  rcases ht with rfl | rfl | rfl | rfl
  · exact ⟨by kernel_rfl, of_decide_eq_true (by kernel_rfl)⟩
  · exact ⟨by kernel_rfl, of_decide_eq_true (by kernel_rfl)⟩
  · exact ⟨by kernel_rfl, of_decide_eq_true (by kernel_rfl)⟩
  · exact ⟨by kernel_rfl, of_decide_eq_true (by kernel_rfl)⟩

set_option maxRecDepth 100000 in
theorem apart_lifted (os : Os) (started : os.Started) (H : Type) (enc : TypeId × Value → H) :
    ReturnsInHanded {} Try.checked os 4 .any (Rows.historyApartSpec.pre6 enc Try.prog Try.f4 Rows.historyApartRow.domain false) (Rows.historyApartSpec.post enc Try.prog Try.f4 false true false false) := by
  refine returnsInHanded_of_change (C := Try.checked) Try.own started (by kernel_rfl) Try.func4
    (ChangeSpec.witness6 (enc := enc) (C := Try.checked) false ⟨#[], #[.int .i64 0, .int .i64 0, .slice none 0 0, .slice none 0 0], []⟩ 8 (by kernel_rfl) (by kernel_rfl) (by kernel_rfl) (by kernel_rfl)) ?_
  intro W base args ds gs before hval0 hW _ _
  have hval : ∀ (j : Nat) t v, Try.f4.params[j]? = some t → args[j]? = some v → Value.okWide Try.prog W .any base t v := hval0
  have hW' := hW
  obtain ⟨p, q, hA0, hV, rfl, hfz, hnd⟩ := hW
  have hA : DataW.TrodAll enc Try.prog W 0 (fun _ => true) true Try.f4.params.toList args.toList ds p := hA0
  rw [Try.params4] at hA hval
  obtain ⟨v0, v1, v2, v3, d0, d1, d2, d3, p0, p1, p2, p3, rfl, rfl, rfl, h0, h1, h2, h3⟩ := trodAll_four hA
  obtain ⟨n, hn, _⟩ := Go.Vs.int_arg (β := fun _ => none) (L := Go.Vs.Lof []) Try.underlying3 (hval 0 3 v0 rfl rfl) h0
  obtain ⟨k, hk, _⟩ := Go.Vs.int_arg (β := fun _ => none) (L := Go.Vs.Lof []) Try.underlying3 (hval 1 3 v1 rfl rfl) h1
  obtain ⟨l, hl, _⟩ := Go.Vs.ints_arg (β := fun _ => none) (L := Go.Vs.Lof []) Try.underlying22 Try.underlying3 (by kernel_rfl) (hval 2 22 v2 rfl rfl) h2
  obtain ⟨m, hm, _⟩ := Go.Vs.ints_arg (β := fun _ => none) (L := Go.Vs.Lof []) Try.underlying22 Try.underlying3 (by kernel_rfl) (hval 3 22 v3 rfl rfl) h3
  refine (Go.Vs.law_calls (apart_fn n k l m) (fun _ => trivial) (args := #[v0, v1, v2, v3]) ⟨hn, hk, hl, hm, trivial⟩).mono fun e W' ⟨he, hb⟩ => ?_
  exact ⟨_, he, Go.Vs.law_post (t := 4) Try.laidOut (f := Try.f4) read4 (by kernel_rfl) Try.underlying4 rfl hW' ⟨rfl, rfl, rfl⟩ hb⟩

theorem apart_holds : Rows.HistoryApartSaid :=
  OpenClaim.holds_of_wide 4 Try.f4 rfl rfl rfl rfl rfl rfl rfl ⟨rfl, rfl, rfl, rfl, rfl⟩ rfl rfl rfl rfl rfl (by kernel_rfl) Try.func4 (by kernel_rfl)
    (of_decide_eq_true (by kernel_rfl)) (by unfold Func.isWrapper; first | (rw [if_pos (by decide +kernel)]; kernel_rfl) | (rw [if_neg (by decide +kernel)]; exact ⟨rfl, rfl⟩))
    (fun os started H enc _ => apart_lifted os started H enc)

end Go.Proofs.Ytogldkeabdgjgaa
