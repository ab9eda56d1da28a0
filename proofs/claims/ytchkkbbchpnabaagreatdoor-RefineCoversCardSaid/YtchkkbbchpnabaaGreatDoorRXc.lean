/- RefineCovers: whatever it is given, the call returns true. -/
import Derived.Test.YtchkkbbchpnabaaGreatDoorDac
import Derived.Test.YtchkkbbchpnabaaGreatDoorREc
import Derived.Test.YtchkkbbchpnabaaGreatDoorBec
import Derived.Test.YtchkkbbchpnabaaGreatDoorSac
import Derived.Test.YtchkkbbchpnabaaGreatDoorSbc
import Derived.Test.YtchkkbbchpnabaaGreatDoorSdc
import Derived.Test.YtchkkbbchpnabaaGreatDoorF0c
import Derived.Test.YtchkkbbchpnabaaGreatDoorRWc
import Derived.Test.YtchkkbbchpnabaaGreatDoorCAc
set_option linter.unusedSimpArgs false
set_option linter.unusedVariables false
set_option linter.deprecated false

/- RefineCovers: whatever it is given, the call returns true. -/
namespace Go.Vs.Tryz
open Go Go.Vs
theorem first33 : FnOk Go.Proofs.Tryz.prog gl0 4 [] [] (boolV true) [] := evk_ok (l := [e15_0, e15_1, e16_0, e87_0]) (n := 300) (by simp [oe15_0, oe15_1, oe16_0, prog87]) t4
theorem refineCovers_fn (x0 : Int) (x1 : List Int) (x2 : List Int) (x3 : List Int) : FnOk Go.Proofs.Tryz.prog gl0 3 [intV x0, .sc (.c (.sl (intRows x1))), .sc (.c (.sl (intRows x2))), .sc (.c (.sl (intRows x3)))] [] (boolV true) [] :=
  K_ok (A7_ok 4 first33) (lawCovers x0 x1 x2 x3 ds7 rfl good7 (K55 4) (lim_X (by kernel_rfl) (A7_at 4 rfl)))
end Go.Vs.Tryz

/- Whatever it is given, RefineCovers returns true and changes nothing: no condition beyond the laid variables, which the card ties. -/

namespace Go.Proofs.YtchkkbbchpnabaaGreatDoor
open Go Go.ChangeShapes Go.WideShapes Go.ChangeAt Go.RowKit

theorem readInts3 : ∀ t ∈ Tryz.f3.params.toList, Tryz.prog.readableRec t = true ∧ t < Tryz.prog.types.size := by
  rw [Tryz.params3]
  intro t ht
  simp only [List.mem_cons, List.not_mem_nil, or_false] at ht
  rcases ht with rfl | rfl | rfl | rfl
  · exact ⟨by kernel_rfl, of_decide_eq_true (by kernel_rfl)⟩
  · exact ⟨by kernel_rfl, of_decide_eq_true (by kernel_rfl)⟩
  · exact ⟨by kernel_rfl, of_decide_eq_true (by kernel_rfl)⟩
  · exact ⟨by kernel_rfl, of_decide_eq_true (by kernel_rfl)⟩

set_option maxRecDepth 100000 in
theorem refineCovers_lifted (os : Os) (started : os.Started) (H : Type) (enc : TypeId × Value → H) :
    ReturnsInHanded {} Tryz.checked os 3 .any (fun w args => (Rows.refineCoversSpec.pre enc Tryz.prog Tryz.f3 [] false w args ∧ laidMetH Tryz.prog laid5 w) ∧ sizedMet enc Tryz.prog Tryz.f3 (OpenSpec.ofChange Rows.refineCoversSpec) false w args)
      (Rows.refineCoversSpec.post enc Tryz.prog Tryz.f3 false true false false) := by
  refine returnsInHanded_of_change_and (C := Tryz.checked) (X := fun w _ => laidMetH Tryz.prog laid5 w) (fun _ _ _ hh h => h.of_heap hh) own started (by kernel_rfl) Tryz.func3
    (ChangeSpec.witness_shaped (enc := enc) (C := Tryz.checked) (os := os) (X := fun w _ => laidMetH Tryz.prog laid5 w) false (World.doorLaid Tryz.prog 400 os) #[.int .i64 0, .slice none 0 0, .slice none 0 0, .slice none 0 0] 8 rfl (World.shaped_of_RefB (by kernel_rfl) (by kernel_rfl)) (by kernel_rfl) (by kernel_rfl) (by kernel_rfl) (door_met os _)) ?_
  intro W base args ds gs before hval0 hW _ _ hL _
  have hval : ∀ (j : Nat) t v, Tryz.f3.params[j]? = some t → args[j]? = some v → Value.okWide Tryz.prog W .any base t v := hval0
  have hW' := hW
  obtain ⟨p, q, hA0, hV, rfl, hfz, hnd⟩ := hW
  have hA : DataW.TrodAll enc Tryz.prog W 0 (fun _ => true) true Tryz.f3.params.toList args.toList ds p := hA0
  rw [Tryz.params3] at hA hval
  obtain ⟨v0, v1, v2, v3, d0, d1, d2, d3, p0, p1, p2, p3, rfl, rfl, rfl, h0, h1, h2, h3⟩ := trodAll_four hA
  obtain ⟨x0, hz0, _⟩ := Go.Vs.int_arg (β := fun _ => none) (L := Go.Vs.Lof []) Tryz.underlying3 (hval 0 3 v0 rfl rfl) h0
  obtain ⟨x1, hz1, _⟩ := Go.Vs.ints_arg (β := fun _ => none) (L := Go.Vs.Lof []) Tryz.underlying22 Tryz.underlying3 (by kernel_rfl) (hval 1 22 v1 rfl rfl) h1
  obtain ⟨x2, hz2, _⟩ := Go.Vs.ints_arg (β := fun _ => none) (L := Go.Vs.Lof []) Tryz.underlying22 Tryz.underlying3 (by kernel_rfl) (hval 2 22 v2 rfl rfl) h2
  obtain ⟨x3, hz3, _⟩ := Go.Vs.ints_arg (β := fun _ => none) (L := Go.Vs.Lof []) Tryz.underlying22 Tryz.underlying3 (by kernel_rfl) (hval 3 22 v3 rfl rfl) h3
  refine (Go.Vs.law_calls (Go.Vs.Tryz.refineCovers_fn x0 x1 x2 x3) (gl_ok hL) (args := #[v0, v1, v2, v3]) ⟨hz0, hz1, hz2, hz3, trivial⟩).mono fun e W' ⟨he, hb⟩ => ?_
  exact ⟨_, he, Go.Vs.law_post (t := 4) laidOut (f := Tryz.f3) readInts3 (by kernel_rfl) Tryz.underlying4 rfl hW' ⟨rfl, rfl, rfl⟩ hb⟩

theorem refineCovers_row : Rows.RefineCoversSaid :=
  OpenClaim.holds_of_wide 3 Tryz.f3 rfl rfl rfl rfl rfl rfl rfl ⟨rfl, rfl, rfl, rfl, rfl⟩ rfl rfl rfl rfl rfl refineCovers_named Tryz.func3 refineCovers_facts
    refineCovers_inst refineCovers_wrap
    (fun os started H enc _ => refineCovers_lifted os started H enc)

theorem refineCovers_holds : Rows.RefineCoversCardSaid := refineCovers_card refineCovers_row

end Go.Proofs.YtchkkbbchpnabaaGreatDoor
