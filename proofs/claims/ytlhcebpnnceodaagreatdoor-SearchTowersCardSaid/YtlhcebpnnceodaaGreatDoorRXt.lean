/- Whatever it is given, SearchTowers returns true and changes nothing: no condition beyond the laid variables, which the card ties. -/
import Derived.Test.YtlhcebpnnceodaaGreatDoorF0t
import Derived.Test.YtlhcebpnnceodaaGreatDoorRWt
import Derived.Test.YtlhcebpnnceodaaGreatDoorRCt
import Derived.Test.YtlhcebpnnceodaaGreatDoorSwt
set_option linter.unusedSimpArgs false
set_option linter.unusedVariables false
set_option linter.deprecated false

/- Whatever it is given, SearchTowers returns true and changes nothing: no condition beyond the laid variables, which the card ties. -/

namespace Go.Proofs.YtlhcebpnnceodaaGreatDoor
open Go Go.ChangeShapes Go.WideShapes Go.ChangeAt Go.RowKit

theorem readInts3 : ∀ t ∈ Tryz.f3.params.toList, Tryz.prog.readableRec t = true ∧ t < Tryz.prog.types.size := by
  rw [Tryz.params3]
  intro t ht
  simp only [List.mem_cons, List.not_mem_nil, or_false] at ht
  rcases ht with rfl
  · exact ⟨by kernel_rfl, of_decide_eq_true (by kernel_rfl)⟩

set_option maxRecDepth 100000 in
theorem searchTowers_lifted (os : Os) (started : os.Started) (H : Type) (enc : TypeId × Value → H) :
    ReturnsInHanded {} Tryz.checked os 3 .any (fun w args => (Rows.searchTowersSpec.pre enc Tryz.prog Tryz.f3 [] false w args ∧ laidMetH Tryz.prog laid5 w) ∧ sizedMet enc Tryz.prog Tryz.f3 (OpenSpec.ofChange Rows.searchTowersSpec) false w args)
      (Rows.searchTowersSpec.post enc Tryz.prog Tryz.f3 false true false false) := by
  refine returnsInHanded_of_change_and (C := Tryz.checked) (X := fun w _ => laidMetH Tryz.prog laid5 w) (fun _ _ _ hh h => h.of_heap hh) own started (by kernel_rfl) Tryz.func3
    (ChangeSpec.witness_shaped (enc := enc) (C := Tryz.checked) (os := os) (X := fun w _ => laidMetH Tryz.prog laid5 w) false (World.doorLaid Tryz.prog 400 os) #[.int .i64 0] 8 rfl (World.shaped_of_RefB (by kernel_rfl) (by kernel_rfl)) (by kernel_rfl) (by kernel_rfl) (by kernel_rfl) (door_met os _)) ?_
  intro W base args ds gs before hval0 hW _ _ hL _
  have hval : ∀ (j : Nat) t v, Tryz.f3.params[j]? = some t → args[j]? = some v → Value.okWide Tryz.prog W .any base t v := hval0
  have hW' := hW
  obtain ⟨p, q, hA0, hV, rfl, hfz, hnd⟩ := hW
  have hA : DataW.TrodAll enc Tryz.prog W 0 (fun _ => true) true Tryz.f3.params.toList args.toList ds p := hA0
  rw [Tryz.params3] at hA hval
  obtain ⟨v0, d0, rfl, rfl, h0⟩ := trodAll_one hA
  obtain ⟨x0, hz0, _⟩ := Go.Vs.int_arg (β := fun _ => none) (L := Go.Vs.Lof []) Tryz.underlying3 (hval 0 3 v0 rfl rfl) h0
  refine (Go.Vs.law_calls (Go.Vs.Tryz.searchTowers_fn x0) (gl_ok hL) (args := #[v0]) ⟨hz0, trivial⟩).mono fun e W' ⟨he, hb⟩ => ?_
  exact ⟨_, he, Go.Vs.law_post (t := 4) laidOut (f := Tryz.f3) readInts3 (by kernel_rfl) Tryz.underlying4 rfl hW' ⟨rfl, rfl, rfl⟩ hb⟩

theorem searchTowers_row : Rows.SearchTowersSaid :=
  OpenClaim.holds_of_wide 3 Tryz.f3 rfl rfl rfl rfl rfl rfl rfl ⟨rfl, rfl, rfl, rfl, rfl⟩ rfl rfl rfl rfl rfl searchTowers_named Tryz.func3 searchTowers_facts
    searchTowers_inst searchTowers_wrap
    (fun os started H enc _ => searchTowers_lifted os started H enc)

theorem searchTowers_holds : Rows.SearchTowersCardSaid := searchTowers_card searchTowers_row

end Go.Proofs.YtlhcebpnnceodaaGreatDoor
