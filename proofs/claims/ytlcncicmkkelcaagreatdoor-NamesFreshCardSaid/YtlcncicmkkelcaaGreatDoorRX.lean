/- Whatever it is given, NamesFresh returns true and changes nothing: no condition beyond the laid variables, which the card ties. (Parts of one proof, put together.) -/
import Derived.Test.YtlcncicmkkelcaaGreatDoorF0
import Derived.Test.YtlcncicmkkelcaaGreatDoorR0
import Derived.Test.YtlcncicmkkelcaaGreatDoorS1
import Derived.Test.YtlcncicmkkelcaaGreatDoorRW
import Derived.Test.YtlcncicmkkelcaaGreatDoorR9
set_option linter.unusedSimpArgs false
set_option linter.unusedVariables false
set_option linter.deprecated false

/- Whatever it is given, NamesFresh returns true and changes nothing: no condition beyond the laid variables, which the card ties. -/
namespace Go.Vs.Tryz
open Go Go.Vs
theorem namesFresh_fn (x0 : Int) (x1 : List Int) (x2 : List Str) (hs : ∀ s ∈ x2, s.length ≤ 281474976710656) : FnOk Go.Proofs.Tryz.prog gl0 6 [intV x0, .sc (.c (.sl (intRows x1))), strsV x2] [] (boolV true) [] :=
  K_ok (A1_ok 19 first11) (lawFreshC x0 x1 x2 hs (lim_X (by kernel_rfl) (A1_at 19 rfl)))
end Go.Vs.Tryz

namespace Go.Proofs.YtlcncicmkkelcaaGreatDoor
open Go Go.ChangeShapes Go.WideShapes Go.ChangeAt Go.RowKit

theorem readInts6 : ∀ t ∈ Tryz.f6.params.toList, Tryz.prog.readableRec t = true ∧ t < Tryz.prog.types.size := by
  rw [Tryz.params6]
  intro t ht
  simp only [List.mem_cons, List.not_mem_nil, or_false] at ht
  rcases ht with rfl | rfl | rfl
  · exact ⟨by kernel_rfl, of_decide_eq_true (by kernel_rfl)⟩
  · exact ⟨by kernel_rfl, of_decide_eq_true (by kernel_rfl)⟩
  · exact ⟨by kernel_rfl, of_decide_eq_true (by kernel_rfl)⟩

set_option maxRecDepth 100000 in
theorem namesFresh_lifted (os : Os) (started : os.Started) (H : Type) (enc : TypeId × Value → H) :
    ReturnsInHanded {} Tryz.checked os 6 .any (fun w args => (Rows.namesFreshSpec.pre enc Tryz.prog Tryz.f6 [] false w args ∧ laidMetH Tryz.prog laid5 w) ∧ sizedMet enc Tryz.prog Tryz.f6 (OpenSpec.ofChange Rows.namesFreshSpec) false w args)
      (Rows.namesFreshSpec.post enc Tryz.prog Tryz.f6 false true false false) := by
  refine returnsInHanded_of_change_and (C := Tryz.checked) (X := fun w _ => laidMetH Tryz.prog laid5 w) (fun _ _ _ hh h => h.of_heap hh) own started (by kernel_rfl) Tryz.func6
    (ChangeSpec.witness_shaped (enc := enc) (C := Tryz.checked) (os := os) (X := fun w _ => laidMetH Tryz.prog laid5 w) false (World.doorLaid Tryz.prog 400 os) #[.int .i64 0, .slice none 0 0, .slice none 0 0] 8 rfl (World.shaped_of_RefB (by kernel_rfl) (by kernel_rfl)) (by kernel_rfl) (by kernel_rfl) (by kernel_rfl) (door_met os _)) ?_
  intro W base args ds gs before hval0 hW _ hwt hL _
  have hval : ∀ (j : Nat) t v, Tryz.f6.params[j]? = some t → args[j]? = some v → Value.okWide Tryz.prog W .any base t v := hval0
  have hW' := hW
  obtain ⟨p, q, hA0, hV, rfl, hfz, hnd⟩ := hW
  have hA : DataW.TrodAll enc Tryz.prog W 0 (fun _ => true) true Tryz.f6.params.toList args.toList ds p := hA0
  rw [Tryz.params6] at hA hval
  obtain ⟨v0, v1, v2, d0, d1, d2, p0, p1, p2, rfl, rfl, rfl, h0, h1, h2⟩ := trodAll_three hA
  obtain ⟨x0, hz0, _⟩ := Go.Vs.int_arg (β := fun _ => none) (L := Go.Vs.Lof []) Tryz.underlying3 (hval 0 3 v0 rfl rfl) h0
  obtain ⟨x1, hz1, _⟩ := Go.Vs.ints_arg (β := fun _ => none) (L := Go.Vs.Lof []) Tryz.underlying22 Tryz.underlying3 (by kernel_rfl) (hval 1 22 v1 rfl rfl) h1
  obtain ⟨x2, hz2, hb2⟩ := Go.Vs.strs_arg (β := fun _ => none) (L := Go.Vs.Lof []) Tryz.underlying48 Tryz.underlying9 (by kernel_rfl) (hval 2 48 v2 rfl rfl) h2
  have hs2 : ∀ s ∈ x2, s.length ≤ 281474976710656 := fun s hs => by
    have h1 := List.all_eq_true.1 hwt _ (DataW.weights_mem_each (j := 2) (t := 48) (d := d2) (by rw [Tryz.params6]; rfl) rfl s.length (hb2 s hs))
    have h2 : s.length ≤ reachBytes := by simpa using h1
    have h3 : reachBytes < 2 ^ 47 := reachBytes_lt
    omega
  refine (Go.Vs.law_calls (Go.Vs.Tryz.namesFresh_fn x0 x1 x2 hs2) (gl_ok hL) (args := #[v0, v1, v2]) ⟨hz0, hz1, hz2, trivial⟩).mono fun e W' ⟨he, hb⟩ => ?_
  exact ⟨_, he, Go.Vs.law_post (t := 4) laidOut (f := Tryz.f6) readInts6 (by kernel_rfl) Tryz.underlying4 rfl hW' ⟨rfl, rfl, rfl⟩ hb⟩

theorem namesFresh_row : Rows.NamesFreshSaid :=
  OpenClaim.holds_of_wide 6 Tryz.f6 rfl rfl rfl rfl rfl rfl rfl ⟨rfl, rfl, rfl, rfl, rfl⟩ rfl rfl rfl rfl rfl namesFresh_named Tryz.func6 namesFresh_facts
    namesFresh_inst namesFresh_wrap
    (fun os started H enc _ => namesFresh_lifted os started H enc)

theorem namesFresh_holds : Rows.NamesFreshCardSaid :=
  Claim7.holds_tied_plain_at .later [] [.data, .data, .data, .sentinel, .sentinel] true (true, "08d4e829b029528a9e4c15bb7f9c4bcd42a745bc729a46cb9f7fe778b7ebb7dd") true
    namesFresh_row (fun _ h => by cases h) (by kernel_rfl) (fun _ h => by cases h) namesFresh_row_tie rfl ⟨rfl, rfl⟩ (by kernel_rfl) rfl
    (fun f fn hf hfn => by
      obtain rfl : f = 6 := Option.some.inj ((show Tryz.prog.funcNamed "typedholes/typedholeslaw11.NamesFresh" = some 6 by kernel_rfl).symm.trans hf) |>.symm
      obtain rfl : fn = Tryz.f6 := (Option.some.inj (Tryz.func6.symm.trans hfn)).symm
      exact ⟨by kernel_rfl, fun j t ht => by
        rw [Tryz.params6] at ht
        have hm : t ∈ [3, 22, 48] := by simpa using Array.mem_of_getElem? ht
        have hall : ([3, 22, 48].all fun u => !Tryz.prog.wantsStandIn u) = true := by kernel_rfl
        exact (show Tryz.prog.wantsStandIn t = false by simpa using List.all_eq_true.1 hall t hm)⟩)
    (by kernel_rfl)

end Go.Proofs.YtlcncicmkkelcaaGreatDoor
