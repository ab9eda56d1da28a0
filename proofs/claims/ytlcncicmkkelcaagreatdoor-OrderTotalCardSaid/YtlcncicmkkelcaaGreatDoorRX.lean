/- Whatever bits and list of choices OrderTotal is given, it returns true and changes nothing: no condition beyond the laid variables, which the card ties. (Parts of one proof, put together.) -/
import Derived.Test.YtlcncicmkkelcaaGreatDoorR0
import Derived.Test.YtlcncicmkkelcaaGreatDoorRF
import Derived.Test.YtlcncicmkkelcaaGreatDoorS1
import Derived.Test.YtlcncicmkkelcaaGreatDoorR5
import Derived.Test.YtlcncicmkkelcaaGreatDoorRW
set_option linter.unusedSimpArgs false
set_option linter.unusedVariables false
set_option linter.deprecated false

/- Whatever bits and list of choices OrderTotal is given, it returns true and changes nothing: no condition beyond the laid variables, which the card ties. -/
namespace Go.Vs.Tryz
open Go Go.Vs

/-- The given answers. -/
def A7 : Oracle := fun f args objs => match args, objs with
  | [], [] => bif f == 12 then some (boolV true, []) else bif f == 71 then some (datasV ds7, []) else none
  | _, _ => none
theorem A7_ok : ∀ f args objs rv objs', skip f = true → A7 f args objs = some (rv, objs') → FnOk Go.Proofs.Tryz.prog gl0 f args objs rv objs' := by
  intro f args objs rv objs' _ h
  unfold A7 at h
  split at h
  · cases h15 : f == 12 with
    | true =>
      rw [h15] at h
      simp only [cond_true, Option.some.injEq, Prod.mk.injEq] at h
      obtain ⟨rfl, rfl⟩ := h
      obtain rfl : f = 12 := by simpa using h15
      exact first29
    | false =>
      rw [h15] at h
      simp only [cond_false] at h
      cases h55 : f == 71 with
      | true =>
        rw [h55] at h
        simp only [cond_true, Option.some.injEq, Prod.mk.injEq] at h
        obtain ⟨rfl, rfl⟩ := h
        obtain rfl : f = 71 := by simpa using h55
        exact all_fn
      | false => rw [h55] at h; cases h
  · cases h
theorem good7 : ∀ d ∈ ds7, goodD d := by
  intro d hd
  simp only [ds7, List.mem_cons, List.not_mem_nil, or_false] at hd
  rcases hd with rfl | rfl | rfl | rfl | rfl | rfl | rfl <;> simp [goodD]
theorem con7 : conNames ds7 := by
  intro d hd c hc
  simp only [ds7, List.mem_cons, List.not_mem_nil, or_false] at hd
  rcases hd with rfl | rfl | rfl | rfl | rfl | rfl | rfl <;> simp only [List.mem_cons, List.not_mem_nil, or_false] at hc
  · rcases hc with rfl | rfl <;> exact ⟨by decide, ⟨_, rfl, by decide, by decide⟩, by decide, by decide⟩
  · rcases hc with rfl | rfl <;> exact ⟨by decide, ⟨_, rfl, by decide, by decide⟩, by decide, by decide⟩
  · rcases hc with rfl | rfl <;> exact ⟨by decide, ⟨_, rfl, by decide, by decide⟩, by decide, by decide⟩
  · rcases hc with rfl <;> exact ⟨by decide, ⟨_, rfl, by decide, by decide⟩, by decide, by decide⟩
  · rcases hc with rfl | rfl <;> exact ⟨by decide, ⟨_, rfl, by decide, by decide⟩, by decide, by decide⟩
  · rcases hc with rfl <;> exact ⟨by decide, ⟨_, rfl, by decide, by decide⟩, by decide, by decide⟩
  · rcases hc with rfl | rfl <;> exact ⟨by decide, ⟨_, rfl, by decide, by decide⟩, by decide, by decide⟩
theorem K55 : (K A7).call 71 [] [] = some (datasV ds7, []) := lim_X (by kernel_rfl) rfl

theorem uniq7 : uniq ds7 := uniq_of (by decide)
theorem order_total_fn (bits : Int) (L : List Int) : FnOk Go.Proofs.Tryz.prog gl0 4 [intV bits, .sc (.c (.sl (intRows L)))] [] (boolV true) [] :=
  K_ok A7_ok (lawTotal bits L ds7 rfl good7 con7 uniq7 K55 (K7 rfl))
end Go.Vs.Tryz

namespace Go.Proofs.YtlcncicmkkelcaaGreatDoor
open Go Go.ChangeShapes Go.WideShapes Go.ChangeAt Go.RowKit

theorem readInts4 : ∀ t ∈ Tryz.f4.params.toList, Tryz.prog.readableRec t = true ∧ t < Tryz.prog.types.size := by
  rw [Tryz.params4]
  intro t ht
  simp only [List.mem_cons, List.not_mem_nil, or_false] at ht
  rcases ht with rfl | rfl
  · exact ⟨by kernel_rfl, of_decide_eq_true (by kernel_rfl)⟩
  · exact ⟨by kernel_rfl, of_decide_eq_true (by kernel_rfl)⟩

set_option maxRecDepth 100000 in
theorem orderTotal_lifted (os : Os) (started : os.Started) (H : Type) (enc : TypeId × Value → H) :
    ReturnsInHanded {} Tryz.checked os 4 .any (fun w args => (Rows.orderTotalSpec.pre enc Tryz.prog Tryz.f4 [] false w args ∧ laidMetH Tryz.prog laid5 w) ∧ sizedMet enc Tryz.prog Tryz.f4 (OpenSpec.ofChange Rows.orderTotalSpec) false w args)
      (Rows.orderTotalSpec.post enc Tryz.prog Tryz.f4 false true false false) := by
  refine returnsInHanded_of_change_and (C := Tryz.checked) (X := fun w _ => laidMetH Tryz.prog laid5 w) (fun _ _ _ hh h => h.of_heap hh) own started (by kernel_rfl) Tryz.func4
    (ChangeSpec.witness_shaped (enc := enc) (C := Tryz.checked) (os := os) (X := fun w _ => laidMetH Tryz.prog laid5 w) false (World.doorLaid Tryz.prog 400 os) #[.int .i64 0, .slice none 0 0] 8 rfl (World.shaped_of_RefB (by kernel_rfl) (by kernel_rfl)) (by kernel_rfl) (by kernel_rfl) (by kernel_rfl) (door_met os _)) ?_
  intro W base args ds gs before hval0 hW _ _ hL _
  have hval : ∀ (j : Nat) t v, Tryz.f4.params[j]? = some t → args[j]? = some v → Value.okWide Tryz.prog W .any base t v := hval0
  have hW' := hW
  obtain ⟨p, q, hA0, hV, rfl, hfz, hnd⟩ := hW
  have hA : DataW.TrodAll enc Tryz.prog W 0 (fun _ => true) true Tryz.f4.params.toList args.toList ds p := hA0
  rw [Tryz.params4] at hA hval
  obtain ⟨v0, v1, d0, d1, p0, p1, rfl, rfl, rfl, h0, h1⟩ := trodAll_two hA
  obtain ⟨x0, hz0, _⟩ := Go.Vs.int_arg (β := fun _ => none) (L := Go.Vs.Lof []) Tryz.underlying3 (hval 0 3 v0 rfl rfl) h0
  obtain ⟨x1, hz1, _⟩ := Go.Vs.ints_arg (β := fun _ => none) (L := Go.Vs.Lof []) Tryz.underlying22 Tryz.underlying3 (by kernel_rfl) (hval 1 22 v1 rfl rfl) h1
  refine (Go.Vs.law_calls (Go.Vs.Tryz.order_total_fn x0 x1) (gl_ok hL) (args := #[v0, v1]) ⟨hz0, hz1, trivial⟩).mono fun e W' ⟨he, hb⟩ => ?_
  exact ⟨_, he, Go.Vs.law_post (t := 4) laidOut (f := Tryz.f4) readInts4 (by kernel_rfl) Tryz.underlying4 rfl hW' ⟨rfl, rfl, rfl⟩ hb⟩

theorem orderTotal_row : Rows.OrderTotalSaid :=
  OpenClaim.holds_of_wide 4 Tryz.f4 rfl rfl rfl rfl rfl rfl rfl ⟨rfl, rfl, rfl, rfl, rfl⟩ rfl rfl rfl rfl rfl orderTotal_named Tryz.func4 orderTotal_facts
    orderTotal_inst orderTotal_wrap
    (fun os started H enc _ => orderTotal_lifted os started H enc)

theorem orderTotal_holds : Rows.OrderTotalCardSaid :=
  Claim7.holds_tied_plain_at .later [] [.data, .data, .data, .sentinel, .sentinel] true (true, "08d4e829b029528a9e4c15bb7f9c4bcd42a745bc729a46cb9f7fe778b7ebb7dd") true
    orderTotal_row (fun _ h => by cases h) (by kernel_rfl) (fun _ h => by cases h) orderTotal_row_tie rfl ⟨rfl, rfl⟩ (by kernel_rfl) rfl
    (fun f fn hf hfn => by
      obtain rfl : f = 4 := Option.some.inj ((show Tryz.prog.funcNamed "typedholes/typedholeslaw29.OrderTotal" = some 4 by kernel_rfl).symm.trans hf) |>.symm
      obtain rfl : fn = Tryz.f4 := (Option.some.inj (Tryz.func4.symm.trans hfn)).symm
      exact ⟨by kernel_rfl, fun j t ht => by
        rw [Tryz.params4] at ht
        have hm : t ∈ [3, 22] := by simpa using Array.mem_of_getElem? ht
        have hall : ([3, 22].all fun u => !Tryz.prog.wantsStandIn u) = true := by kernel_rfl
        exact (show Tryz.prog.wantsStandIn t = false by simpa using List.all_eq_true.1 hall t hm)⟩)
    (by kernel_rfl)

end Go.Proofs.YtlcncicmkkelcaaGreatDoor
