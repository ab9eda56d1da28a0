/- The laid variables: two errors, as a frame's data. (Parts of one proof, put together.) -/
import Derived.Test.YtlfnfilcbhfdnaaGreatDoorF2
import Derived.Test.YtlfnfilcbhfdnaaGreatDoorCards
import Derived.Test.YtlfnfilcbhfdnaaGreatDoorTie
import Derived.ProofKit
import Derived.LaidMore
import Derived.OpenShut
import Derived.Stop.Joined
import Derived.Stop.LaidErr
import Derived.SevenTiedAt
import Derived.Test.YtlfnfilcbhfdnaaGreatDoorC4
import Derived.Test.YtlfnfilcbhfdnaaGreatDoorD1
set_option linter.unusedSimpArgs false
set_option linter.unusedVariables false
set_option linter.deprecated false

/- The laid variables: two errors, as a frame's data. -/
namespace Go.Proofs.YtlfnfilcbhfdnaaGreatDoor
open Go Go.ChangeShapes Go.WideShapes Go.ChangeAt Go.RowKit

theorem own : ownKnob Tryz.prog.godebug = none := by kernel_rfl
theorem laidOut : laidOutB Tryz.prog = true := by kernel_rfl
abbrev laid5 : List (String × DataW Unit) := [("math/bits.deBruijn32tab", Rows.laid_math_bits_deBruijn32tab), ("math/bits.deBruijn64tab", Rows.laid_math_bits_deBruijn64tab), ("internal/strconv.uint64pow10", Rows.laid_internal_strconv_uint64pow10), ("strconv.ErrRange", Rows.laid_strconv_ErrRange), ("strconv.ErrSyntax", Rows.laid_strconv_ErrSyntax)]
theorem gSyn : Tryz.prog.globalNamed "strconv.ErrSyntax" = some 0 := by kernel_rfl
theorem gRng : Tryz.prog.globalNamed "strconv.ErrRange" = some 1 := by kernel_rfl
theorem tSyn : (Tryz.prog.globals[0]?).map (·.type) = some 104 := by kernel_rfl
theorem tRng : (Tryz.prog.globals[1]?).map (·.type) = some 104 := by kernel_rfl
theorem door_met (os : Os) (args : Array Value) : laidMetH Tryz.prog laid5 ((World.doorLaid Tryz.prog 400 os).forCall (fun _ _ => 0) ⟨#[], args, []⟩).memory :=
  laidMetH_of_parts3 (fuel := 8) (laidMet_of_run' 8 (by kernel_rfl) (by kernel_rfl)) (by kernel_rfl) (by kernel_rfl)

theorem laidMet_tail {P : Program} {x : String × DataW Unit} {r : List (String × DataW Unit)} {W : World} (h : laidMet P (x :: r) W) : laidMet P r W := by
  obtain ⟨n, d⟩ := x
  obtain ⟨ps, ⟨g, t, cs, fuel, p, q, _, _, _, _, hr, rfl⟩, hnd, hcell⟩ := h
  refine ⟨q, hr, ?_, fun b off hm => hcell b off (by simp [hm])⟩
  rw [List.nodup_append] at hnd
  exact hnd.2.1

theorem star : "*" ++ "errors.errorString" = "*errors.errorString" := by decide
theorem row257 (u : TypeId) (h : Tryz.prog.typeName? 3 u = some "*errors.errorString") : u = 257 :=
  typeName_ptr_named (nm := "errors.errorString") (by rw [star]; kernel_rfl) (by kernel_rfl) (by decide) u (by rw [star]; exact h)

/-- An error of errors.New's make, as a cell of a variable. -/
theorem err_cell {W : World} {g : Nat} {n : String} {a : Addr} {s : ByteArray} {l : List UInt8} (hg : Tryz.prog.globalNamed n = some g) (hv : W.var? Tryz.prog n = some #[.iface 257 (.pointer (some a))]) (hc : W.cell? a = some (.string s)) (hs : s.data.toList = l) :
    Go.Vs.RDcells W (Go.Vs.wAll W) g 0 [Go.Vs.Tryz.errCell l] := by
  have h0 : Go.Vs.at? W g 0 = some (.iface 257 (.pointer (some a))) := by simpa [Go.Vs.at?] using World.var?_cell hg hv 0
  obtain ⟨b, off, spot⟩ := a
  have hspot : spot = none := by simpa using World.cell?_spot hc
  subst hspot
  have h1 : Go.Vs.at? W b off = some (.string s) := hc
  unfold Go.Vs.Tryz.errCell
  simp only [Go.Vs.RDcells, and_true]
  refine ⟨Go.Vs.wAll_cell h0, _, h0, ?_⟩
  simp only [Go.Vs.RD]
  refine ⟨.pointer (some ⟨b, off, none⟩), [.pointer (some ⟨b, off, none⟩)], rfl, ?_, rfl⟩
  simp only [Go.Vs.RDlist, Go.Vs.RD, and_true]
  refine ⟨b, off, rfl, ?_⟩
  simp only [Go.Vs.RDcells, and_true]
  refine ⟨Go.Vs.wAll_cell h1, _, h1, ?_⟩
  simp only [Go.Vs.RD]
  exact ⟨s, rfl, hs⟩

/-- What is laid, as a frame's data. -/
theorem gl_ok {W : World} (h : laidMetH Tryz.prog laid5 W) : ∀ g, Go.Vs.RDcells W (Go.Vs.wAll W) g 0 (Go.Vs.Tryz.gl0 g) := by
  rw [MakeChecks.laidMetH_plain _ _ _ (by kernel_rfl)] at h
  have h3 := laidMet_tail (laidMet_tail (laidMet_tail h))
  have h4 := laidMet_tail h3
  obtain ⟨a1, s1, hv1, hc1, hs1, _⟩ := laid_sentinel h3 gRng tRng Tryz.underlying104 row257 Tryz.underlying257 Tryz.underlying259 rfl rfl Tryz.underlying9 (by kernel_rfl) (by kernel_rfl)
  obtain ⟨a0, s0, hv0, hc0, hs0, _⟩ := laid_sentinel h4 gSyn tSyn Tryz.underlying104 row257 Tryz.underlying257 Tryz.underlying259 rfl rfl Tryz.underlying9 (by kernel_rfl) (by kernel_rfl)
  intro g
  match g with
  | 0 => exact err_cell gSyn hv0 hc0 hs0
  | 1 => exact err_cell gRng hv1 hc1 hs1
  | g + 2 => trivial

end Go.Proofs.YtlfnfilcbhfdnaaGreatDoor

/- Whatever bits and list of choices NamesFree is given, it returns true and changes nothing: no condition beyond the laid variables, which the card ties. -/
namespace Go.Vs.Tryz
open Go Go.Vs

/-- The given answers. -/
def A5 : Oracle := fun f args objs => match args, objs with
  | [], [] => bif f == 15 then some (boolV true, []) else bif f == 55 then some (datasV ds7, []) else none
  | _, _ => none
theorem A5_ok : ∀ f args objs rv objs', skip f = true → A5 f args objs = some (rv, objs') → FnOk Go.Proofs.Tryz.prog gl0 f args objs rv objs' := by
  intro f args objs rv objs' _ h
  unfold A5 at h
  split at h
  · cases h15 : f == 15 with
    | true =>
      rw [h15] at h
      simp only [cond_true, Option.some.injEq, Prod.mk.injEq] at h
      obtain ⟨rfl, rfl⟩ := h
      obtain rfl : f = 15 := by simpa using h15
      exact first11
    | false =>
      rw [h15] at h
      simp only [cond_false] at h
      cases h55 : f == 55 with
      | true =>
        rw [h55] at h
        simp only [cond_true, Option.some.injEq, Prod.mk.injEq] at h
        obtain ⟨rfl, rfl⟩ := h
        obtain rfl : f = 55 := by simpa using h55
        exact all_fn
      | false => rw [h55] at h; cases h
  · cases h
theorem good7 : ∀ d ∈ ds7, goodD d := by
  intro d hd
  simp only [ds7, List.mem_cons, List.not_mem_nil, or_false] at hd
  rcases hd with rfl | rfl | rfl | rfl | rfl | rfl | rfl <;> simp [goodD]
theorem K55 : (K A5).call 55 [] [] = some (datasV ds7, []) := lim_X (by kernel_rfl) rfl

theorem names_free_fn (bits : Int) (L : List Int) : FnOk Go.Proofs.Tryz.prog gl0 4 [intV bits, .sc (.c (.sl (intRows L)))] [] (boolV true) [] :=
  K_ok A5_ok (law4 bits L ds7 rfl good7 K55 (K15 rfl))
end Go.Vs.Tryz

namespace Go.Proofs.YtlfnfilcbhfdnaaGreatDoor
open Go Go.ChangeShapes Go.WideShapes Go.ChangeAt Go.RowKit

theorem readInts4 : ∀ t ∈ Tryz.f4.params.toList, Tryz.prog.readableRec t = true ∧ t < Tryz.prog.types.size := by
  rw [Tryz.params4]
  intro t ht
  simp only [List.mem_cons, List.not_mem_nil, or_false] at ht
  rcases ht with rfl | rfl
  · exact ⟨by kernel_rfl, of_decide_eq_true (by kernel_rfl)⟩
  · exact ⟨by kernel_rfl, of_decide_eq_true (by kernel_rfl)⟩

set_option maxRecDepth 100000 in
theorem free_lifted (os : Os) (started : os.Started) (H : Type) (enc : TypeId × Value → H) :
    ReturnsInHanded {} Tryz.checked os 4 .any (fun w args => (Rows.namesFreeSpec.pre enc Tryz.prog Tryz.f4 [] false w args ∧ laidMetH Tryz.prog laid5 w) ∧ sizedMet enc Tryz.prog Tryz.f4 (OpenSpec.ofChange Rows.namesFreeSpec) false w args)
      (Rows.namesFreeSpec.post enc Tryz.prog Tryz.f4 false true false false) := by
  refine returnsInHanded_of_change_and (C := Tryz.checked) (X := fun w _ => laidMetH Tryz.prog laid5 w) (fun _ _ _ hh h => h.of_heap hh) own started (by kernel_rfl) Tryz.func4
    (ChangeSpec.witness_shaped (enc := enc) (C := Tryz.checked) (os := os) (X := fun w _ => laidMetH Tryz.prog laid5 w) false (World.doorLaid Tryz.prog 400 os) #[.int .i64 0, .slice none 0 0] 8 rfl (World.shaped_of_RefB (by kernel_rfl) (by kernel_rfl)) (by kernel_rfl) (by kernel_rfl) (by kernel_rfl) (door_met os _)) ?_
  intro W base args ds gs before hval0 hW _ _ hL _
  have hval : ∀ (j : Nat) t v, Tryz.f4.params[j]? = some t → args[j]? = some v → Value.okWide Tryz.prog W .any base t v := hval0
  have hW' := hW
  obtain ⟨p, q, hA0, hV, rfl, hfz, hnd⟩ := hW
  have hA : DataW.TrodAll enc Tryz.prog W 0 (fun _ => true) true Tryz.f4.params.toList args.toList ds p := hA0
  rw [Tryz.params4] at hA hval
  obtain ⟨v0, v1, d0, d1, p0, p1, rfl, rfl, rfl, h0, h1⟩ := trodAll_two hA
  obtain ⟨bits, hz0, _⟩ := Go.Vs.int_arg (β := fun _ => none) (L := Go.Vs.Lof []) Tryz.underlying3 (hval 0 3 v0 rfl rfl) h0
  obtain ⟨zs, hz1, _⟩ := Go.Vs.ints_arg (β := fun _ => none) (L := Go.Vs.Lof []) Tryz.underlying22 Tryz.underlying3 (by kernel_rfl) (hval 1 22 v1 rfl rfl) h1
  refine (Go.Vs.law_calls (Go.Vs.Tryz.names_free_fn bits zs) (gl_ok hL) (args := #[v0, v1]) ⟨hz0, hz1, trivial⟩).mono fun e W' ⟨he, hb⟩ => ?_
  exact ⟨_, he, Go.Vs.law_post (t := 4) laidOut (f := Tryz.f4) readInts4 (by kernel_rfl) Tryz.underlying4 rfl hW' ⟨rfl, rfl, rfl⟩ hb⟩

theorem free_row : Rows.NamesFreeSaid :=
  OpenClaim.holds_of_wide 4 Tryz.f4 rfl rfl rfl rfl rfl rfl rfl ⟨rfl, rfl, rfl, rfl, rfl⟩ rfl rfl rfl rfl rfl (by kernel_rfl) Tryz.func4 (by kernel_rfl)
    (of_decide_eq_true (by kernel_rfl)) (by unfold Func.isWrapper; first | (rw [if_pos (by decide +kernel)]; kernel_rfl) | (rw [if_neg (by decide +kernel)]; exact ⟨rfl, rfl⟩))
    (fun os started H enc _ => free_lifted os started H enc)

theorem free_holds : Rows.NamesFreeCardSaid :=
  Claim7.holds_tied_plain_at .later [] [.data, .data, .data, .sentinel, .sentinel] true (true, "cf75b44b45385857f0194abbc77d69506630fa51b0e581eb708327ce5cb4102d") true
    free_row (fun _ h => by cases h) (by kernel_rfl) (fun _ h => by cases h) namesFree_row_tie rfl ⟨rfl, rfl⟩ (by kernel_rfl) rfl
    (fun f fn hf hfn => by
      obtain rfl : f = 4 := Option.some.inj ((show Tryz.prog.funcNamed "typedholes/typedholeslaw11.NamesFree" = some 4 by kernel_rfl).symm.trans hf) |>.symm
      obtain rfl : fn = Tryz.f4 := (Option.some.inj (Tryz.func4.symm.trans hfn)).symm
      exact ⟨by kernel_rfl, fun j t ht => by
        rw [Tryz.params4] at ht
        have hm : t ∈ [3, 22] := by simpa using Array.mem_of_getElem? ht
        have hall : ([3, 22].all fun u => !Tryz.prog.wantsStandIn u) = true := by kernel_rfl
        exact (show Tryz.prog.wantsStandIn t = false by simpa using List.all_eq_true.1 hall t hm)⟩)
    (by kernel_rfl)

end Go.Proofs.YtlfnfilcbhfdnaaGreatDoor
