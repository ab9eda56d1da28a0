/-
  NARROWER THAN 'FOR EVERY INPUT', by the rows' own cells (each row's printed sentence says how): OrderCompares: laid · OrderTotal: laid · NamesAlpha: laid · NamesFresh: laid · NamesSubstFree: laid · NamesSubstAlpha: laid · NamesSubst: laid · NamesCanonical: laid · OrderSizes: laid.
  DERIVED. THE GIVEN ROWS OF THIS SEAT. 9 by the template 'for every input the law returns true; each argument reads behind the call as it read before'; 0 by the template 'total and deterministic' (their statements: YtlcncicmkkelcaaGreatDoorTotals.lean).
  GIVEN WITH THE SEED: the statements are not yours to turn. If you find one false, say at which input.
  Laid BY PROGRAM, IN A SANDBOX (cutbox-rows.mjs): the forced cells as the released guide's own fill.sh prints them over the translation d9a7f2ab8efcd8de… (all of the seat's roots in one cut). By AI agents, Wed Nov 11 2026. No macro, syntax, notation, axiom, sorry.
-/
import Derived.Test.YtlcncicmkkelcaaGreatDoorChecked
import GoSem.Claim
import GoSem.ClaimJoined
import GoSem.ClaimMapViews
import Derived.JoinedTies
import Derived.KernelRfl
namespace Go.Proofs.YtlcncicmkkelcaaGreatDoor
/- THE CELL 'sum', in the pinned program and in every row, IS THE sha256 OF THE DUMP (.gsa) THAT YtlcncicmkkelcaaGreatDoorProg.lean LOADS. Nothing in Lean hashes anything: it is a label: what it is worth is what the hold of that sum in a sandbox is worth. -/
noncomputable def Tryz.pinned : Pinned := { name := "ytlcncicmkkelcaagreatdoor", sum := "d9a7f2ab8efcd8de8bc35df1ceb02815b5c5b4ca163824daf21c68eded951ce0", checked := Tryz.checked }
namespace Rows
def none {H : Type} : Left H := { results := [], args := [] }

/- WHAT THE LISTED PACKAGE-LEVEL VARIABLES READ AS WHEN THE CALL BEGINS. Each datum BY PROGRAM (the guide's laid-datum.mjs) off the statement by which the dump's own 'gosem.cut.vars' lays the variable. In a bare row this is a premise. The card (YtlcncicmkkelcaaGreatDoorCards.lean) ties it to the program's text. -/
def laid_math_bits_deBruijn32tab {H : Type} : DataW H := .agg [.lit (.int .u8 0), .lit (.int .u8 1), .lit (.int .u8 28), .lit (.int .u8 2), .lit (.int .u8 29), .lit (.int .u8 14), .lit (.int .u8 24), .lit (.int .u8 3), .lit (.int .u8 30), .lit (.int .u8 22), .lit (.int .u8 20), .lit (.int .u8 15), .lit (.int .u8 25), .lit (.int .u8 17), .lit (.int .u8 4), .lit (.int .u8 8), .lit (.int .u8 31), .lit (.int .u8 27), .lit (.int .u8 13), .lit (.int .u8 23), .lit (.int .u8 21), .lit (.int .u8 19), .lit (.int .u8 16), .lit (.int .u8 7), .lit (.int .u8 26), .lit (.int .u8 12), .lit (.int .u8 18), .lit (.int .u8 6), .lit (.int .u8 11), .lit (.int .u8 5), .lit (.int .u8 10), .lit (.int .u8 9)]
def laid_math_bits_deBruijn64tab {H : Type} : DataW H := .agg [.lit (.int .u8 0), .lit (.int .u8 1), .lit (.int .u8 56), .lit (.int .u8 2), .lit (.int .u8 57), .lit (.int .u8 49), .lit (.int .u8 28), .lit (.int .u8 3), .lit (.int .u8 61), .lit (.int .u8 58), .lit (.int .u8 42), .lit (.int .u8 50), .lit (.int .u8 38), .lit (.int .u8 29), .lit (.int .u8 17), .lit (.int .u8 4), .lit (.int .u8 62), .lit (.int .u8 47), .lit (.int .u8 59), .lit (.int .u8 36), .lit (.int .u8 45), .lit (.int .u8 43), .lit (.int .u8 51), .lit (.int .u8 22), .lit (.int .u8 53), .lit (.int .u8 39), .lit (.int .u8 33), .lit (.int .u8 30), .lit (.int .u8 24), .lit (.int .u8 18), .lit (.int .u8 12), .lit (.int .u8 5), .lit (.int .u8 63), .lit (.int .u8 55), .lit (.int .u8 48), .lit (.int .u8 27), .lit (.int .u8 60), .lit (.int .u8 41), .lit (.int .u8 37), .lit (.int .u8 16), .lit (.int .u8 46), .lit (.int .u8 35), .lit (.int .u8 44), .lit (.int .u8 21), .lit (.int .u8 52), .lit (.int .u8 32), .lit (.int .u8 23), .lit (.int .u8 11), .lit (.int .u8 54), .lit (.int .u8 26), .lit (.int .u8 40), .lit (.int .u8 15), .lit (.int .u8 34), .lit (.int .u8 20), .lit (.int .u8 31), .lit (.int .u8 10), .lit (.int .u8 25), .lit (.int .u8 14), .lit (.int .u8 19), .lit (.int .u8 9), .lit (.int .u8 13), .lit (.int .u8 8), .lit (.int .u8 7), .lit (.int .u8 6)]
def laid_internal_strconv_uint64pow10 {H : Type} : DataW H := .agg [.lit (.int .u64 1), .lit (.int .u64 10), .lit (.int .u64 100), .lit (.int .u64 1000), .lit (.int .u64 10000), .lit (.int .u64 100000), .lit (.int .u64 1000000), .lit (.int .u64 10000000), .lit (.int .u64 100000000), .lit (.int .u64 1000000000), .lit (.int .u64 10000000000), .lit (.int .u64 100000000000), .lit (.int .u64 1000000000000), .lit (.int .u64 10000000000000), .lit (.int .u64 100000000000000), .lit (.int .u64 1000000000000000), .lit (.int .u64 10000000000000000), .lit (.int .u64 100000000000000000), .lit (.int .u64 1000000000000000000), .lit (.int .u64 10000000000000000000)]
def laid_strconv_ErrRange {H : Type} : DataW H := .iface "*errors.errorString" (.ptr (.agg [.lit (.string [118, 97, 108, 117, 101, 32, 111, 117, 116, 32, 111, 102, 32, 114, 97, 110, 103, 101])]))
def laid_strconv_ErrSyntax {H : Type} : DataW H := .iface "*errors.errorString" (.ptr (.agg [.lit (.string [105, 110, 118, 97, 108, 105, 100, 32, 115, 121, 110, 116, 97, 120])]))

/-- 'typedholeslaw29.OrderCompares': WHATEVER THE INPUT: true; the input reads as it did. -/
def orderComparesSpec : ChangeSpec := { name := "orderCompares", fn := fun _ => fun
  | [d1, d2] => { results := [.lit (.bool true)], args := [d1, d2] }
  | _ => none }
def orderComparesRow : OpenClaim := { program := "ytlcncicmkkelcaagreatdoor", sum := "d9a7f2ab8efcd8de8bc35df1ceb02815b5c5b4ca163824daf21c68eded951ce0", func := "typedholes/typedholeslaw29.OrderCompares", spec := "orderCompares", unfollowed := true, recurses := true, named := ["strconv.ErrSyntax", "strconv.ErrRange", "internal/strconv.uint64pow10", "math/bits.deBruijn32tab", "math/bits.deBruijn64tab"], apart := false, laid := [("math/bits.deBruijn32tab", laid_math_bits_deBruijn32tab), ("math/bits.deBruijn64tab", laid_math_bits_deBruijn64tab), ("internal/strconv.uint64pow10", laid_internal_strconv_uint64pow10), ("strconv.ErrRange", laid_strconv_ErrRange), ("strconv.ErrSyntax", laid_strconv_ErrSyntax)] }
def OrderComparesSaid : Prop := orderComparesRow.holds Tryz.pinned (OpenSpec.ofChange orderComparesSpec)

/-- ITS FALSE NEIGHBOUR: 'it returns false'. Refute it at one input. -/
def orderComparesWrong : ChangeSpec := { name := "orderCompares", fn := fun _ => fun
  | [d1, d2] => { results := [.lit (.bool false)], args := [d1, d2] }
  | _ => none }
def OrderComparesWrongFalsely : Prop := orderComparesRow.holds Tryz.pinned (OpenSpec.ofChange orderComparesWrong)

/-- 'typedholeslaw29.OrderTotal': WHATEVER THE INPUT: true; the input reads as it did. -/
def orderTotalSpec : ChangeSpec := { name := "orderTotal", fn := fun _ => fun
  | [d1, d2] => { results := [.lit (.bool true)], args := [d1, d2] }
  | _ => none }
def orderTotalRow : OpenClaim := { program := "ytlcncicmkkelcaagreatdoor", sum := "d9a7f2ab8efcd8de8bc35df1ceb02815b5c5b4ca163824daf21c68eded951ce0", func := "typedholes/typedholeslaw29.OrderTotal", spec := "orderTotal", unfollowed := true, recurses := true, named := ["strconv.ErrSyntax", "strconv.ErrRange", "internal/strconv.uint64pow10", "math/bits.deBruijn32tab", "math/bits.deBruijn64tab"], apart := false, laid := [("math/bits.deBruijn32tab", laid_math_bits_deBruijn32tab), ("math/bits.deBruijn64tab", laid_math_bits_deBruijn64tab), ("internal/strconv.uint64pow10", laid_internal_strconv_uint64pow10), ("strconv.ErrRange", laid_strconv_ErrRange), ("strconv.ErrSyntax", laid_strconv_ErrSyntax)] }
def OrderTotalSaid : Prop := orderTotalRow.holds Tryz.pinned (OpenSpec.ofChange orderTotalSpec)

/-- ITS FALSE NEIGHBOUR: 'it returns false'. Refute it at one input. -/
def orderTotalWrong : ChangeSpec := { name := "orderTotal", fn := fun _ => fun
  | [d1, d2] => { results := [.lit (.bool false)], args := [d1, d2] }
  | _ => none }
def OrderTotalWrongFalsely : Prop := orderTotalRow.holds Tryz.pinned (OpenSpec.ofChange orderTotalWrong)

/-- 'typedholeslaw11.NamesAlpha': WHATEVER THE INPUT: true; the input reads as it did. -/
def namesAlphaSpec : ChangeSpec := { name := "namesAlpha", fn := fun _ => fun
  | [d1, d2, d3] => { results := [.lit (.bool true)], args := [d1, d2, d3] }
  | _ => none }
def namesAlphaRow : OpenClaim := { program := "ytlcncicmkkelcaagreatdoor", sum := "d9a7f2ab8efcd8de8bc35df1ceb02815b5c5b4ca163824daf21c68eded951ce0", func := "typedholes/typedholeslaw11.NamesAlpha", spec := "namesAlpha", unfollowed := true, recurses := true, named := ["strconv.ErrSyntax", "strconv.ErrRange", "internal/strconv.uint64pow10", "math/bits.deBruijn32tab", "math/bits.deBruijn64tab"], apart := false, laid := [("math/bits.deBruijn32tab", laid_math_bits_deBruijn32tab), ("math/bits.deBruijn64tab", laid_math_bits_deBruijn64tab), ("internal/strconv.uint64pow10", laid_internal_strconv_uint64pow10), ("strconv.ErrRange", laid_strconv_ErrRange), ("strconv.ErrSyntax", laid_strconv_ErrSyntax)] }
def NamesAlphaSaid : Prop := namesAlphaRow.holds Tryz.pinned (OpenSpec.ofChange namesAlphaSpec)

/-- ITS FALSE NEIGHBOUR: 'it returns false'. Refute it at one input. -/
def namesAlphaWrong : ChangeSpec := { name := "namesAlpha", fn := fun _ => fun
  | [d1, d2, d3] => { results := [.lit (.bool false)], args := [d1, d2, d3] }
  | _ => none }
def NamesAlphaWrongFalsely : Prop := namesAlphaRow.holds Tryz.pinned (OpenSpec.ofChange namesAlphaWrong)

/-- 'typedholeslaw11.NamesFresh': WHATEVER THE INPUT: true; the input reads as it did. -/
def namesFreshSpec : ChangeSpec := { name := "namesFresh", fn := fun _ => fun
  | [d1, d2, d3] => { results := [.lit (.bool true)], args := [d1, d2, d3] }
  | _ => none }
def namesFreshRow : OpenClaim := { program := "ytlcncicmkkelcaagreatdoor", sum := "d9a7f2ab8efcd8de8bc35df1ceb02815b5c5b4ca163824daf21c68eded951ce0", func := "typedholes/typedholeslaw11.NamesFresh", spec := "namesFresh", unfollowed := true, recurses := true, named := ["strconv.ErrSyntax", "strconv.ErrRange", "internal/strconv.uint64pow10", "math/bits.deBruijn32tab", "math/bits.deBruijn64tab"], apart := false, laid := [("math/bits.deBruijn32tab", laid_math_bits_deBruijn32tab), ("math/bits.deBruijn64tab", laid_math_bits_deBruijn64tab), ("internal/strconv.uint64pow10", laid_internal_strconv_uint64pow10), ("strconv.ErrRange", laid_strconv_ErrRange), ("strconv.ErrSyntax", laid_strconv_ErrSyntax)] }
def NamesFreshSaid : Prop := namesFreshRow.holds Tryz.pinned (OpenSpec.ofChange namesFreshSpec)

/-- ITS FALSE NEIGHBOUR: 'it returns false'. Refute it at one input. -/
def namesFreshWrong : ChangeSpec := { name := "namesFresh", fn := fun _ => fun
  | [d1, d2, d3] => { results := [.lit (.bool false)], args := [d1, d2, d3] }
  | _ => none }
def NamesFreshWrongFalsely : Prop := namesFreshRow.holds Tryz.pinned (OpenSpec.ofChange namesFreshWrong)

/-- 'typedholeslaw11.NamesSubstFree': WHATEVER THE INPUT: true; the input reads as it did. -/
def namesSubstFreeSpec : ChangeSpec := { name := "namesSubstFree", fn := fun _ => fun
  | [d1, d2, d3] => { results := [.lit (.bool true)], args := [d1, d2, d3] }
  | _ => none }
def namesSubstFreeRow : OpenClaim := { program := "ytlcncicmkkelcaagreatdoor", sum := "d9a7f2ab8efcd8de8bc35df1ceb02815b5c5b4ca163824daf21c68eded951ce0", func := "typedholes/typedholeslaw11.NamesSubstFree", spec := "namesSubstFree", unfollowed := true, recurses := true, named := ["strconv.ErrSyntax", "strconv.ErrRange", "internal/strconv.uint64pow10", "math/bits.deBruijn32tab", "math/bits.deBruijn64tab"], apart := false, laid := [("math/bits.deBruijn32tab", laid_math_bits_deBruijn32tab), ("math/bits.deBruijn64tab", laid_math_bits_deBruijn64tab), ("internal/strconv.uint64pow10", laid_internal_strconv_uint64pow10), ("strconv.ErrRange", laid_strconv_ErrRange), ("strconv.ErrSyntax", laid_strconv_ErrSyntax)] }
def NamesSubstFreeSaid : Prop := namesSubstFreeRow.holds Tryz.pinned (OpenSpec.ofChange namesSubstFreeSpec)

/-- ITS FALSE NEIGHBOUR: 'it returns false'. Refute it at one input. -/
def namesSubstFreeWrong : ChangeSpec := { name := "namesSubstFree", fn := fun _ => fun
  | [d1, d2, d3] => { results := [.lit (.bool false)], args := [d1, d2, d3] }
  | _ => none }
def NamesSubstFreeWrongFalsely : Prop := namesSubstFreeRow.holds Tryz.pinned (OpenSpec.ofChange namesSubstFreeWrong)

/-- 'typedholeslaw11.NamesSubstAlpha': WHATEVER THE INPUT: true; the input reads as it did. -/
def namesSubstAlphaSpec : ChangeSpec := { name := "namesSubstAlpha", fn := fun _ => fun
  | [d1, d2, d3] => { results := [.lit (.bool true)], args := [d1, d2, d3] }
  | _ => none }
def namesSubstAlphaRow : OpenClaim := { program := "ytlcncicmkkelcaagreatdoor", sum := "d9a7f2ab8efcd8de8bc35df1ceb02815b5c5b4ca163824daf21c68eded951ce0", func := "typedholes/typedholeslaw11.NamesSubstAlpha", spec := "namesSubstAlpha", unfollowed := true, recurses := true, named := ["strconv.ErrSyntax", "strconv.ErrRange", "internal/strconv.uint64pow10", "math/bits.deBruijn32tab", "math/bits.deBruijn64tab"], apart := false, laid := [("math/bits.deBruijn32tab", laid_math_bits_deBruijn32tab), ("math/bits.deBruijn64tab", laid_math_bits_deBruijn64tab), ("internal/strconv.uint64pow10", laid_internal_strconv_uint64pow10), ("strconv.ErrRange", laid_strconv_ErrRange), ("strconv.ErrSyntax", laid_strconv_ErrSyntax)] }
def NamesSubstAlphaSaid : Prop := namesSubstAlphaRow.holds Tryz.pinned (OpenSpec.ofChange namesSubstAlphaSpec)

/-- ITS FALSE NEIGHBOUR: 'it returns false'. Refute it at one input. -/
def namesSubstAlphaWrong : ChangeSpec := { name := "namesSubstAlpha", fn := fun _ => fun
  | [d1, d2, d3] => { results := [.lit (.bool false)], args := [d1, d2, d3] }
  | _ => none }
def NamesSubstAlphaWrongFalsely : Prop := namesSubstAlphaRow.holds Tryz.pinned (OpenSpec.ofChange namesSubstAlphaWrong)

/-- 'typedholeslaw11.NamesSubst': WHATEVER THE INPUT: true; the input reads as it did. -/
def namesSubstSpec : ChangeSpec := { name := "namesSubst", fn := fun _ => fun
  | [d1, d2, d3] => { results := [.lit (.bool true)], args := [d1, d2, d3] }
  | _ => none }
def namesSubstRow : OpenClaim := { program := "ytlcncicmkkelcaagreatdoor", sum := "d9a7f2ab8efcd8de8bc35df1ceb02815b5c5b4ca163824daf21c68eded951ce0", func := "typedholes/typedholeslaw11.NamesSubst", spec := "namesSubst", unfollowed := true, recurses := true, named := ["strconv.ErrSyntax", "strconv.ErrRange", "internal/strconv.uint64pow10", "math/bits.deBruijn32tab", "math/bits.deBruijn64tab"], apart := false, laid := [("math/bits.deBruijn32tab", laid_math_bits_deBruijn32tab), ("math/bits.deBruijn64tab", laid_math_bits_deBruijn64tab), ("internal/strconv.uint64pow10", laid_internal_strconv_uint64pow10), ("strconv.ErrRange", laid_strconv_ErrRange), ("strconv.ErrSyntax", laid_strconv_ErrSyntax)] }
def NamesSubstSaid : Prop := namesSubstRow.holds Tryz.pinned (OpenSpec.ofChange namesSubstSpec)

/-- ITS FALSE NEIGHBOUR: 'it returns false'. Refute it at one input. -/
def namesSubstWrong : ChangeSpec := { name := "namesSubst", fn := fun _ => fun
  | [d1, d2, d3] => { results := [.lit (.bool false)], args := [d1, d2, d3] }
  | _ => none }
def NamesSubstWrongFalsely : Prop := namesSubstRow.holds Tryz.pinned (OpenSpec.ofChange namesSubstWrong)

/-- 'typedholeslaw11.NamesCanonical': WHATEVER THE INPUT: true; the input reads as it did. -/
def namesCanonicalSpec : ChangeSpec := { name := "namesCanonical", fn := fun _ => fun
  | [d1, d2, d3, d4] => { results := [.lit (.bool true)], args := [d1, d2, d3, d4] }
  | _ => none }
def namesCanonicalRow : OpenClaim := { program := "ytlcncicmkkelcaagreatdoor", sum := "d9a7f2ab8efcd8de8bc35df1ceb02815b5c5b4ca163824daf21c68eded951ce0", func := "typedholes/typedholeslaw11.NamesCanonical", spec := "namesCanonical", unfollowed := true, recurses := true, named := ["strconv.ErrSyntax", "strconv.ErrRange", "internal/strconv.uint64pow10", "math/bits.deBruijn32tab", "math/bits.deBruijn64tab"], apart := false, laid := [("math/bits.deBruijn32tab", laid_math_bits_deBruijn32tab), ("math/bits.deBruijn64tab", laid_math_bits_deBruijn64tab), ("internal/strconv.uint64pow10", laid_internal_strconv_uint64pow10), ("strconv.ErrRange", laid_strconv_ErrRange), ("strconv.ErrSyntax", laid_strconv_ErrSyntax)] }
def NamesCanonicalSaid : Prop := namesCanonicalRow.holds Tryz.pinned (OpenSpec.ofChange namesCanonicalSpec)

/-- ITS FALSE NEIGHBOUR: 'it returns false'. Refute it at one input. -/
def namesCanonicalWrong : ChangeSpec := { name := "namesCanonical", fn := fun _ => fun
  | [d1, d2, d3, d4] => { results := [.lit (.bool false)], args := [d1, d2, d3, d4] }
  | _ => none }
def NamesCanonicalWrongFalsely : Prop := namesCanonicalRow.holds Tryz.pinned (OpenSpec.ofChange namesCanonicalWrong)

/-- 'typedholeslaw29.OrderSizes': WHATEVER THE INPUT: true; the input reads as it did. -/
def orderSizesSpec : ChangeSpec := { name := "orderSizes", fn := fun _ => fun
  | [d1, d2, d3] => { results := [.lit (.bool true)], args := [d1, d2, d3] }
  | _ => none }
def orderSizesRow : OpenClaim := { program := "ytlcncicmkkelcaagreatdoor", sum := "d9a7f2ab8efcd8de8bc35df1ceb02815b5c5b4ca163824daf21c68eded951ce0", func := "typedholes/typedholeslaw29.OrderSizes", spec := "orderSizes", unfollowed := true, recurses := true, named := ["strconv.ErrSyntax", "strconv.ErrRange", "internal/strconv.uint64pow10", "math/bits.deBruijn32tab", "math/bits.deBruijn64tab"], apart := false, laid := [("math/bits.deBruijn32tab", laid_math_bits_deBruijn32tab), ("math/bits.deBruijn64tab", laid_math_bits_deBruijn64tab), ("internal/strconv.uint64pow10", laid_internal_strconv_uint64pow10), ("strconv.ErrRange", laid_strconv_ErrRange), ("strconv.ErrSyntax", laid_strconv_ErrSyntax)] }
def OrderSizesSaid : Prop := orderSizesRow.holds Tryz.pinned (OpenSpec.ofChange orderSizesSpec)

/-- ITS FALSE NEIGHBOUR: 'it returns false'. Refute it at one input. -/
def orderSizesWrong : ChangeSpec := { name := "orderSizes", fn := fun _ => fun
  | [d1, d2, d3] => { results := [.lit (.bool false)], args := [d1, d2, d3] }
  | _ => none }
def OrderSizesWrongFalsely : Prop := orderSizesRow.holds Tryz.pinned (OpenSpec.ofChange orderSizesWrong)

/- THE SECOND FORM. 'bulk': how many values and letters a reading holds, each counted each time it is reached (what is shared counts as often as it is met; a slice's spare places count too). A statement '..UptoSaid' is the law's where the arguments, and the package variables that the reading takes, are together of bulk at most 1048576: NARROWER than '..Said'. Prove '..Said' where nothing that the law and all that it calls make is longer than what came in: it says more and counts as full. Else prove '..UptoSaid'. A law counts once. -/
mutual
def uptoBulk {H : Type} : DataW H → Nat
  | .lit (.string bytes) => bytes.length + 1
  | .lit _ => 1
  | .nil => 1
  | .ptr d => uptoBulk d + 1
  | .slice elems spare => uptoBulkAll elems + uptoBulkAll spare + 1
  | .agg parts => uptoBulkAll parts + 1
  | .iface _ d => uptoBulk d + 1
  | .map entries => uptoBulkEntries entries + 1
  | .held _ => 1
def uptoBulkAll {H : Type} : List (DataW H) → Nat
  | [] => 0
  | d :: r => uptoBulk d + uptoBulkAll r
def uptoBulkEntries {H : Type} : List (Lit × DataW H) → Nat
  | [] => 0
  | x :: r => uptoBulkEntry x + uptoBulkEntries r
def uptoBulkEntry {H : Type} : Lit × DataW H → Nat
  | (.string bytes, d) => bytes.length + uptoBulk d + 1
  | (_, d) => uptoBulk d + 1
 end
def uptoSmall : (H : Type) → List (DataW H) → Bool := fun _ ds => decide (uptoBulkAll ds ≤ 1048576)
def OpenSpec.upto (s : _root_.Go.ChangeSpec) : _root_.Go.OpenSpec := { _root_.Go.OpenSpec.ofChange s with cond := some uptoSmall }

/-- 'typedholeslaw29.OrderCompares', WHERE WHAT IT READS IS OF BULK AT MOST 1048576: true; the input reads as it did. -/
def orderComparesUptoRow : OpenClaim := { program := "ytlcncicmkkelcaagreatdoor", sum := "d9a7f2ab8efcd8de8bc35df1ceb02815b5c5b4ca163824daf21c68eded951ce0", func := "typedholes/typedholeslaw29.OrderCompares", spec := "orderCompares", unfollowed := true, recurses := true, named := ["strconv.ErrSyntax", "strconv.ErrRange", "internal/strconv.uint64pow10", "math/bits.deBruijn32tab", "math/bits.deBruijn64tab"], apart := false, laid := [("math/bits.deBruijn32tab", laid_math_bits_deBruijn32tab), ("math/bits.deBruijn64tab", laid_math_bits_deBruijn64tab), ("internal/strconv.uint64pow10", laid_internal_strconv_uint64pow10), ("strconv.ErrRange", laid_strconv_ErrRange), ("strconv.ErrSyntax", laid_strconv_ErrSyntax)], narrowed := true }
def OrderComparesUptoSaid : Prop := orderComparesUptoRow.holds Tryz.pinned (OpenSpec.upto orderComparesSpec)

/-- 'typedholeslaw29.OrderTotal', WHERE WHAT IT READS IS OF BULK AT MOST 1048576: true; the input reads as it did. -/
def orderTotalUptoRow : OpenClaim := { program := "ytlcncicmkkelcaagreatdoor", sum := "d9a7f2ab8efcd8de8bc35df1ceb02815b5c5b4ca163824daf21c68eded951ce0", func := "typedholes/typedholeslaw29.OrderTotal", spec := "orderTotal", unfollowed := true, recurses := true, named := ["strconv.ErrSyntax", "strconv.ErrRange", "internal/strconv.uint64pow10", "math/bits.deBruijn32tab", "math/bits.deBruijn64tab"], apart := false, laid := [("math/bits.deBruijn32tab", laid_math_bits_deBruijn32tab), ("math/bits.deBruijn64tab", laid_math_bits_deBruijn64tab), ("internal/strconv.uint64pow10", laid_internal_strconv_uint64pow10), ("strconv.ErrRange", laid_strconv_ErrRange), ("strconv.ErrSyntax", laid_strconv_ErrSyntax)], narrowed := true }
def OrderTotalUptoSaid : Prop := orderTotalUptoRow.holds Tryz.pinned (OpenSpec.upto orderTotalSpec)

/-- 'typedholeslaw11.NamesAlpha', WHERE WHAT IT READS IS OF BULK AT MOST 1048576: true; the input reads as it did. -/
def namesAlphaUptoRow : OpenClaim := { program := "ytlcncicmkkelcaagreatdoor", sum := "d9a7f2ab8efcd8de8bc35df1ceb02815b5c5b4ca163824daf21c68eded951ce0", func := "typedholes/typedholeslaw11.NamesAlpha", spec := "namesAlpha", unfollowed := true, recurses := true, named := ["strconv.ErrSyntax", "strconv.ErrRange", "internal/strconv.uint64pow10", "math/bits.deBruijn32tab", "math/bits.deBruijn64tab"], apart := false, laid := [("math/bits.deBruijn32tab", laid_math_bits_deBruijn32tab), ("math/bits.deBruijn64tab", laid_math_bits_deBruijn64tab), ("internal/strconv.uint64pow10", laid_internal_strconv_uint64pow10), ("strconv.ErrRange", laid_strconv_ErrRange), ("strconv.ErrSyntax", laid_strconv_ErrSyntax)], narrowed := true }
def NamesAlphaUptoSaid : Prop := namesAlphaUptoRow.holds Tryz.pinned (OpenSpec.upto namesAlphaSpec)

/-- 'typedholeslaw11.NamesFresh', WHERE WHAT IT READS IS OF BULK AT MOST 1048576: true; the input reads as it did. -/
def namesFreshUptoRow : OpenClaim := { program := "ytlcncicmkkelcaagreatdoor", sum := "d9a7f2ab8efcd8de8bc35df1ceb02815b5c5b4ca163824daf21c68eded951ce0", func := "typedholes/typedholeslaw11.NamesFresh", spec := "namesFresh", unfollowed := true, recurses := true, named := ["strconv.ErrSyntax", "strconv.ErrRange", "internal/strconv.uint64pow10", "math/bits.deBruijn32tab", "math/bits.deBruijn64tab"], apart := false, laid := [("math/bits.deBruijn32tab", laid_math_bits_deBruijn32tab), ("math/bits.deBruijn64tab", laid_math_bits_deBruijn64tab), ("internal/strconv.uint64pow10", laid_internal_strconv_uint64pow10), ("strconv.ErrRange", laid_strconv_ErrRange), ("strconv.ErrSyntax", laid_strconv_ErrSyntax)], narrowed := true }
def NamesFreshUptoSaid : Prop := namesFreshUptoRow.holds Tryz.pinned (OpenSpec.upto namesFreshSpec)

/-- 'typedholeslaw11.NamesSubstFree', WHERE WHAT IT READS IS OF BULK AT MOST 1048576: true; the input reads as it did. -/
def namesSubstFreeUptoRow : OpenClaim := { program := "ytlcncicmkkelcaagreatdoor", sum := "d9a7f2ab8efcd8de8bc35df1ceb02815b5c5b4ca163824daf21c68eded951ce0", func := "typedholes/typedholeslaw11.NamesSubstFree", spec := "namesSubstFree", unfollowed := true, recurses := true, named := ["strconv.ErrSyntax", "strconv.ErrRange", "internal/strconv.uint64pow10", "math/bits.deBruijn32tab", "math/bits.deBruijn64tab"], apart := false, laid := [("math/bits.deBruijn32tab", laid_math_bits_deBruijn32tab), ("math/bits.deBruijn64tab", laid_math_bits_deBruijn64tab), ("internal/strconv.uint64pow10", laid_internal_strconv_uint64pow10), ("strconv.ErrRange", laid_strconv_ErrRange), ("strconv.ErrSyntax", laid_strconv_ErrSyntax)], narrowed := true }
def NamesSubstFreeUptoSaid : Prop := namesSubstFreeUptoRow.holds Tryz.pinned (OpenSpec.upto namesSubstFreeSpec)

/-- 'typedholeslaw11.NamesSubstAlpha', WHERE WHAT IT READS IS OF BULK AT MOST 1048576: true; the input reads as it did. -/
def namesSubstAlphaUptoRow : OpenClaim := { program := "ytlcncicmkkelcaagreatdoor", sum := "d9a7f2ab8efcd8de8bc35df1ceb02815b5c5b4ca163824daf21c68eded951ce0", func := "typedholes/typedholeslaw11.NamesSubstAlpha", spec := "namesSubstAlpha", unfollowed := true, recurses := true, named := ["strconv.ErrSyntax", "strconv.ErrRange", "internal/strconv.uint64pow10", "math/bits.deBruijn32tab", "math/bits.deBruijn64tab"], apart := false, laid := [("math/bits.deBruijn32tab", laid_math_bits_deBruijn32tab), ("math/bits.deBruijn64tab", laid_math_bits_deBruijn64tab), ("internal/strconv.uint64pow10", laid_internal_strconv_uint64pow10), ("strconv.ErrRange", laid_strconv_ErrRange), ("strconv.ErrSyntax", laid_strconv_ErrSyntax)], narrowed := true }
def NamesSubstAlphaUptoSaid : Prop := namesSubstAlphaUptoRow.holds Tryz.pinned (OpenSpec.upto namesSubstAlphaSpec)

/-- 'typedholeslaw11.NamesSubst', WHERE WHAT IT READS IS OF BULK AT MOST 1048576: true; the input reads as it did. -/
def namesSubstUptoRow : OpenClaim := { program := "ytlcncicmkkelcaagreatdoor", sum := "d9a7f2ab8efcd8de8bc35df1ceb02815b5c5b4ca163824daf21c68eded951ce0", func := "typedholes/typedholeslaw11.NamesSubst", spec := "namesSubst", unfollowed := true, recurses := true, named := ["strconv.ErrSyntax", "strconv.ErrRange", "internal/strconv.uint64pow10", "math/bits.deBruijn32tab", "math/bits.deBruijn64tab"], apart := false, laid := [("math/bits.deBruijn32tab", laid_math_bits_deBruijn32tab), ("math/bits.deBruijn64tab", laid_math_bits_deBruijn64tab), ("internal/strconv.uint64pow10", laid_internal_strconv_uint64pow10), ("strconv.ErrRange", laid_strconv_ErrRange), ("strconv.ErrSyntax", laid_strconv_ErrSyntax)], narrowed := true }
def NamesSubstUptoSaid : Prop := namesSubstUptoRow.holds Tryz.pinned (OpenSpec.upto namesSubstSpec)

/-- 'typedholeslaw11.NamesCanonical', WHERE WHAT IT READS IS OF BULK AT MOST 1048576: true; the input reads as it did. -/
def namesCanonicalUptoRow : OpenClaim := { program := "ytlcncicmkkelcaagreatdoor", sum := "d9a7f2ab8efcd8de8bc35df1ceb02815b5c5b4ca163824daf21c68eded951ce0", func := "typedholes/typedholeslaw11.NamesCanonical", spec := "namesCanonical", unfollowed := true, recurses := true, named := ["strconv.ErrSyntax", "strconv.ErrRange", "internal/strconv.uint64pow10", "math/bits.deBruijn32tab", "math/bits.deBruijn64tab"], apart := false, laid := [("math/bits.deBruijn32tab", laid_math_bits_deBruijn32tab), ("math/bits.deBruijn64tab", laid_math_bits_deBruijn64tab), ("internal/strconv.uint64pow10", laid_internal_strconv_uint64pow10), ("strconv.ErrRange", laid_strconv_ErrRange), ("strconv.ErrSyntax", laid_strconv_ErrSyntax)], narrowed := true }
def NamesCanonicalUptoSaid : Prop := namesCanonicalUptoRow.holds Tryz.pinned (OpenSpec.upto namesCanonicalSpec)

/-- 'typedholeslaw29.OrderSizes', WHERE WHAT IT READS IS OF BULK AT MOST 1048576: true; the input reads as it did. -/
def orderSizesUptoRow : OpenClaim := { program := "ytlcncicmkkelcaagreatdoor", sum := "d9a7f2ab8efcd8de8bc35df1ceb02815b5c5b4ca163824daf21c68eded951ce0", func := "typedholes/typedholeslaw29.OrderSizes", spec := "orderSizes", unfollowed := true, recurses := true, named := ["strconv.ErrSyntax", "strconv.ErrRange", "internal/strconv.uint64pow10", "math/bits.deBruijn32tab", "math/bits.deBruijn64tab"], apart := false, laid := [("math/bits.deBruijn32tab", laid_math_bits_deBruijn32tab), ("math/bits.deBruijn64tab", laid_math_bits_deBruijn64tab), ("internal/strconv.uint64pow10", laid_internal_strconv_uint64pow10), ("strconv.ErrRange", laid_strconv_ErrRange), ("strconv.ErrSyntax", laid_strconv_ErrSyntax)], narrowed := true }
def OrderSizesUptoSaid : Prop := orderSizesUptoRow.holds Tryz.pinned (OpenSpec.upto orderSizesSpec)

end Rows
end Go.Proofs.YtlcncicmkkelcaaGreatDoor
