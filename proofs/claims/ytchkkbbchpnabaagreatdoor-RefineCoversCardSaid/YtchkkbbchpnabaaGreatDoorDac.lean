/- All declarations, by the kernel. -/
import Derived.Test.YtchkkbbchpnabaaGreatDoorB8c
import Derived.Test.YtchkkbbchpnabaaGreatDoorR1c
set_option linter.unusedSimpArgs false
set_option linter.unusedVariables false
set_option linter.deprecated false

/- All declarations, by the kernel. -/
namespace Go.Vs.Tryz
open Go Go.Vs Go.Proofs.Tryz
set_option maxRecDepth 100000
def ds7 : List DataD := [
  ⟨0, [66, 111, 111, 108], [], [⟨12, [84, 114, 117, 101], []⟩, ⟨19, [70, 97, 108, 115, 101], []⟩]⟩,
  ⟨26, [79, 112, 116, 105, 111, 110], [[97]], [⟨42, [78, 111, 110, 101], []⟩, ⟨49, [83, 111, 109, 101], [(.mk 5 [97] 0 0 [])]⟩]⟩,
  ⟨57, [76, 105, 115, 116], [[97]], [⟨71, [78, 105, 108], []⟩, ⟨77, [67, 111, 110, 115], [(.mk 5 [97] 0 0 []), (.mk 4 [76, 105, 115, 116] 0 0 [(.mk 5 [97] 0 0 [])])]⟩]⟩,
  ⟨93, [80, 97, 105, 114], [[97], [98]], [⟨109, [80, 97, 105, 114], [(.mk 5 [97] 0 0 []), (.mk 5 [98] 0 0 [])]⟩]⟩,
  ⟨119, [78, 97, 116], [], [⟨130, [90, 101, 114, 111], []⟩, ⟨137, [83, 117, 99, 99], [(.mk 4 [78, 97, 116] 0 0 [])]⟩]⟩,
  ⟨147, [70, 117, 110], [[97], [98]], [⟨162, [70, 117, 110], [(.mk 4 [45, 62] 0 0 [(.mk 5 [97] 0 0 []), (.mk 5 [98] 0 0 [])])]⟩]⟩,
  ⟨176, [84, 119, 111], [[97]], [⟨189, [66, 111, 116, 104], [(.mk 5 [97] 0 0 []), (.mk 5 [97] 0 0 [])]⟩, ⟨200, [79, 110, 101], [(.mk 4 [79, 112, 116, 105, 111, 110] 0 0 [(.mk 5 [97] 0 0 [])])]⟩]⟩]
theorem t23 : evk [] 400 23 [] [] = some (datasV ds7, []) := by kernel_rfl
theorem all_fn : FnOk prog gl0 23 [] [] (datasV ds7) [] := evk_ok (l := []) (n := 400) (fun _ h => nomatch h) t23
end Go.Vs.Tryz

/- What the cards of several laws share: the given answers, and what is known of the declarations. -/
namespace Go.Vs.Tryz
open Go Go.Vs

/-- The given answers: a chapter's example k, and all declarations. -/
def A7 (k : Nat) : Oracle := fun f args objs => match args, objs with
  | [], [] => bif f == k then some (boolV true, []) else bif f == 23 then some (datasV ds7, []) else none
  | _, _ => none
theorem A7_ok (k : Nat) (hk : FnOk Go.Proofs.Tryz.prog gl0 k [] [] (boolV true) []) : ∀ f args objs rv objs', skip f = true → A7 k f args objs = some (rv, objs') → FnOk Go.Proofs.Tryz.prog gl0 f args objs rv objs' := by
  intro f args objs rv objs' _ h
  unfold A7 at h
  split at h
  · cases h15 : f == k with
    | true =>
      rw [h15] at h
      simp only [cond_true, Option.some.injEq, Prod.mk.injEq] at h
      obtain ⟨rfl, rfl⟩ := h
      obtain rfl : f = k := by simpa using h15
      exact hk
    | false =>
      rw [h15] at h
      simp only [cond_false] at h
      cases h55 : f == 23 with
      | true =>
        rw [h55] at h
        simp only [cond_true, Option.some.injEq, Prod.mk.injEq] at h
        obtain ⟨rfl, rfl⟩ := h
        obtain rfl : f = 23 := by simpa using h55
        exact all_fn
      | false => rw [h55] at h; cases h
  · cases h
theorem A7_at (k : Nat) (hs : skip k = true) : X2 (A7 k) k [] [] = some (boolV true, []) := by
  simp [X2, hs, A7]
theorem good7 : ∀ d ∈ ds7, goodD d := by
  intro d hd
  simp only [ds7, List.mem_cons, List.not_mem_nil, or_false] at hd
  rcases hd with rfl | rfl | rfl | rfl | rfl | rfl | rfl <;> simp [goodD]
theorem K55 (k : Nat) (h : ((23 : Nat) == k) = false := by rfl) : (K (A7 k)).call 23 [] [] = some (datasV ds7, []) := by
  refine lim_X (by kernel_rfl) ?_
  simp [X2, show skip 23 = true from rfl, A7, h]
end Go.Vs.Tryz
