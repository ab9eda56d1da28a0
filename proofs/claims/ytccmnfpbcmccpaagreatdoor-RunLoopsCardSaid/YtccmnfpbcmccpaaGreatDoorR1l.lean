/- RunLoops: the rounds of the run, and the law. (Parts of one proof, put together.) -/
import Derived.Test.YtccmnfpbcmccpaaGreatDoorR0l
set_option linter.unusedSimpArgs false
set_option linter.unusedVariables false
set_option linter.deprecated false

/- RunLoops: the rounds of the run, and the law. -/
namespace Go.Vs.Tryz
open Go Go.Vs

abbrev natV (n : Nat) : V := .sc (.c (.int .i64 n))
abbrev numV (n : Int) : V := .sc (.c (.int .i64 n))
abbrev zeroX : List W := [zi, zi, zs, zi, .nil, .nil, zi, zs, zi, zi, .nil]
abbrev rlS (m : Nat) (a : List W) (t : List (Nat × Option Obj)) (i : Nat) : St :=
  ⟨[(0, nilD), (2, natV m), (4, .sc (.ptr 64 0)), (6, .sc (.ptr 128 0)), (9, natV i)], (64, some (.box a)) :: (128, some (.box zeroX)) :: t⟩

set_option maxHeartbeats 2000000 in
theorem rl_round {x0 x1 x2 x3 x4 x5 x6 x7 x8 x9 x10 y0 y1 y2 y3 y4 y5 y6 y7 y8 y9 y10 : Cell} {r n : Int}
    (h16 : Kl.call 16 [nilD, .ag [.c x0, .c x1, .c x2, .c x3, .c x4, .c x5, .c x6, .c x7, .c x8, .c x9, .c x10]] [] = some (.tu [.ag [.c y0, .c y1, .c y2, .c y3, .c y4, .c y5, .c y6, .c y7, .c y8, .c y9, .c y10], .sc (.c (.int .i64 r)), .sc (.c (.bool true))], [])) (hr : r ≠ 0)
    (h71 : Kl.call 71 [.ag [.c x0, .c x1, .c x2, .c x3, .c x4, .c x5, .c x6, .c x7, .c x8, .c x9, .c x10]] [] = some (numV n, [])) (hn : n ≤ 2000)
    {t : List (Nat × Option Obj)} (ht : t = [] ∨ ∃ c, t = [(1280, some (.box c))]) (i m : Nat) (hi : i < m) (hm : m ≤ 300) :
    wp Kl l33_0 (fun e s => e = .normal ∧ s = rlS m [.c y0, .c y1, .c y2, .c y3, .c y4, .c y5, .c y6, .c y7, .c y8, .c y9, .c y10] [(1280, some (.box [.c y0, .c y1, .c y2, .c y3, .c y4, .c y5, .c y6, .c y7, .c y8, .c y9, .c y10]))] (i + 1))
      (rlS m [.c x0, .c x1, .c x2, .c x3, .c x4, .c x5, .c x6, .c x7, .c x8, .c x9, .c x10] t i) := by
  have hi' : (i : Int) < m := by omega
  have hn' : ¬ n > 2000 := by omega
  unfold l33_0
  rcases ht with rfl | ⟨c, rfl⟩
  · simp (disch := first | omega | (simp; done) | (simp; omega)) [h16, h71, hr, hn', hi', -getElem?_pos]
  · simp (disch := first | omega | (simp; done) | (simp; omega)) [h16, h71, hr, hn', hi', -getElem?_pos]

def rlAt : Nat → V
  | 0 => rlE0
  | 1 => rlE1
  | i + 2 => if i % 2 = 0 then rlE2 else rlE3
theorem rl_step (m i : Nat) (hi : i < m) (hm : m ≤ 300) {t : List (Nat × Option Obj)} (ht : t = [] ∨ ∃ c, t = [(1280, some (.box c))]) :
    wp Kl l33_0 (fun e s => e = .normal ∧ s = rlS m (rlAt (i + 1)).cells [(1280, some (.box (rlAt (i + 1)).cells))] (i + 1)) (rlS m (rlAt i).cells t i) := by
  match i, hi with
  | 0, hi => exact rl_round kl16_0 (by decide) kl71_0 (by decide) ht 0 m hi hm
  | 1, hi => exact rl_round kl16_1 (by decide) kl71_1 (by decide) ht 1 m hi hm
  | j + 2, hi =>
    by_cases h : j % 2 = 0
    · have h1 : rlAt (j + 2) = rlE2 := if_pos h
      have h2 : rlAt (j + 2 + 1) = rlE3 := if_neg (by omega)
      rw [h1, h2]
      exact rl_round kl16_2 (by decide) kl71_2 (by decide) ht (j + 2) m hi hm
    · have h1 : rlAt (j + 2) = rlE3 := if_neg h
      have h2 : rlAt (j + 2 + 1) = rlE2 := if_pos (by omega)
      rw [h1, h2]
      exact rl_round kl16_3 (by decide) kl71_3 (by decide) ht (j + 2) m hi hm

theorem rl_at (i : Nat) : ∃ x0 x1 x2 x3 x4 x5 x6 x7 x8 x9 x10 : Cell, rlAt i = .ag [.c x0, .c x1, .c x2, .c x3, .c x4, .c x5, .c x6, .c x7, .c x8, .c x9, .c x10] ∧ Kl.call 49 [.ag [.c x0, .c x1, .c x2, .c x3, .c x4, .c x5, .c x6, .c x7, .c x8, .c x9, .c x10]] [] = some (.ag [.c x0, .c x1, .c x2, .c x3, .c x4, .c x5, .c x6, .c x7, .c x8, .c x9, .c x10], []) ∧ Kl.call 19 [.ag [.c x0, .c x1, .c x2, .c x3, .c x4, .c x5, .c x6, .c x7, .c x8, .c x9, .c x10]] [] = some (.sc (.c (.bool false)), []) := by
  match i with
  | 0 => exact ⟨_, _, _, _, _, _, _, _, _, _, _, rfl, kl49_0, kl19_0⟩
  | 1 => exact ⟨_, _, _, _, _, _, _, _, _, _, _, rfl, kl49_1, kl19_1⟩
  | j + 2 =>
    by_cases h : j % 2 = 0
    · have h1 : rlAt (j + 2) = rlE2 := if_pos h
      rw [h1]
      exact ⟨_, _, _, _, _, _, _, _, _, _, _, rfl, kl49_2, kl19_2⟩
    · have h1 : rlAt (j + 2) = rlE3 := if_neg h
      rw [h1]
      exact ⟨_, _, _, _, _, _, _, _, _, _, _, rfl, kl49_3, kl19_3⟩

set_option maxHeartbeats 2000000 in
theorem rl33 (k : Nat) (hk : k ≤ 2000) : ∃ x0 x1 x2 x3 x4 x5 x6 x7 x8 x9 x10 : Cell, Kl.call 33 [nilD, rlE0, natV k] [] = some (.tu [.ag [.c x0, .c x1, .c x2, .c x3, .c x4, .c x5, .c x6, .c x7, .c x8, .c x9, .c x10], natV (min k 300), .sc (.c (.bool false))], []) := by
  obtain ⟨x0, x1, x2, x3, x4, x5, x6, x7, x8, x9, x10, hx, h49, h19⟩ := rl_at (min k 300)
  refine ⟨x0, x1, x2, x3, x4, x5, x6, x7, x8, x9, x10, fn_l (vf := v33) (by kernel_rfl) rfl (by simp) ?_⟩
  have hm : (if (300 : Int) < k then 300 else (k : Int)) = ((min k 300 : Nat) : Int) := by split <;> omega
  have hm2 : min k 300 ≤ 300 := by omega
  have h0 : ¬ (k : Int) < 0 := by omega
  generalize hmm : min k 300 = m at *
  have hE : rlE0 = .ag rlE0.cells := rfl
  have hu : rlE0.cells.all notUn = true := rfl
  unfold v33
  rw [hE]
  simp (disch := first | omega | (simp; done) | (simp; omega)) [h0, hm, hu, -getElem?_pos]
  refine wp_loop (fun i => rlS m (rlAt i).cells (if i = 0 then [] else [(1280, some (.box (rlAt i).cells))]) i) m ?_ ?_ ?_
  · rfl
  · intro i hi
    refine wp_mono (rl_step m i hi hm2 ?_) ?_
    · by_cases h : i = 0
      · exact .inl (if_pos h)
      · exact .inr ⟨_, if_neg h⟩
    · rintro e s ⟨rfl, rfl⟩
      exact ⟨rfl, by rw [if_neg (by omega)]⟩
  · rw [hx]
    by_cases h : m = 0
    · subst h
      unfold l33_0
      simp (disch := first | omega | (simp; done) | (simp; omega)) [h49, h19, V.cells, -getElem?_pos]
    · unfold l33_0
      simp (disch := first | omega | (simp; done) | (simp; omega)) [h, h49, h19, V.cells, -getElem?_pos]
end Go.Vs.Tryz

/- RunLoops: the law. -/
namespace Go.Vs.Tryz
open Go Go.Vs

theorem mod30l (a m : Int) (hm : 0 < m) (hb : m ≤ 1073741824) : ∃ k : Nat, (k : Int) < m ∧ Kl.call 30 [numV a, numV m] [] = some (natV k, []) := by
  have h1 : ¬ m < 1 := by omega
  have h0 : m ≠ 0 := by omega
  have hlt : a.tmod m < m := Int.tmod_lt_of_pos a (by omega)
  have hgt : -m < a.tmod m := Int.lt_tmod_of_pos a (by omega)
  by_cases hneg : a.tmod m < 0
  · refine ⟨(a.tmod m + m).toNat, by omega, ?_⟩
    have hw : ((a.tmod m + m).toNat : Int) = a.tmod m + m := by omega
    rw [natV, hw]
    refine fn_l (vf := v30) (by kernel_rfl) rfl (by simp) ?_
    unfold v30
    simp (disch := first | omega | (simp; done) | (simp; omega)) [h1, h0, hneg]
  · refine ⟨(a.tmod m).toNat, by omega, ?_⟩
    have hw : ((a.tmod m).toNat : Int) = a.tmod m := by omega
    rw [natV, hw]
    refine fn_l (vf := v30) (by kernel_rfl) rfl (by simp) ?_
    unfold v30
    simp (disch := first | omega | (simp; done) | (simp; omega)) [h1, h0, hneg]

theorem rl31 (k : Nat) (hk : k ≤ 2000) : ∃ x0 x1 x2 x3 x4 x5 x6 x7 x8 x9 x10 : Cell, Kl.call 31 [rlP, natV k] [] = some (.tu [.ag [.c x0, .c x1, .c x2, .c x3, .c x4, .c x5, .c x6, .c x7, .c x8, .c x9, .c x10], natV (min k 300), .sc (.c (.bool false))], []) := by
  obtain ⟨x0, x1, x2, x3, x4, x5, x6, x7, x8, x9, x10, he⟩ := rl33 k hk
  obtain ⟨b, hP⟩ : ∃ b, rlP = .ag [.c (.sl []), .c (.sl b)] := ⟨_, rfl⟩
  obtain ⟨y0, y1, y2, y3, y4, y5, y6, y7, y8, y9, y10, hE⟩ : ∃ y0 y1 y2 y3 y4 y5 y6 y7 y8 y9 y10 : Cell, rlE0 = .ag [.c y0, .c y1, .c y2, .c y3, .c y4, .c y5, .c y6, .c y7, .c y8, .c y9, .c y10] := ⟨_, _, _, _, _, _, _, _, _, _, _, rfl⟩
  have h27 := kl27
  rw [hE] at he h27
  rw [hP] at h27 ⊢
  refine ⟨x0, x1, x2, x3, x4, x5, x6, x7, x8, x9, x10, fn_l (vf := v31) (by kernel_rfl) rfl (by simp) ?_⟩
  generalize min k 300 = m at *
  unfold v31
  simp (disch := first | omega | (simp; done) | (simp; omega)) [h27, he, -getElem?_pos]

theorem rl8 (z : Int) : Kl.call 8 [numV z] [] = some (.sc (.c (.bool true)), []) := by
  obtain ⟨k, hk, h30⟩ := mod30l z 2000 (by omega) (by omega)
  obtain ⟨x0, x1, x2, x3, x4, x5, x6, x7, x8, x9, x10, h31⟩ := rl31 k (by omega)
  obtain ⟨b, hP⟩ : ∃ b, rlP = .ag [.c (.sl []), .c (.sl b)] := ⟨_, rfl⟩
  have h25 := kl25
  have h34 := kl34
  rw [hP] at h31 h34
  unfold rlText at h34
  have hm : (if (300 : Int) < k then 300 else (k : Int)) = ((min k 300 : Nat) : Int) := by split <;> omega
  refine fn_l (vf := v8) (by kernel_rfl) rfl (by simp) ?_
  generalize min k 300 = m at *
  unfold v8
  simp (disch := first | omega | (simp; done) | (simp; omega)) [h25, h34, h30, h31, hm, -getElem?_pos]

theorem runLoops_fn (x0 : Int) : FnOk Go.Proofs.Tryz.prog gl0 8 [.sc (.c (.int .i64 x0))] [] (.sc (.c (.bool true))) [] := by
  obtain ⟨n, h⟩ := lim_ex (rl8 x0)
  exact evalN_ok follows Tl_ok Xl_ok n h

end Go.Vs.Tryz
