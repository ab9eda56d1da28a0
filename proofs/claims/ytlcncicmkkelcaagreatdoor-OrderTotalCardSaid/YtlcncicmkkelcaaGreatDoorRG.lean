/- Valid terms by the program, walked. (Parts of one proof, put together.) -/
import Derived.Test.YtlcncicmkkelcaaGreatDoorR8
set_option linter.unusedSimpArgs false
set_option linter.unusedVariables false
set_option linter.deprecated false

/- Valid terms by the program, walked. -/
namespace Go.Vs.Tryz
open Go Go.Vs
variable {A : Oracle}

theorem notLower116 (s : Str) (h : nameOk 97 122 s) : (K A).call 116 [strV s] [] = some (boolV false, []) := by
  refine fn_of (vf := v116) (by kernel_rfl) rfl (by simp) ?_
  have h1 := lower109 (A := A) s h
  unfold v116
  simp (disch := first | omega | (simp; done) | (simp; omega)) [h1]
theorem indexS (l : List Str) (hl : l.length ≤ 1073741824) (h : ∀ s ∈ l, nameOk 97 122 s) : (K A).call 163 [strsV l, .sc (.c (.fn 116 [] []))] [] = some (intV (-1), []) := by
  refine fn_of (vf := v163) (by kernel_rfl) rfl (by simp) ?_
  unfold v163
  simp (disch := first | omega | (simp; done) | (simp; omega)) [-getElem?_pos]
  refine wp_loop (fun i => ⟨[(0, strsV l), (1, .sc (.c (.fn 116 [] []))), (7, intV l.length), (8, intV i)], []⟩) l.length ?_ ?_ ?_
  · simp
  · intro i hi
    obtain ⟨x, hx⟩ := get_of_lt hi
    have h1 := notLower116 (A := A) x (h x (List.mem_of_getElem? hx))
    unfold l163_0
    simp (disch := first | omega | (simp; done) | (simp; omega)) [hi, hx, h1, -getElem?_pos]
  · unfold l163_0
    simp (disch := first | omega | (simp; done) | (simp; omega)) [-getElem?_pos]
theorem anyS115 (l : List Str) (hl : l.length ≤ 1073741824) (h : ∀ s ∈ l, nameOk 97 122 s) : (K A).call 115 [strsV l, .sc (.c (.fn 116 [] []))] [] = some (boolV false, []) := by
  refine fn_of (vf := v115) (by kernel_rfl) rfl (by simp) ?_
  have h1 := indexS (A := A) l hl h
  unfold v115
  simp (disch := first | omega | (simp; done) | (simp; omega)) [h1]
theorem indexE (l : List Exp) (hl : l.length ≤ 1073741824) (h : ∀ x ∈ l, (K A).call 63 [expV x] [] = some (boolV true, [])) : (K A).call 164 [expsV l, .sc (.c (.fn 118 [] []))] [] = some (intV (-1), []) := by
  refine fn_of (vf := v164) (by kernel_rfl) rfl (by simp) ?_
  have hn : ∀ x ∈ l, (K A).call 118 [expV x] [] = some (boolV false, []) := by
    intro x hx
    have h1 := h x hx
    refine fn_of (vf := v118) (by kernel_rfl) rfl (by simp) ?_
    unfold v118
    simp (disch := first | omega | (simp; done) | (simp; omega)) [h1]
  unfold v164
  simp (disch := first | omega | (simp; done) | (simp; omega)) [-getElem?_pos]
  refine wp_loop (fun i => ⟨[(0, expsV l), (1, .sc (.c (.fn 118 [] []))), (7, intV l.length), (8, intV i)], []⟩) l.length ?_ ?_ ?_
  · simp
  · intro i hi
    obtain ⟨x, hx⟩ := get_of_lt hi
    have h1 := hn x (List.mem_of_getElem? hx)
    unfold l164_0
    simp (disch := first | omega | (simp; done) | (simp; omega)) [hi, hx, h1, -getElem?_pos]
  · unfold l164_0
    simp (disch := first | omega | (simp; done) | (simp; omega)) [-getElem?_pos]
theorem anyE117 (l : List Exp) (hl : l.length ≤ 1073741824) (h : ∀ x ∈ l, (K A).call 63 [expV x] [] = some (boolV true, [])) : (K A).call 117 [expsV l, .sc (.c (.fn 118 [] []))] [] = some (boolV false, []) := by
  refine fn_of (vf := v117) (by kernel_rfl) rfl (by simp) ?_
  have h1 := indexE (A := A) l hl h
  unfold v117
  simp (disch := first | omega | (simp; done) | (simp; omega)) [h1]

theorem zeroTy : (K A).call 114 [.ag [zi, zs, zi, zi, .c (.sl [])], .ag [zi, zs, zi, zi, .c (.sl [])]] [] = some (boolV true, []) := lim_of (n := 20) (by kernel_rfl)

set_option maxRecDepth 10000 in
set_option maxHeartbeats 16000000 in
theorem valid63 (e : Exp) : good e → e.weight ≤ 1073741824 → (K A).call 63 [expV e] [] = some (boolV true, []) := by
  induction e using Exp.ind with
  | h e ih =>
  intro hg hl
  refine fn_of (vf := v63) (by kernel_rfl) rfl (by simp) ?_
  obtain ⟨hpos, hnum, hty, _⟩ := hg.one
  have hz := zeroTy (A := A)
  have hal := e.children_le
  rw [Exp.children_len] at hal
  have htr : wc e.ty.row = [zi, zs, zi, zi, .c (.sl [])] := by rw [hty]; simp [tz, Ty.row, Ty.rows]
  have hch := anyE117 (A := A) e.children (by rw [Exp.children_len]; omega) (fun x hx => ih x hx (hg.child hx) (by have := Exp.child_lt hx; omega))
  have ht : e.ty.kind = 0 ∧ e.ty.name = [] ∧ e.ty.id = 0 ∧ e.ty.home = 0 ∧ e.ty.args = [] := by rw [hty]; exact ⟨rfl, rfl, rfl, rfl, rfl⟩
  rcases hg.cases with ⟨h, hn, hk, ha⟩ | ⟨h, hn, hk, ha⟩ | ⟨h, hn, ⟨x, hk, gx⟩, ha⟩ | ⟨h, hn, ⟨f, x, hk, hf, gf, gx⟩, ha⟩ | ⟨h, hn, ⟨x, hk, hx1, gx⟩, ha, hall⟩
  · have hlo := lower109 (A := A) e.name hn
    have hc := children51_leaf (A := A) e hk ha
    rw [show e.children = [] by simp [Exp.children, hk, ha]] at hch
    simp only [expsV, rows0] at hch
    unfold v63
    simp (maxSteps := 4000000) (disch := first | omega | (simp; done) | (simp; omega)) [h, hpos, hnum, hk, ha, hlo, hz, htr, hc, hch, -getElem?_pos]
    refine wp_loop (fun i => ⟨[(1, .sc (.ptr 64 0)), (127, .sc (.c (.sl []))), (128, intV 0), (129, intV i)], [(64, some (.box (wc e.row)))]⟩) 0 (by simp) (fun i hi => by omega) ?_
    unfold l63_0
    simp (maxSteps := 4000000) (disch := first | omega | (simp; done) | (simp; omega)) [hc, hch, -getElem?_pos]
  · have hlo := upper108 (A := A) e.name hn
    have hc := children51_leaf (A := A) e hk ha
    rw [show e.children = [] by simp [Exp.children, hk, ha]] at hch
    simp only [expsV, rows0] at hch
    unfold v63
    simp (maxSteps := 4000000) (disch := first | omega | (simp; done) | (simp; omega)) [h, hpos, hnum, hk, ha, hlo, hz, htr, hc, hch, -getElem?_pos]
    refine wp_loop (fun i => ⟨[(1, .sc (.ptr 64 0)), (127, .sc (.c (.sl []))), (128, intV 0), (129, intV i)], [(64, some (.box (wc e.row)))]⟩) 0 (by simp) (fun i hi => by omega) ?_
    unfold l63_0
    simp (maxSteps := 4000000) (disch := first | omega | (simp; done) | (simp; omega)) [hc, hch, -getElem?_pos]
  · have hlo := lower109 (A := A) e.name hn
    have hc := children51 (A := A) e (by simp [hk]) hl
    unfold v63
    simp (maxSteps := 4000000) (disch := first | omega | (simp; done) | (simp; omega)) [h, hpos, hnum, hk, ha, hlo, hz, htr, -getElem?_pos]
    refine wp_loop (fun i => ⟨[(1, .sc (.ptr 64 0)), (127, .sc (.c (.sl []))), (128, intV 0), (129, intV i)], [(64, some (.box (wc e.row)))]⟩) 0 (by simp) (fun i hi => by omega) ?_
    unfold l63_0
    simp (maxSteps := 4000000) (disch := first | omega | (simp; done) | (simp; omega)) [hc, hch, -getElem?_pos]
  · have hc := children51 (A := A) e (by simp [hk]) hl
    unfold v63
    simp (maxSteps := 4000000) (disch := first | omega | (simp; done) | (simp; omega)) [h, hpos, hnum, hn, hk, ha, hz, htr, -getElem?_pos]
    refine wp_loop (fun i => ⟨[(1, .sc (.ptr 64 0)), (127, .sc (.c (.sl []))), (128, intV 0), (129, intV i)], [(64, some (.box (wc e.row)))]⟩) 0 (by simp) (fun i hi => by omega) ?_
    unfold l63_0
    simp (maxSteps := 4000000) (disch := first | omega | (simp; done) | (simp; omega)) [hc, hch, -getElem?_pos]
  · have hc := children51 (A := A) e (by simp [hk]) hl
    have hpa : 0 < e.arms.length := List.length_pos_iff.2 ha
    unfold v63
    simp (maxSteps := 4000000) (disch := first | omega | (simp; done) | (simp; omega)) [h, hpos, hnum, hn, hk, ha, hpa, hz, htr, -getElem?_pos]
    refine wp_loop (fun i => ⟨[(1, .sc (.ptr 64 0)), (127, .sc (.c (.sl (Exp.armRows e.arms)))), (128, intV e.arms.length), (129, intV i)], [(64, some (.box (wc e.row)))]⟩) e.arms.length (by simp) (fun i hi => ?_) ?_
    · obtain ⟨p, hp⟩ := get_of_lt hi
      obtain ⟨q1, q2, q3, q4, _⟩ := hall p (List.mem_of_getElem? hp)
      have hu := upper108 (A := A) p.1.con q2
      have hv := anyS115 (A := A) p.1.vars (by omega) q4
      have q3' : ¬ (4 : Int) < p.1.vars.length := by omega
      unfold l63_0
      simp (maxSteps := 4000000) (disch := first | omega | (simp; done) | (simp; omega)) [hi, hp, q1, q3, q3', hu, hv, -getElem?_pos]
    · unfold l63_0
      simp (maxSteps := 4000000) (disch := first | omega | (simp; done) | (simp; omega)) [hc, hch, -getElem?_pos]
end Go.Vs.Tryz
