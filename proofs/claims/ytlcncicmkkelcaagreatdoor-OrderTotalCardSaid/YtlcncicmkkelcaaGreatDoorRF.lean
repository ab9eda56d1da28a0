/- What the law of the total order needs about the declared constructors, the visible names and terms (plain). (Parts of one proof, put together.) -/
import Derived.Test.YtlcncicmkkelcaaGreatDoorRN
import Derived.Test.YtlcncicmkkelcaaGreatDoorRH
import Derived.Test.YtlcncicmkkelcaaGreatDoorRD
import Derived.Test.YtlcncicmkkelcaaGreatDoorRC
set_option linter.unusedSimpArgs false
set_option linter.unusedVariables false
set_option linter.deprecated false

/- What the law of the total order needs about the declared constructors, the visible names and terms (plain). -/
namespace Go.Vs.Tryz
open Go Go.Vs

theorem uniq_of : ∀ {ds : List DataD}, (ds.flatMap cnames).Nodup → uniq ds
  | [], _ => fun d hd => by cases hd
  | a :: r, h => by
    rw [List.flatMap_cons, List.nodup_append] at h
    obtain ⟨_, h2, h3⟩ := h
    have ih := uniq_of h2
    intro d hd d' hd' c hc hc'
    rcases List.mem_cons.1 hd with rfl | hd1 <;> rcases List.mem_cons.1 hd' with rfl | hd2
    · rfl
    · exact absurd rfl (h3 c hc c (List.mem_flatMap.2 ⟨d', hd2, hc'⟩))
    · exact absurd rfl (h3 c hc' c (List.mem_flatMap.2 ⟨d, hd1, hc⟩))
    · exact ih d hd1 d' hd2 c hc hc'
theorem uniq.sub {ds ds7 : List DataD} (h : uniq ds7) (hs : ∀ d ∈ ds, d ∈ ds7) : uniq ds := fun d hd d' hd' c hc hc' => h d (hs d hd) d' (hs d' hd') c hc hc'

theorem seenTo_all {l : List EntD} {s : Str} (h : s ∈ names l) : ∀ i, i ≤ l.length → s ∈ names (seenTo l i) ∨ s ∈ names (l.drop i)
  | 0, _ => .inr (by simpa using h)
  | i + 1, hi => by
    obtain ⟨e, he⟩ := get_of_lt (l := l) (i := i) (by omega)
    have hd : l.drop i = e :: l.drop (i + 1) := by
      rw [List.drop_eq_getElem_cons (by omega)]
      congr 1
      exact (List.getElem?_eq_some_iff.1 he).2
    have key : s ∈ names (seenTo l i) → s ∈ names (seenTo l (i + 1)) := by
      intro h1
      simp only [seenTo, he]
      split
      · exact h1
      · simp only [names, List.map_append, List.mem_append]
        exact .inl h1
    rcases seenTo_all h i (by omega) with h1 | h1
    · exact .inl (key h1)
    · rw [hd] at h1
      simp only [names, List.map_cons, List.mem_cons] at h1
      rcases h1 with h1 | h1
      · by_cases hn : e.name ∈ names (l.drop (i + 1))
        · exact .inr (h1 ▸ hn)
        · left
          simp only [seenTo, he, hn, if_false]
          simp [names, h1]
      · exact .inr h1
theorem seenN_all {ctx : List EntD} {s : Str} (h : s ∈ names ctx) : s ∈ seenN ctx := by
  rcases seenTo_all h ctx.length (Nat.le_refl _) with h1 | h1
  · exact h1
  · simp [names] at h1

theorem good.tyBd {e : Exp} : good e → tyBd e := by
  induction e using Exp.ind with
  | h e ih =>
    intro g
    rw [tyBd_eq]
    refine ⟨?_, fun x hx => ih x hx (g.child hx)⟩
    rw [g.one.2.2.1]
    decide
end Go.Vs.Tryz

/- OrderTotal, walked: it says true. -/
namespace Go.Vs.Tryz
open Go Go.Vs
variable {A : Oracle}

/-- What the five terms share. -/
def Fine (ds : List DataD) (ctx : List EntD) (e : Exp) : Prop := good e ∧ inScope ds e (names ctx) ∧ e.weight ≤ 32768

set_option maxHeartbeats 16000000 in
theorem lawTotal (bits : Int) (L : List Int) (ds7 : List DataD) (h7 : ds7.length = 7) (hg : ∀ d ∈ ds7, goodD d) (hc7 : conNames ds7) (hu7 : uniq ds7) (h55 : (K A).call 71 [] [] = some (datasV ds7, [])) (hf : (K A).call 12 [] [] = some (boolV true, [])) :
    (K A).call 4 [intV bits, .sc (.c (.sl (intRows L)))] [] = some (boolV true, []) := by
  refine fn_of (vf := v4) (by kernel_rfl) rfl (by simp) ?_
  have h8 : (K A).call 13 [.sc (.c (.sl (intRows L)))] [] = some (boolV (decide (L.length ≤ 60)), []) := few8 L
  unfold v4
  by_cases hL : L.length ≤ 60
  · obtain ⟨_, ⟨ds, ctx, l, p, hd7, hds, hctx, hname, hl, hall, hp, rfl⟩, hm⟩ := made14 (A := A) bits L ds7 hc7 4 (by omega) (by omega) (datas21 bits ds7 h7 hg h55)
    rw [show ((4 : Nat) : Int) = 4 from rfl] at hm
    have hds1 := hds.1
    have hdc : ∀ d ∈ ds, d.cons.length ≤ 6 := fun d hd => (hds.2 d hd).2.2.1
    have hu := hu7.sub hd7
    obtain ⟨x0, hx0⟩ := get_of_lt (l := l) (i := 0) (by omega)
    obtain ⟨g0, s0, w0⟩ := hall x0 (List.mem_of_getElem? hx0)
    obtain ⟨_, ⟨tk, htk, rfl⟩, hc17⟩ := canonical17 (A := A) ctx x0 g0.wf (by omega) (by omega)
    have hfl := freeR_len x0 [] []
    rw [free_same x0 g0.wf] at hfl
    obtain ⟨gc, sc, wc'⟩ := canonT_term (taken := tk) g0 s0 w0 htk (by simp at hfl; omega)
    have hall2 : ∀ e ∈ l ++ [canonT x0 tk], good e ∧ inScope ds e (names ctx) ∧ e.weight ≤ 32768 := by
      intro e he
      rcases List.mem_append.1 he with he | he
      · exact hall e he
      · simp only [List.mem_singleton] at he
        exact he ▸ ⟨gc, sc, by omega⟩
    have hl2 : (l ++ [canonT x0 tk]).length = 5 := by simp [hl]
    simp (disch := first | omega | (simp; done) | (simp; omega)) [hf, h8, hL, hm, hx0, hc17, hl, -getElem?_pos]
    generalize hz : l ++ [canonT x0 tk] = z at *
    have hS : ∀ s ∈ names ctx, s ∈ seenN ctx := fun s h => seenN_all h
    have fine : ∀ x ∈ z, good x ∧ x.weight ≤ 32768 ∧ inScope ds x (names ctx ++ []) := fun x hx => ⟨(hall2 x hx).1, (hall2 x hx).2.2, by rw [List.append_nil]; exact (hall2 x hx).2.1⟩
    clear hall2 hz hm
    refine wp_loopI (fun i s => s = ⟨[(5, datasV ds), (6, .sc (.arr 736 ctx.length)), (7, .sc (.arr 737 5)), (8, intV i)], [(736, some (.arr 7 (wr (entRows ctx)) ctx.length)), (737, some (.arr 11 (wr (Exp.rows z)) 0))]⟩) 5 (by simp) ?_ ?_
    · rintro i s hi rfl
      obtain ⟨x, hx⟩ := get_of_lt (l := z) (i := i) (by omega)
      obtain ⟨gx, wx, sx⟩ := fine x (List.mem_of_getElem? hx)
      have hi2 : (i : Int) < 5 := by omega
      unfold l4_2
      simp (maxSteps := 4000000) (disch := first | omega | (simp; done) | (simp; omega)) [hi2, hl2, -getElem?_pos]
      refine wp_loopI (fun j s => s = ⟨[(5, datasV ds), (6, .sc (.arr 736 ctx.length)), (7, .sc (.arr 737 5)), (8, intV i), (9, intV j)], [(736, some (.arr 7 (wr (entRows ctx)) ctx.length)), (737, some (.arr 11 (wr (Exp.rows z)) 0))]⟩) 5 (by simp) ?_ ?_
      · rintro j s hj rfl
        obtain ⟨y, hy⟩ := get_of_lt (l := z) (i := j) (by omega)
        obtain ⟨gy, wy, sy⟩ := fine y (List.mem_of_getElem? hy)
        have hj2 : (j : Int) < 5 := by omega
        have cxy := compare15 (A := A) ds ctx (by omega) hdc (by omega) 32768 x y wx gx gy (by omega) (by omega)
        have cyx := compare15 (A := A) ds ctx (by omega) hdc (by omega) 32768 y x wy gy gx (by omega) (by omega)
        have anti := cmpF_anti (rk := rkM ds ctx) 32768 [] [] x y
        have hzero := cmp_zero hu hS 32768 x y [] [] wx gx gy rfl sx sy
        have hb := cmpF_one3 (rk := rkM ds ctx) 32768 [] [] x y
        unfold one3 at hb
        obtain ⟨_, ⟨v, hv, rfl⟩, hal⟩ := alpha18 (A := A) x y gx.wf gy.wf gx.tyBd (by omega) (by omega)
        have htri : ∀ u, good u → inScope ds u (names ctx ++ []) → Tri (cmpF (rkM ds ctx) 32768 [] [] x y) (cmpF (rkM ds ctx) 32768 [] [] y u) (cmpF (rkM ds ctx) 32768 [] [] x u) := fun u gu su =>
          cmp_Tri hu hS 32768 x y u [] [] [] gx gy gu rfl rfl sx sy su
        rw [← hzero] at hv
        generalize cmpF (rkM ds ctx) 32768 [] [] x y = c at *
        have hcyx : cmpF (rkM ds ctx) 32768 [] [] y x = - c := by omega
        rw [hcyx] at cyx
        have hdec : v = decide (c = 0) := by
          cases v with
          | true => simp [hv.1 rfl]
          | false =>
            have : ¬ c = 0 := fun h => by have := hv.2 h; cases this
            simp [this]
        subst hdec
        unfold l4_1
        simp (maxSteps := 4000000) (disch := first | omega | (simp; done) | (simp; omega)) [hi2, hj2, hl2, hx, hy, cxy, cyx, hal, -getElem?_pos]
        refine wp_loopI (fun k s => s = ⟨[(5, datasV ds), (6, .sc (.arr 736 ctx.length)), (7, .sc (.arr 737 5)), (8, intV i), (9, intV j), (10, intV c), (11, intV k)], [(736, some (.arr 7 (wr (entRows ctx)) ctx.length)), (737, some (.arr 11 (wr (Exp.rows z)) 0))]⟩) 5 (by simp) ?_ ?_
        · rintro k s hk rfl
          obtain ⟨u, hu2⟩ := get_of_lt (l := z) (i := k) (by omega)
          obtain ⟨gu, wu, su⟩ := fine u (List.mem_of_getElem? hu2)
          have hk2 : (k : Int) < 5 := by omega
          have cyu := compare15 (A := A) ds ctx (by omega) hdc (by omega) 32768 y u wy gy gu (by omega) (by omega)
          have cxu := compare15 (A := A) ds ctx (by omega) hdc (by omega) 32768 x u wx gx gu (by omega) (by omega)
          obtain ⟨_, ht2⟩ := htri u gu su
          generalize cmpF (rkM ds ctx) 32768 [] [] y u = d at *
          generalize cmpF (rkM ds ctx) 32768 [] [] x u = f at *
          unfold l4_0
          by_cases q1 : c < 0
          · by_cases q2 : d < 0
            · have q3 : f < 0 := ht2 (by omega) (by omega) (.inl q1)
              have q4 : ¬ 0 ≤ f := by omega
              simp (maxSteps := 4000000) (disch := first | omega | (simp; done) | (simp; omega)) [hi2, hj2, hk2, hl2, hx, hy, hu2, cyu, cxu, q1, q2, q3, q4, -getElem?_pos]
            · simp (maxSteps := 4000000) (disch := first | omega | (simp; done) | (simp; omega)) [hi2, hj2, hk2, hl2, hx, hy, hu2, cyu, cxu, q1, q2, -getElem?_pos]
          · simp (maxSteps := 4000000) (disch := first | omega | (simp; done) | (simp; omega)) [hi2, hj2, hk2, hl2, hx, hy, hu2, cyu, cxu, q1, -getElem?_pos]
        · rintro s rfl
          unfold l4_0
          simp (maxSteps := 4000000) (disch := first | omega | (simp; done) | (simp; omega)) [hl2, -getElem?_pos]
      · rintro s rfl
        unfold l4_1
        simp (maxSteps := 4000000) (disch := first | omega | (simp; done) | (simp; omega)) [hl2, -getElem?_pos]
    · rintro s rfl
      unfold l4_2
      simp (maxSteps := 4000000) (disch := first | omega | (simp; done) | (simp; omega)) [hl2, -getElem?_pos]
  · simp (disch := first | omega | (simp; done) | (simp; omega)) [hf, h8, hL]
end Go.Vs.Tryz
