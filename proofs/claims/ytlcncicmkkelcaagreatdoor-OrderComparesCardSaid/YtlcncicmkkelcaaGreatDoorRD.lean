/- OrderCompares, walked: it says true. (Parts of one proof, put together.) -/
import Derived.Test.YtlcncicmkkelcaaGreatDoorRB
import Derived.Test.YtlcncicmkkelcaaGreatDoorRC
set_option linter.unusedSimpArgs false
set_option linter.unusedVariables false
set_option linter.deprecated false

/- OrderCompares, walked: it says true. -/
namespace Go.Vs.Tryz
open Go Go.Vs
variable {A : Oracle}

set_option maxHeartbeats 4000000 in
theorem lawCompares (bits : Int) (L : List Int) (ds7 : List DataD) (h7 : ds7.length = 7) (hg : ∀ d ∈ ds7, goodD d) (hc7 : conNames ds7) (h55 : (K A).call 71 [] [] = some (datasV ds7, [])) (hf : (K A).call 12 [] [] = some (boolV true, [])) :
    (K A).call 3 [intV bits, .sc (.c (.sl (intRows L)))] [] = some (boolV true, []) := by
  refine fn_of (vf := v3) (by kernel_rfl) rfl (by simp) ?_
  have h8 : (K A).call 13 [.sc (.c (.sl (intRows L)))] [] = some (boolV (decide (L.length ≤ 60)), []) := few8 L
  unfold v3
  by_cases hL : L.length ≤ 60
  · obtain ⟨_, ⟨ds, ctx, l, hd7, hds, hctx, hname, hl, hall, rfl⟩, hm⟩ := made14 (A := A) bits L ds7 hc7 5 (by omega) (by omega) (datas21 bits ds7 h7 hg h55)
    rw [show ((5 : Nat) : Int) = 5 from rfl] at hm
    have hds1 := hds.1
    have hdc : ∀ d ∈ ds, d.cons.length ≤ 6 := fun d hd => (hds.2 d hd).2.2.1
    simp (disch := first | omega | (simp; done) | (simp; omega)) [hf, h8, hL, hm, -getElem?_pos]
    refine wp_loopI (fun i s => s = ⟨[(5, datasV ds), (6, entsV ctx), (7, expsV l), (8, intV i)], []⟩) l.length (by simp) ?_ ?_
    · rintro i s hi rfl
      obtain ⟨x, hx⟩ := get_of_lt hi
      obtain ⟨gx, _, wx⟩ := hall x (List.mem_of_getElem? hx)
      unfold l3_1
      simp (disch := first | omega | (simp; done) | (simp; omega)) [hi, -getElem?_pos]
      refine wp_loopI (fun k s => s = ⟨[(5, datasV ds), (6, entsV ctx), (7, expsV l), (8, intV i), (9, intV k)], []⟩) l.length (by simp) ?_ ?_
      · rintro k s hk rfl
        obtain ⟨y, hy⟩ := get_of_lt hk
        obtain ⟨gy, _, wy⟩ := hall y (List.mem_of_getElem? hy)
        have c1 := compare15 (A := A) ds ctx (by omega) hdc (by omega) 32768 x y wx gx gy (by omega) (by omega)
        have c2 := compare16 (A := A) ds ctx (by omega) hdc (by omega) 32768 x y wx gx gy (by omega) (by omega)
        generalize cmpF (rkM ds ctx) 32768 [] [] x y = z at *
        unfold l3_0
        simp (disch := first | omega | (simp; done) | (simp; omega)) [hk, hx, hy, c1, c2, -getElem?_pos]
      · rintro s rfl
        unfold l3_0
        simp (disch := first | omega | (simp; done) | (simp; omega)) [-getElem?_pos]
    · rintro s rfl
      unfold l3_1
      simp (disch := first | omega | (simp; done) | (simp; omega)) [-getElem?_pos]
  · simp (disch := first | omega | (simp; done) | (simp; omega)) [hf, h8, hL]
end Go.Vs.Tryz
