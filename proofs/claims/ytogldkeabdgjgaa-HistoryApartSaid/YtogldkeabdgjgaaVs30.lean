/- The value semantics, 30: from a law's value to its row: the arguments opened, the world behind the call. -/
import Derived.Test.YtogldkeabdgjgaaVs29
import Derived.ProofKit
namespace Go.Vs
open Go Go.ChangeShapes Go.RowKit

/-- All cells of all blocks that are there: a law writes none of them. -/
def wAll (w : World) (b : Nat) : Nat := match w.heap[b]? with
  | some (.cells c _ _) => c.size
  | _ => 0

def intRows (k : IntKind) (zs : List Int) : List (List Cell) := zs.map fun n => [.int k n]

section
variable {H : Type} {enc : TypeId × Value → H} {P : Program} {W W' : World} {β : Nat → Option Nat} {L : Nat → Option Obj}

theorem wAll_cell {w : World} {b i : Nat} {v : Value} (h : at? w b i = some v) : i < wAll w b := by
  unfold at? World.cell? at h
  unfold wAll
  simp only at h
  split at h <;> simp_all
  exact (Array.getElem?_eq_some_iff.1 h).1

theorem ints_rows {k : IntKind} {b : Nat} : ∀ {zs : List Int} {off : Nat}, (∀ j, j < zs.length → W.cell? ⟨b, off + j, none⟩ = some (.int k (zs.getD j 0))) → RDrows W (wAll W) b 1 off (intRows k zs)
  | [], _, _ => by simp [intRows, RDrows]
  | z :: zs, off, h => by
    simp only [intRows, List.map_cons, RDrows, List.length_singleton, RDcells, and_true, true_and]
    have h0 : at? W b off = some (.int k z) := by simpa [at?] using h 0 (by simp)
    refine ⟨⟨wAll_cell h0, _, h0, by simp [RD]⟩, ints_rows (zs := zs) fun j hj => ?_⟩
    have := h (j + 1) (by simpa using hj)
    rw [Nat.add_assoc, Nat.add_comm 1 j]
    simpa using this

/-- A slice of integers among the arguments. -/
theorem ints_arg {base : Nat} {b0 : Nat} {r : Reach} {t e : TypeId} {k : IntKind} {v : Value} {d : DataW H} {ps : List MemPlace} (ht : P.underlying t = some (.slice e)) (he : P.underlying e = some (.int k)) (hc : P.cellsOf e = 1)
    (hval : Value.okWide P W r b0 t v) (h : DataW.Trod enc P W base (fun _ => true) true t v d ps) :
    ∃ zs : List Int, RV1 W (wAll W) β L (.sc (.c (.sl (intRows k zs)))) v ∧ ∀ n ∈ zs, (Lit.int k n).wf = true := by
  obtain ⟨fuel, hf⟩ := h
  obtain ⟨a0, l0, c0, rfl⟩ := WideShapes.okWide_slice ht hval
  rcases open_ints ht he hc hf with ⟨hcs, _⟩ | ⟨a, len, cap, zs, hcs, _, hl, hm, hz, _, hcell, hwz⟩
  · refine ⟨[], ?_, by simp⟩
    simp only [Value.cells, List.cons.injEq, Value.slice.injEq, and_true] at hcs
    obtain ⟨rfl, rfl, rfl⟩ := hcs
    simp only [RV1, RW, RD, intRows, List.map_nil]
    exact ⟨none, 0, by simp, by simp, by simp [maxRows], by simp⟩
  · simp only [Value.cells, List.cons.injEq, Value.slice.injEq, and_true] at hcs
    obtain ⟨rfl, rfl, rfl⟩ := hcs
    simp only [if_true] at hz
    have hlen : (intRows k (zs.take l0)).length = l0 := by simp [intRows]; omega
    refine ⟨zs.take l0, ?_, fun n hn => hwz n (List.mem_of_mem_take hn)⟩
    simp only [RV1, RW, RD]
    refine ⟨some a, c0, by rw [hlen], by rw [hlen]; exact hl, hm, ?_⟩
    by_cases h0 : l0 = 0
    · left
      subst h0
      simp [intRows]
    · right
      obtain ⟨b, off, spot⟩ := a
      have hspot : spot = none := by simpa [Addr.add] using World.cell?_spot (hcell 0 (by omega))
      subst hspot
      have hat : ∀ j, j < zs.length → W.cell? ⟨b, off + j, none⟩ = some (.int k (zs.getD j 0)) := fun j hj => by rw [← Go.WideShapes.add_plain]; exact hcell j hj
      refine ⟨b, off, 1, rfl, Nat.one_pos, ints_rows fun j hj => ?_⟩
      have hj' : j < l0 := by simp at hj; omega
      rw [hat j (by omega)]
      simp [List.getD_eq_getElem?_getD, hj']

/-- An integer among the arguments. -/
theorem int_arg {base : Nat} {b0 : Nat} {r : Reach} {spare : Nat → Bool} {held : Bool} {t : TypeId} {k : IntKind} {v : Value} {d : DataW H} {ps : List MemPlace} (ht : P.underlying t = some (.int k))
    (hval : Value.okWide P W r b0 t v) (h : DataW.Trod enc P W base spare held t v d ps) :
    ∃ n : Int, RV1 W (wAll W) β L (.sc (.c (.int k n))) v ∧ (Lit.int k n).wf = true := by
  obtain ⟨n, rfl, _, _, hw⟩ := open_int ht hval h
  exact ⟨n, by simp [RV1, RW, RD], hw⟩

/-- A law that is handed nothing but data. -/
theorem law_calls {gl : Nat → List Cell} {f : FuncId} {vs : List V} (h : FnOk P gl f vs [] (.sc (.c (.bool true))) []) (hgl : ∀ g, RDcells W (wAll W) g 0 (gl g)) {args : Array Value} (hargs : RVs W (wAll W) (fun _ => none) (Lof []) vs args.toList) :
    Calls P f args W fun e W' => e = .returned (.bool true) ∧ Below W.heap.size W W' := by
  refine (h.2 W (wAll W) (fun _ => none) args hgl hargs (fun k o hk => by simp [Lof] at hk) (fun _ _ _ hj => by simp [Lof] at hj)).mono fun e W' ⟨vv, ω', β', he, hv, _, _, hk, _⟩ => ?_
  simp only [RV, RV1, RW, RD] at hv
  subst hv
  exact ⟨he, hk.os, hk.tape, hk.output, hk.size, fun b hb => (hk.same b hb (by simp [Lof])).1⟩

theorem trodAll_stays (hl : laidOutB P = true) : ∀ {ts : List TypeId} {vs : List Value} {ds : List (DataW H)} {ps : List MemPlace}, (∀ t ∈ ts, P.readableRec t = true ∧ t < P.types.size) →
    DataW.TrodAll enc P W 0 (fun _ => true) true ts vs ds ps → Below W.heap.size W W' → (∀ x ∈ ps, x.block < W.heap.size) → DataW.TrodAll enc P W' 0 (fun b => decide (b < W.heap.size)) true ts vs ds ps
  | [], vs, ds, ps, _, h, _, _ => by
    obtain ⟨rfl, rfl, rfl⟩ := trodAll_nil h
    exact trodAll_mk0
  | t :: ts, vs, ds, ps, hr, h, hb, hlt => by
    obtain ⟨v, vs, d, ds, p, q, rfl, rfl, rfl, h1, h2⟩ := trodAll_cons h
    exact ⟨p, q, Below.trod hl (hr t (by simp)).1 (hr t (by simp)).2 h1 hb fun x hx => hlt x (by simp [hx]),
      trodAll_stays hl (fun u hu => hr u (by simp [hu])) h2 hb fun x hx => hlt x (by simp [hx]), rfl⟩

theorem law_post {f : Func} {s : ChangeSpec} {apart fresh handsOn : Bool} {t : TypeId} {args : Array Value} {ds gs : List (DataW H)} {before : List MemPlace} (hl : laidOutB P = true) (hr : ∀ t ∈ f.params.toList, P.readableRec t = true ∧ t < P.types.size)
    (hrt : f.resultTypes = #[t]) (ht : P.underlying t = some .bool) (hvars : s.vars = []) (hW : DataW.Whole enc P f.params.toList s.vars apart W args.toList ds gs before)
    (hspec : (s.fn H (ds ++ [])).results = [.lit (.bool true)] ∧ (s.fn H (ds ++ [])).args = ds ∧ (s.fn H (ds ++ [])).vars = []) (hb : Below W.heap.size W W') :
    s.post enc P f apart fresh handsOn false W args (.bool true) W' := by
  have hW' := hW
  obtain ⟨p, q, hA, hV, rfl, hfz, hnd⟩ := hW
  rw [hvars] at hV
  obtain ⟨rfl, rfl⟩ := trodVars_none hV
  obtain ⟨h1, h2, h3⟩ := hspec
  refine ⟨ds, [], p ++ [], [], p, [], hW', ?_, ?_, ?_, ?_, fun h => nomatch h⟩
  · rw [h1, hrt]
    exact trodAll_mk1 (shut_bool ht true)
  · rw [h2]
    exact trodAll_stays hl hr hA hb fun x hx => by simpa using hW'.lt x (by simp [hx])
  · rw [h3, hvars]
    rfl
  · exact hb.frame _

end
end Go.Vs
