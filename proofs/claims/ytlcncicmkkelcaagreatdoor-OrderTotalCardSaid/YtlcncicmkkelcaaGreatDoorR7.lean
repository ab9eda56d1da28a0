/- Contexts and ranks: their functions, walked. (Parts of one proof, put together.) -/
import Derived.Test.YtlcncicmkkelcaaGreatDoorR6
set_option linter.unusedSimpArgs false
set_option linter.unusedVariables false
set_option linter.deprecated false

/- Contexts and ranks: their functions, walked. -/
namespace Go.Vs
open Go
structure EntD where
  name : Str
  count : Int
  ty : Ty
def entRow (e : EntD) : List Cell := .str e.name :: .int .i64 e.count :: e.ty.row
def entRows (l : List EntD) : List (List Cell) := l.map entRow
@[simp] theorem entRow_len (e : EntD) : (entRow e).length = 7 := by simp [entRow]
@[simp] theorem entRows_len (l : List EntD) : (entRows l).length = l.length := by simp [entRows]
@[simp] theorem entRows_get (l : List EntD) (i : Nat) : (entRows l)[i]? = (l[i]?).map entRow := by simp [entRows]
@[simp] theorem okRows_ent (l : List EntD) : okRows 7 (wr (entRows l)) = true := okRows_of l entRow_len
@[simp] theorem entRows_snoc (l : List EntD) (x : EntD) : wr (entRows l) ++ [wc (entRow x)] = wr (entRows (l ++ [x])) := by simp [entRows, wr]
@[simp] theorem entRows0 : entRows [] = [] := rfl
/-- A scheme's cells. -/
def schRow (c : Int) (t : Ty) : List Cell := .int .i64 c :: t.row
@[simp] theorem schRow_len (c : Int) (t : Ty) : (schRow c t).length = 6 := by simp [schRow]
section
variable (e : EntD) (c : Int) (t : Ty)
@[simp] theorem cut_n0 : cut (entRow e) 0 1 = some [.str e.name] := by simp [entRow]
@[simp] theorem cut_n1 : cut (entRow e) 1 6 = some (schRow e.count e.ty) := by rw [entRow, schRow, Ty.row_eq]; rfl
@[simp] theorem cut_n : cut (entRow e) 0 7 = some (entRow e) := by rw [entRow, Ty.row_eq]; rfl
@[simp] theorem cutw_n0 : cut (wc (entRow e)) 0 1 = some [.c (.str e.name)] := by rw [entRow, Ty.row_eq]; rfl
@[simp] theorem cutw_n1 : cut (wc (entRow e)) 1 6 = some (wc (schRow e.count e.ty)) := by rw [entRow, schRow, Ty.row_eq]; rfl
@[simp] theorem cutw_n : cut (wc (entRow e)) 0 7 = some (wc (entRow e)) := by rw [entRow, Ty.row_eq]; rfl
@[simp] theorem cutw_sch : cut (wc (schRow c t)) 0 6 = some (wc (schRow c t)) := by rw [schRow, Ty.row_eq]; rfl
@[simp] theorem flat_sch : (wc (schRow c t)).all flatW = false := by rw [schRow, Ty.row_eq]; simp [wc, flatW]
@[simp] theorem flat_ent : (wc (entRow e)).all flatW = false := by rw [entRow, Ty.row_eq]; simp [wc, flatW]
end
section
variable {C : Ctx} {E : Nat → Option V} {L : Nat → Option Obj} {oid : Nat}
@[simp] theorem x_sl {s : Nat} {x : Opd} {lo hi mx : Option Opd} : exec1 C E L oid (.sl s x lo hi mx) = slice1 L s (x.val C E) (lo.map (·.val C E)) (hi.map (·.val C E)) (mx.map (·.val C E)) := rfl
theorem fit_map {α : Type} {f : α → List Cell} {k : Nat} (h : ∀ a, (f a).length = k) (l : List α) : rowsFit k (l.map f) = true := by
  cases l with
  | nil => rfl
  | cons a r => simp [rowsFit, h a]
@[simp] theorem fit_ent (l : List EntD) : rowsFit 7 (entRows l) = true := fit_map entRow_len l
@[simp] theorem fit_data (l : List DataD) : rowsFit 4 (dataRows l) = true := fit_map dataRow_len l
@[simp] theorem slice_from {s n : Nat} {k : IntKind} {rows : List (List Cell)} (h : n ≤ rows.length) : slice1 L s (.sc (.c (.sl rows))) (some (.sc (.c (.int k (n : Int))))) none none = bif rowsFit s rows then some (.sc (.c (.sl (rows.drop n))), []) else none := by
  simp [slice1, boundOr, natBelow_nat, blt_dec, Nat.lt_succ_of_le h]
@[simp] theorem slice_from1 {s n : Nat} {k : IntKind} {rows : List (List Cell)} (h : n + 1 ≤ rows.length) : slice1 L s (.sc (.c (.sl rows))) (some (.sc (.c (.int k ((n : Int) + 1))))) none none = bif rowsFit s rows then some (.sc (.c (.sl (rows.drop (n + 1)))), []) else none := slice_from (n := n + 1) h
@[simp] theorem slice_to {s n : Nat} {k : IntKind} {rows : List (List Cell)} (h : n ≤ rows.length) : slice1 L s (.sc (.c (.sl rows))) none (some (.sc (.c (.int k (n : Int))))) none = bif rowsFit s rows then some (.sc (.c (.sl (rows.take n))), []) else none := by
  simp [slice1, boundOr, natBelow_nat, blt_dec, Nat.lt_succ_of_le h]
@[simp] theorem entRows_drop (l : List EntD) (n : Nat) : (entRows l).drop n = entRows (l.drop n) := by simp [entRows]
@[simp] theorem dataRows_take (l : List DataD) (n : Nat) : (dataRows l).take n = dataRows (l.take n) := by simp [dataRows]
@[simp] theorem call1_clo {call : Oracle} {f : FuncId} {w : W} {args : List (Bool × V)} : call1 call L oid (.sc (.clo f [true] [[w]])) args = callA call L oid f (argsOf L (args ++ [(true, .sc w)])) := by
  rw [call1_eq]
  rfl
end
end Go.Vs

namespace Go.Vs.Tryz
open Go Go.Vs
variable {A : Oracle}

abbrev entsV (l : List EntD) : V := .sc (.c (.sl (entRows l)))
def names (l : List EntD) : List Str := l.map (·.name)
@[simp] theorem names_len (l : List EntD) : (names l).length = l.length := by simp [names]
@[simp] theorem names_get (l : List EntD) (i : Nat) : (names l)[i]? = (l[i]?).map (·.name) := by simp [names]

theorem same123 (x e : EntD) : (K A).call 212 [.ag (wc (entRow x)), .sc (.ptr 0 0)] [.box (wc (entRow e))] = some (boolV (decide (x.name = e.name)), [.box (wc (entRow e))]) := by
  refine fn_of (vf := v212) (by kernel_rfl) rfl (by simp) ?_
  unfold v212
  simp (disch := first | omega | (simp; done) | (simp; omega))

theorem index179 (l : List EntD) (e : EntD) (h : l.length ≤ 1073741824) : (K A).call 247 [entsV l, .sc (.clo 212 [true] [[.ptr 0 0]])] [.box (wc (entRow e))] =
    some (intV (if e.name ∈ names l then (place (names l) e.name : Int) else -1), [.box (wc (entRow e))]) := by
  refine fn_of (vf := v247) (by kernel_rfl) rfl (by simp) ?_
  unfold v247
  have hp := place_le (names l) e.name
  rw [names_len] at hp
  simp (disch := first | omega | (simp; done) | (simp; omega))
  refine wp_loop (fun i => ⟨[(0, entsV l), (1, .sc (.clo 212 [true] [[.ptr 0 0]])), (7, intV l.length), (8, intV i)], [(0, some (.box (wc (entRow e))))]⟩) (place (names l) e.name) ?_ ?_ ?_
  · simp
  · intro i hi
    obtain ⟨n, hn, hne⟩ := place_lt hi
    rw [names_get] at hn
    obtain ⟨x, hx, rfl⟩ := Option.map_eq_some_iff.1 hn
    have hs := same123 (A := A) x e
    have hlt : i < l.length := by omega
    unfold l247_0
    simp (disch := first | omega | (simp; done) | (simp; omega)) [hx, hne, hlt, hs, -getElem?_pos]
  · unfold l247_0
    by_cases hm : place (names l) e.name < l.length
    · have hn := place_at (l := names l) (s := e.name) (by simpa using hm)
      rw [names_get] at hn
      obtain ⟨x, hx, hxe⟩ := Option.map_eq_some_iff.1 hn
      have hs := same123 (A := A) x e
      have hmem := place_mem.1 (show place (names l) e.name < (names l).length by simpa using hm)
      simp (disch := first | omega | (simp; done) | (simp; omega)) [hx, hxe, hm, hs, hmem, -getElem?_pos]
    · have hn : e.name ∉ names l := fun h => hm (by have := place_mem.2 h; simpa using this)
      simp (disch := first | omega | (simp; done) | (simp; omega)) [hm, hn, -getElem?_pos]

theorem contains122 (l : List EntD) (e : EntD) (h : l.length ≤ 1073741824) : (K A).call 211 [entsV l, .sc (.clo 212 [true] [[.ptr 0 0]])] [.box (wc (entRow e))] = some (boolV (decide (e.name ∈ names l)), [.box (wc (entRow e))]) := by
  refine fn_of (vf := v211) (by kernel_rfl) rfl (by simp) ?_
  have := index179 (A := A) l e h
  unfold v211
  by_cases hn : e.name ∈ names l <;> simp (disch := first | omega | (simp; done) | (simp; omega)) [this, hn]

/-- The entries that are not hidden, among the first i. -/
def seenTo (l : List EntD) : Nat → List EntD
  | 0 => []
  | i + 1 => match l[i]? with
    | none => seenTo l i
    | some e => if e.name ∈ names (l.drop (i + 1)) then seenTo l i else seenTo l i ++ [e]
theorem seenTo_len (l : List EntD) : ∀ i, (seenTo l i).length ≤ i
  | 0 => by simp [seenTo]
  | i + 1 => by
    have := seenTo_len l i
    simp only [seenTo]
    split
    · omega
    · split
      · omega
      · simp; omega

theorem seen80 (l : List EntD) (h : l.length ≤ 1073741824) : (K A).call 150 [entsV l] [] = some (entsV (seenTo l l.length), []) := by
  refine fn_of (vf := v150) (by kernel_rfl) rfl (by simp) ?_
  unfold v150
  simp (disch := first | omega | (simp; done) | (simp; omega))
  refine wp_loop (fun i => ⟨[(0, entsV l), (3, .sc (.arr 129 (seenTo l i).length)), (6, entsV l), (7, intV l.length), (8, intV i)], [(129, some (.arr 7 (wr (entRows (seenTo l i))) 0))]⟩) l.length ?_ ?_ ?_
  · simp [seenTo]
  · intro i hi
    obtain ⟨e, he⟩ := get_of_lt hi
    have hc := contains122 (A := A) (l.drop (i + 1)) e (by simp; omega)
    have hsl := seenTo_len l i
    have hi' : i + 1 ≤ l.length := hi
    unfold l150_0
    by_cases hn : e.name ∈ names (l.drop (i + 1))
    · simp (disch := first | omega | (simp; done) | (simp; omega)) [he, hi, hc, hn, seenTo, -getElem?_pos]
    · simp (disch := first | omega | (simp; done) | (simp; omega)) [he, hi, hc, hn, seenTo, -getElem?_pos]
  · unfold l150_0
    simp (disch := first | omega | (simp; done) | (simp; omega))

end Go.Vs.Tryz

/- Contexts and ranks by the reference, walked; constructors found. -/
namespace Go.Vs.Tryz
open Go Go.Vs
variable {A : Oracle}

/-- The last place of a name, or -1. -/
def rlast (l : List Str) (s : Str) : Int := if s ∈ l then (l.length : Int) - 1 - place l.reverse s else -1

theorem rev_get {l : List Str} {i : Nat} (h : i < l.length) : l.reverse[i]? = l[l.length - 1 - i]? := List.getElem?_reverse h

def LookP (b : Bool) (r : V × List Obj) : Prop := ∃ c t, r = (.tu [.ag (wc (schRow c t)), boolV b], [])
theorem lookup82 (l : List EntD) (s : Str) (h : l.length ≤ 1073741824) : ∃ r, LookP (decide (s ∈ names l)) r ∧ (K A).call 124 [entsV l, strV s] [] = some r := by
  refine fn_ofE _ (vf := v124) (by kernel_rfl) rfl (by simp) ?_
  unfold v124
  have hp := place_le (names l).reverse s
  rw [List.length_reverse, names_len] at hp
  simp (disch := first | omega | (simp; done) | (simp; omega))
  refine wp_loop (fun i => ⟨[(0, entsV l), (1, strV s), (4, .sc (.ptr 64 0)), (6, intV ((l.length : Int) - 1 - i))], [(64, some (.box [zi, zi, zs, zi, zi, .nil]))]⟩) (place (names l).reverse s) ?_ ?_ ?_
  · simp
  · intro i hi
    obtain ⟨x, hx, hne⟩ := place_lt hi
    have hlt : i < l.length := by omega
    rw [rev_get (by simpa using hlt), names_get, names_len] at hx
    obtain ⟨e, he, rfl⟩ := Option.map_eq_some_iff.1 hx
    have hc : (l.length : Int) - 1 - i = ((l.length - 1 - i : Nat) : Int) := by omega
    have hc2 : (l.length : Int) - 1 - (i + 1) = ((l.length - 1 - i : Nat) : Int) - 1 := by omega
    unfold l124_0
    simp (disch := first | omega | (simp; done) | (simp; omega)) [hc, hc2, he, hne, -getElem?_pos]
  · unfold l124_0
    by_cases hm : place (names l).reverse s < l.length
    · have hx := place_at (l := (names l).reverse) (s := s) (by simpa using hm)
      have hmem : s ∈ names l := by
        have := place_mem.1 (show place (names l).reverse s < (names l).reverse.length by simpa using hm)
        simpa using this
      rw [rev_get (by simpa using hm), names_get, names_len] at hx
      obtain ⟨e, he, hes⟩ := Option.map_eq_some_iff.1 hx
      have hc : (l.length : Int) - 1 - (place (names l).reverse s : Nat) = ((l.length - 1 - place (names l).reverse s : Nat) : Int) := by omega
      simp (disch := first | omega | (simp; done) | (simp; omega)) [hc, he, hes, hmem, -getElem?_pos]
      exact ⟨_, _, rfl⟩
    · have hn : s ∉ names l := fun h => hm (by have := place_mem.2 (List.mem_reverse.2 h); simpa using this)
      have hc : (l.length : Int) - 1 - (place (names l).reverse s : Nat) = -1 := by omega
      simp (disch := first | omega | (simp; done) | (simp; omega)) [hc, hn, -getElem?_pos]
      refine ⟨0, tz, ?_⟩
      simp [schRow, tz, Ty.row]

theorem seen44 (l : List EntD) (h : l.length ≤ 1073741824) : (K A).call 65 [entsV l] [] = some (entsV (seenTo l l.length), []) := by
  refine fn_of (vf := v65) (by kernel_rfl) rfl (by simp) ?_
  unfold v65
  simp (disch := first | omega | (simp; done) | (simp; omega))
  refine wp_loop (fun i => ⟨[(0, entsV l), (3, .sc (.arr 129 (seenTo l i).length)), (4, intV i)], [(129, some (.arr 7 (wr (entRows (seenTo l i))) 0))]⟩) l.length ?_ ?_ ?_
  · simp [seenTo]
  · intro i hi
    obtain ⟨e, he⟩ := get_of_lt hi
    obtain ⟨_, ⟨c, t, rfl⟩, hc⟩ := lookup82 (A := A) (l.drop (i + 1)) e.name (by simp; omega)
    have hsl := seenTo_len l i
    have hi' : i + 1 ≤ l.length := hi
    unfold l65_0
    by_cases hn : e.name ∈ names (l.drop (i + 1))
    · simp (disch := first | omega | (simp; done) | (simp; omega)) [he, hi, hc, hn, seenTo, -getElem?_pos]
    · simp (disch := first | omega | (simp; done) | (simp; omega)) [he, hi, hc, hn, seenTo, -getElem?_pos]
  · unfold l65_0
    simp (disch := first | omega | (simp; done) | (simp; omega))

theorem names36 (l : List EntD) (h : l.length ≤ 1073741824) : (K A).call 52 [entsV l] [] = some (strsV (names l), []) := by
  refine fn_of (vf := v52) (by kernel_rfl) rfl (by simp) ?_
  unfold v52
  simp (disch := first | omega | (simp; done) | (simp; omega))
  refine wp_loop (fun i => ⟨[(0, entsV l), (3, .sc (.arr 129 i)), (4, intV i)], [(129, some (.arr 1 (wr (strRows ((names l).take i))) 0))]⟩) l.length ?_ ?_ ?_
  · simp
  · intro i hi
    obtain ⟨e, he⟩ := get_of_lt hi
    have hn : (names l)[i]? = some e.name := by simp [he]
    unfold l52_0
    simp (disch := first | omega | (simp; done) | (simp; omega)) [he, hi, take_next hn, Nat.min_eq_left (Nat.le_of_lt hi), -getElem?_pos]
  · have ht : (names l).take l.length = names l := List.take_of_length_le (by simp)
    unfold l52_0
    simp (disch := first | omega | (simp; done) | (simp; omega)) [ht]

theorem taken40 (l : List EntD) (h : l.length ≤ 1073741824) : (K A).call 99 [entsV l] [] = some (strsV (names (seenTo l l.length)), []) := by
  refine fn_of (vf := v99) (by kernel_rfl) rfl (by simp) ?_
  have h80 := seen80 (A := A) l h
  have hsl := seenTo_len l l.length
  unfold v99
  simp (disch := first | omega | (simp; done) | (simp; omega)) [h80]
  generalize seenTo l l.length = m at *
  refine wp_loop (fun i => ⟨[(3, .sc (.arr 129 i)), (7, entsV m), (8, intV m.length), (9, intV i)], [(129, some (.arr 1 (wr (strRows ((names m).take i))) 0))]⟩) m.length ?_ ?_ ?_
  · simp
  · intro i hi
    obtain ⟨e, he⟩ := get_of_lt hi
    have hn : (names m)[i]? = some e.name := by simp [he]
    unfold l99_0
    simp (disch := first | omega | (simp; done) | (simp; omega)) [he, hi, take_next hn, Nat.min_eq_left (Nat.le_of_lt hi), -getElem?_pos]
  · have ht : (names m).take m.length = names m := List.take_of_length_le (by simp)
    unfold l99_0
    simp (disch := first | omega | (simp; done) | (simp; omega)) [ht]

/- constructors -/
def cnames (d : DataD) : List Str := d.cons.map (·.name)
@[simp] theorem cnames_len (d : DataD) : (cnames d).length = d.cons.length := by simp [cnames]
@[simp] theorem cnames_get (d : DataD) (i : Nat) : (cnames d)[i]? = (d.cons[i]?).map (·.name) := by simp [cnames]
def dataOf (ds : List DataD) (c : Str) : Nat := ds.findIdx fun d => decide (c ∈ cnames d)
theorem dataOf_lt {ds : List DataD} {c : Str} {i : Nat} (h : i < dataOf ds c) : ∃ d, ds[i]? = some d ∧ c ∉ cnames d := by
  have hlt : i < ds.length := Nat.lt_of_lt_of_le h List.findIdx_le_length
  refine ⟨ds[i], List.getElem?_eq_getElem hlt, ?_⟩
  have := List.not_of_lt_findIdx h
  simpa using this
theorem dataOf_at {ds : List DataD} {c : Str} (h : dataOf ds c < ds.length) : ∃ d, ds[dataOf ds c]? = some d ∧ c ∈ cnames d := by
  refine ⟨ds[dataOf ds c], List.getElem?_eq_getElem h, ?_⟩
  have h1 := List.findIdx_getElem (w := h)
  exact of_decide_eq_true h1
theorem dataOf_le (ds : List DataD) (c : Str) : dataOf ds c ≤ ds.length := List.findIdx_le_length
/-- The place of a constructor. -/
def findM (ds : List DataD) (c : Str) : Int × Int × Bool := match ds[dataOf ds c]? with
  | some d => (dataOf ds c, place (cnames d) c, true)
  | none => (0, 0, false)
abbrev findV (r : Int × Int × Bool) : V := .tu [intV r.1, intV r.2.1, boolV r.2.2]

end Go.Vs.Tryz

/- Ranks, walked; the program's rank is the reference's. -/
namespace Go.Vs
open Go
section
variable {C : Ctx}
theorem scrubD_eq (ks : List Nat) (s : St) : scrubD ks s = s.scrub ks := by
  cases ks with
  | cons _ _ => rfl
  | nil =>
    obtain ⟨E, O⟩ := s
    unfold scrubD St.scrub
    have : (O.any fun x => x.2.isSome && List.contains [] x.1) = false := by
      rw [List.any_eq_false]
      intro x _
      simp
    simp only [this, cond_false]

/-- A range over slices.Backward's function: I i holds where i rows are left. -/
theorem wp_rangeB {x : Opd} {f s p q k : Nat} {ag : Bool} {asg body : VCode} {Q : Ex → St → Prop} {st : St} {rows : List (List Cell)} (hx : x.val C (get? st.env) = .sc (.clo f [true] [[.ptr k 0]])) (hk : 64 ≤ k)
    (hL : look st.objs k = some (.box [.c (.sl rows)])) (hn : rows.length ≤ 4294967296) (I : Nat → St → Prop) (h0 : I rows.length (scrubD [k] st))
    (round : ∀ i st' row, I (i + 1) st' → rows[i]? = some row → row.length = s ∧ ∃ v, asV ag (wc row) = some v ∧
      wp C asg (fun e s1 => e = .normal ∧ ((dropsOf body).all fun k => (look s1.objs k).isNone) = true ∧
        wp C body (fun e s2 => (e = .normal ∧ I i ⟨(scrubD (dropsOf asg ++ dropsOf body) st').env, s2.objs⟩) ∨ (e ≠ .normal ∧ Q e ⟨(scrubD (dropsOf asg ++ dropsOf body) st').env, s2.objs⟩)) s1)
        ⟨put (put (scrubD (dropsOf asg ++ dropsOf body) st').env p (.sc (.c (.int .i64 i)))) q v, (scrubD (dropsOf asg ++ dropsOf body) st').objs⟩)
    (fin : ∀ st', I 0 st' → Q .normal st') : wp C (.rangeB x f s ag p q asg body) Q st := by
  have key : ∀ i, i ≤ rows.length → ∀ st', I i st' → ∃ n e s', (∀ n', n ≤ n' → rounds (run C n' asg) (run C n' body) (dropsOf asg ++ dropsOf body) (dropsOf body) s ag p q rows i st' = some (e, s')) ∧ Q e s' := by
    intro i
    induction i with
    | zero => exact fun _ st' h => ⟨0, .normal, st', fun _ _ => rfl, fin st' h⟩
    | succ i ih =>
      intro hi st' h
      obtain ⟨row, hrow⟩ : ∃ row, rows[i]? = some row := ⟨rows[i], List.getElem?_eq_getElem (by omega)⟩
      obtain ⟨hlen, v, hv, n1, e1, s1, h1, rfl, h2, n2, e2, s2, h3, h4⟩ := round i st' row h hrow
      rw [scrubD_eq] at h1 h4
      have hl : (row.length == s) = true := by simp [hlen]
      have r1 : ∀ n', n1 ≤ n' → run C n' asg ⟨put (put (st'.scrub (dropsOf asg ++ dropsOf body)).env p (.sc (.c (.int .i64 i)))) q v, (st'.scrub (dropsOf asg ++ dropsOf body)).objs⟩ = some (.normal, s1) := fun n' hn => run_mono (gl := C.gl) (c := C.call) (Le.refl _) hn h1
      have r2 : ∀ n', n2 ≤ n' → run C n' body s1 = some (e2, s2) := fun n' hn => run_mono (gl := C.gl) (c := C.call) (Le.refl _) hn h3
      have hv' : asV ag (row.map W.c) = some v := hv
      rcases h4 with ⟨rfl, h4⟩ | ⟨hne, h4⟩
      · obtain ⟨n3, e3, s3, h5, h6⟩ := ih (by omega) _ h4
        refine ⟨max n1 (max n2 n3), e3, s3, fun n' hn' => ?_, h6⟩
        have ha := r1 n' (by omega)
        have hb := r2 n' (by omega)
        simp only [rounds, hrow, hl, cond_true, hv', ha, h2, hb]
        exact h5 n' (by omega)
      · refine ⟨max n1 n2, e2, _, fun n' hn' => ?_, h4⟩
        have ha := r1 n' (by omega)
        have hb := r2 n' (by omega)
        simp only [rounds, hrow, hl, cond_true, hv', ha, h2, hb]
        cases e2 with
        | normal => exact absurd rfl hne
        | exit _ => rfl
        | ret => rfl
  obtain ⟨n, e, s', h1, h2⟩ := key rows.length (Nat.le_refl _) _ h0
  refine ⟨n, e, s', ?_, h2⟩
  have hb : (f == f && Nat.ble 64 k) = true := by
    simp only [beq_self_eq_true, Bool.true_and]
    exact Nat.ble_eq_true_of_le hk
  have hb2 : Nat.ble rows.length maxRows2 = true := Nat.ble_eq_true_of_le (by unfold maxRows2; omega)
  rw [scrubD_eq] at h1
  simp only [run, hx, hb, cond_true, hL, hb2]
  exact h1 n (Nat.le_refl n)
attribute [simp] dropsOf
end
end Go.Vs

namespace Go.Vs.Tryz
open Go Go.Vs
variable {A : Oracle}

theorem find43 (ds : List DataD) (c : Str) (h : ds.length ≤ 1073741824) (hg : ∀ d ∈ ds, d.cons.length ≤ 1073741824) : (K A).call 108 [datasV ds, strV c] [] = some (findV (findM ds c), []) := by
  refine fn_of (vf := v108) (by kernel_rfl) rfl (by simp) ?_
  have hle := dataOf_le ds c
  unfold v108
  simp (disch := first | omega | (simp; done) | (simp; omega))
  refine wp_loop (fun i => ⟨[(1, strV c), (11, datasV ds), (12, intV ds.length), (13, intV i)], []⟩) (dataOf ds c) ?_ ?_ ?_
  · simp
  · intro i hi
    obtain ⟨d, hd, hn⟩ := dataOf_lt hi
    have hgd := hg d (List.mem_of_getElem? hd)
    have hlt : i < ds.length := by omega
    unfold l108_1
    simp (disch := first | omega | (simp; done) | (simp; omega)) [hd, hlt, -getElem?_pos]
    refine wp_loop (fun j => ⟨[(1, strV c), (11, datasV ds), (12, intV ds.length), (13, intV i), (7, intV i), (19, .sc (.c (.sl (conRows d.cons)))), (20, intV d.cons.length), (21, intV j)], [(704, some (.box (wc (dataRow d))))]⟩) d.cons.length ?_ ?_ ?_
    · simp
    · intro j hj
      obtain ⟨x, hx⟩ := get_of_lt hj
      have hne : ¬ x.name = c := fun e => hn (e ▸ List.mem_map_of_mem (List.mem_of_getElem? hx))
      unfold l108_0
      simp (disch := first | omega | (simp; done) | (simp; omega)) [hx, hj, hne, -getElem?_pos]
    · unfold l108_0
      simp (disch := first | omega | (simp; done) | (simp; omega)) [-getElem?_pos]
  · by_cases hm : dataOf ds c < ds.length
    · obtain ⟨d, hd, hmem⟩ := dataOf_at hm
      have hgd := hg d (List.mem_of_getElem? hd)
      have hp := place_mem.2 hmem
      rw [cnames_len] at hp
      unfold l108_1
      simp (disch := first | omega | (simp; done) | (simp; omega)) [hd, hm, -getElem?_pos]
      refine wp_loop (fun j => ⟨[(1, strV c), (11, datasV ds), (12, intV ds.length), (13, intV (dataOf ds c)), (7, intV (dataOf ds c)), (19, .sc (.c (.sl (conRows d.cons)))), (20, intV d.cons.length), (21, intV j)], [(704, some (.box (wc (dataRow d))))]⟩) (place (cnames d) c) ?_ ?_ ?_
      · simp
      · intro j hj
        obtain ⟨x, hx, hne⟩ := place_lt hj
        rw [cnames_get] at hx
        obtain ⟨y, hy, rfl⟩ := Option.map_eq_some_iff.1 hx
        have hlt : j < d.cons.length := by omega
        unfold l108_0
        simp (disch := first | omega | (simp; done) | (simp; omega)) [hy, hlt, hne, -getElem?_pos]
      · have hx := place_at (l := cnames d) (s := c) (by simpa using hp)
        rw [cnames_get] at hx
        obtain ⟨y, hy, hyc⟩ := Option.map_eq_some_iff.1 hx
        unfold l108_0
        simp (disch := first | omega | (simp; done) | (simp; omega)) [hd, hy, hp, hyc, findM, -getElem?_pos]
    · have hn : ds[dataOf ds c]? = none := List.getElem?_eq_none (by omega)
      unfold l108_1
      simp (disch := first | omega | (simp; done) | (simp; omega)) [hm, hn, findM, -getElem?_pos]

/-- How many constructors the first declarations have. -/
def consTo (ds : List DataD) (i : Nat) : Nat := ((ds.take i).map fun d => d.cons.length).sum
theorem consTo_succ {ds : List DataD} {i : Nat} {d : DataD} (h : ds[i]? = some d) : consTo ds (i + 1) = consTo ds i + d.cons.length := by
  unfold consTo
  rw [take_next h, List.map_append, List.sum_append]
  simp
theorem consTo_le {ds : List DataD} (hg : ∀ d ∈ ds, d.cons.length ≤ 6) (i : Nat) : consTo ds i ≤ ds.length * 6 := by
  unfold consTo
  have h1 : ((ds.take i).map fun d => d.cons.length).sum ≤ ((ds.take i).map fun _ => 6).sum := sum_le fun d hd => hg d (List.mem_of_mem_take hd)
  simp only [List.map_const', List.sum_replicate_nat, List.length_take] at h1
  have : min i ds.length * 6 ≤ ds.length * 6 := Nat.mul_le_mul_right _ (Nat.min_le_right ..)
  omega

/-- The rank of a head. -/
def rankM (ds : List DataD) (seen bound : List Str) (e : Exp) : Int :=
  if e.kind = 1 then (if e.name ∈ bound then seen.length + rlast bound e.name else rlast seen e.name)
  else if e.kind = 2 then match findM ds e.name with
    | (i, k, true) => seen.length + bound.length + k + consTo ds i.toNat
    | _ => -1
  else -1

end Go.Vs.Tryz

/- The rank of a head, by the program and by the reference, walked. -/
namespace Go.Vs.Tryz
open Go Go.Vs
variable {A : Oracle}

theorem findM_cases (ds : List DataD) (c : Str) : findM ds c = (0, 0, false) ∨ ∃ (i k : Nat) (d : DataD), ds[i]? = some d ∧ k < d.cons.length ∧ findM ds c = ((i : Int), (k : Int), true) := by
  unfold findM
  cases h : ds[dataOf ds c]? with
  | none => exact .inl rfl
  | some d =>
    have hlt := (List.getElem?_eq_some_iff.1 h).1
    obtain ⟨d', hd', hm⟩ := dataOf_at hlt
    rw [h] at hd'
    cases hd'
    have := place_mem.2 hm
    rw [cnames_len] at this
    exact .inr ⟨dataOf ds c, place (cnames d) c, d, h, this, rfl⟩

theorem rlast_eq {l : List Str} {s : Str} {i : Nat} (h : l[i]? = some s) (hj : ∀ j x, i < j → l[j]? = some x → ¬ x = s) : rlast l s = i := by
  have hi := (List.getElem?_eq_some_iff.1 h).1
  have hmem : s ∈ l := List.mem_of_getElem? h
  unfold rlast
  rw [if_pos hmem]
  have hp := place_mem.2 (List.mem_reverse.2 hmem)
  have hx := place_at hp
  rw [List.length_reverse] at hp
  rw [rev_get hp] at hx
  have h1 : ¬ i < l.length - 1 - place l.reverse s := fun hlt => hj _ s hlt hx rfl
  have h2 : ¬ l.length - 1 - i < place l.reverse s := by
    intro hlt
    obtain ⟨x, hx2, hne⟩ := place_lt hlt
    rw [rev_get (by omega), show l.length - 1 - (l.length - 1 - i) = i by omega, h] at hx2
    cases hx2
    exact hne rfl
  omega
theorem rlast_no {l : List Str} {s : Str} (h : s ∉ l) : rlast l s = -1 := if_neg h
theorem rlast_nodup {l : List Str} {s : Str} (hn : l.Nodup) : rlast l s = if s ∈ l then (place l s : Int) else -1 := by
  by_cases h : s ∈ l
  · rw [if_pos h]
    have hx := place_at (place_mem.2 h)
    refine rlast_eq hx fun j x hlt hj e => ?_
    subst e
    have hjl := (List.getElem?_eq_some_iff.1 hj).1
    have := (List.getElem?_inj (place_mem.2 h) hn).1 (hx.trans hj.symm)
    omega
  · rw [if_neg h, rlast_no h]
theorem rlast_mem {l : List Str} {s : Str} (h : s ∈ l) : 0 ≤ rlast l s := by
  unfold rlast
  rw [if_pos h]
  have := place_mem.2 (List.mem_reverse.2 h)
  rw [List.length_reverse] at this
  omega

theorem seenTo_names {l : List EntD} : ∀ i, i ≤ l.length → (names (seenTo l i)).Nodup ∧ ∀ s ∈ names (seenTo l i), s ∉ names (l.drop i)
  | 0, _ => by simp [seenTo, names]
  | i + 1, hi => by
    obtain ⟨h1, h2⟩ := seenTo_names (l := l) i (by omega)
    obtain ⟨e, he⟩ := get_of_lt (l := l) (i := i) (by omega)
    have hd : l.drop i = e :: l.drop (i + 1) := by
      have hlt : i < l.length := by omega
      rw [List.drop_eq_getElem_cons hlt]
      congr 1
      rw [List.getElem?_eq_getElem hlt] at he
      exact Option.some.inj he
    rw [hd] at h2
    simp only [seenTo, he]
    split
    · exact ⟨h1, fun s hs hm => h2 s hs (by simp only [names, List.map_cons, List.mem_cons]; exact .inr hm)⟩
    · rename_i hn
      refine ⟨?_, ?_⟩
      · simp only [names, List.map_append, List.map_cons, List.map_nil]
        rw [List.nodup_append]
        refine ⟨h1, by simp, ?_⟩
        rintro a ha b hb rfl
        simp only [List.mem_singleton] at hb
        exact h2 a ha (by simp [names, hb])
      · intro s hs
        simp only [names, List.map_append, List.map_cons, List.map_nil, List.mem_append, List.mem_singleton] at hs
        rcases hs with hs | rfl
        · exact fun hm => h2 s hs (by simp only [names, List.map_cons, List.mem_cons]; exact .inr hm)
        · exact hn

/-- The names that are seen. -/
def seenN (ctx : List EntD) : List Str := names (seenTo ctx ctx.length)
theorem seenN_nodup (ctx : List EntD) : (seenN ctx).Nodup := (seenTo_names ctx.length (Nat.le_refl _)).1
theorem seenN_len (ctx : List EntD) : (seenN ctx).length ≤ ctx.length := by
  unfold seenN
  rw [names_len]
  exact seenTo_len ctx ctx.length

theorem back41 (l : List Str) : (K A).call 106 [strsV l] [] = some (.sc (.clo 156 [true] [[.ptr 0 0]]), [.box [.c (.sl (strRows l))]]) := by
  refine fn_of (vf := v106) (by kernel_rfl) rfl (by simp) ?_
  unfold v106
  simp (disch := first | omega | (simp; done) | (simp; omega))

end Go.Vs.Tryz

/- The program's rank is the reference's. -/
namespace Go.Vs.Tryz
open Go Go.Vs
variable {A : Oracle}

theorem rlast_none {l : List Str} {s : Str} (h : ∀ j x, 0 ≤ j → l[j]? = some x → ¬ x = s) : s ∉ l := by
  intro hm
  obtain ⟨j, hj, e⟩ := List.getElem_of_mem hm
  exact h j _ (by omega) (by rw [List.getElem?_eq_getElem hj, e]) rfl

set_option maxHeartbeats 2000000 in
theorem rank12 (ds : List DataD) (ctx : List EntD) (bound : List Str) (e : Exp) (hd : ds.length ≤ 1000) (hg : ∀ d ∈ ds, d.cons.length ≤ 6) (hc : ctx.length ≤ 1000) (hb : bound.length ≤ 1073741824) :
    (K A).call 56 [datasV ds, entsV ctx, strsV bound, expV e] [] = some (intV (rankM ds (seenN ctx) bound e), []) := by
  refine fn_of (vf := v56) (by kernel_rfl) rfl (by simp) ?_
  have h40 := taken40 (A := A) ctx (by omega)
  have hsn : names (seenTo ctx ctx.length) = seenN ctx := rfl
  rw [hsn] at h40
  have hsl := seenN_len ctx
  have h41 := back41 (A := A) bound
  have h42 := index42 (A := A) (seenN ctx) e.name (by omega)
  rw [← rlast_nodup (seenN_nodup ctx)] at h42
  have h43 := find43 (A := A) ds e.name (by omega) (fun d hd => by have := hg d hd; omega)
  unfold v56
  by_cases h1 : e.kind = 1
  · simp (disch := first | omega | (simp; done) | (simp; omega)) [h40, h41, h1]
    refine wp_rangeB (by simp; rfl) (by omega) (by simp; rfl) (by simp; omega) (fun i st => (∀ j x, i ≤ j → bound[j]? = some x → ¬ x = e.name) ∧ st = ⟨[(7, .sc (.ptr 64 0)), (8, .sc (.ptr 128 0)), (9, .sc (.ptr 320 0)), (24, .sc (.clo 156 [true] [[.un]]))], [(64, some (.box (wc e.row))), (128, some (.box [zi])), (320, some (.box [.c (.sl (strRows (seenN ctx)))]))]⟩) ?_ ?_ ?_
    · refine ⟨fun j x hj hx => ?_, by simp⟩
      have := (List.getElem?_eq_some_iff.1 hx).1
      simp at hj
      omega
    · rintro i st' row ⟨hn, rfl⟩ hrow
      have hi : i < bound.length := by
        have := (List.getElem?_eq_some_iff.1 hrow).1
        simpa using this
      obtain ⟨x, hx⟩ := get_of_lt (l := bound) (i := i) hi
      simp [hx] at hrow
      subst hrow
      refine ⟨rfl, .sc (.c (.str x)), by simp, ?_⟩
      unfold l56_0
      by_cases hxe : x = e.name
      · have hrl := rlast_eq (hxe ▸ hx) (fun j y hj hy => hn j y hj hy)
        have hmem : e.name ∈ bound := hxe ▸ List.mem_of_getElem? hx
        simp (disch := first | omega | (simp; done) | (simp; omega)) [hxe, rankM, h1, hrl, hmem]
      · simp (disch := first | omega | (simp; done) | (simp; omega)) [hxe]
        intro j y hj hy
        rcases Nat.lt_or_eq_of_le hj with h | rfl
        · exact hn j y h hy
        · rw [hx] at hy
          cases hy
          exact hxe
    · rintro st' ⟨hn, rfl⟩
      have hmem := rlast_none hn
      simp (disch := first | omega | (simp; done) | (simp; omega)) [rankM, h1, h42, hmem]
  · by_cases h2 : e.kind = 2
    · rcases findM_cases ds e.name with hf | ⟨i, k, d, hi, hk, hf⟩
      · rw [hf] at h43
        simp (disch := first | omega | (simp; done) | (simp; omega)) [h40, h2, h43, findV, rankM, hf]
      · rw [hf] at h43
        have hgd := hg d (List.mem_of_getElem? hi)
        have hil := (List.getElem?_eq_some_iff.1 hi).1
        simp (disch := first | omega | (simp; done) | (simp; omega)) [h40, h2, h43, findV]
        refine wp_loop (fun j => ⟨[(2, strsV bound), (8, .sc (.ptr 128 0)), (9, .sc (.ptr 320 0)), (13, intV (k + consTo ds j)), (53, datasV (ds.take i)), (54, intV i), (55, intV j)], [(128, some (.box [zi])), (320, some (.box [.c (.sl (strRows (seenN ctx)))]))]⟩) i ?_ ?_ ?_
        · simp [consTo]
        · intro j hj
          obtain ⟨x, hx⟩ := get_of_lt (l := ds) (i := j) (by omega)
          have hxt : (ds.take i)[j]? = some x := by rw [List.getElem?_take_of_lt hj, hx]
          have hgx := hg x (List.mem_of_getElem? hx)
          have hcs := consTo_succ hx
          have hcl := consTo_le hg j
          unfold l56_1
          simp (disch := first | omega | (simp; done) | (simp; omega)) [hxt, hj, hcs, Int.add_assoc, -getElem?_pos]
        · have hcl := consTo_le hg i
          unfold l56_1
          simp (disch := first | omega | (simp; done) | (simp; omega)) [rankM, h2, hf, Int.add_assoc]
    · simp (disch := first | omega | (simp; done) | (simp; omega)) [h40, h1, h2, rankM]

end Go.Vs.Tryz

/- Types' sizes, assignments, and the small functions of contexts, walked. -/
namespace Go.Vs
open Go
mutual
def Ty.size : Ty → Nat
  | .mk _ _ _ _ a => 1 + Ty.sizes a
def Ty.sizes : List Ty → Nat
  | [] => 0
  | t :: r => t.size + Ty.sizes r
end
theorem Ty.sizes_map : ∀ l : List Ty, Ty.sizes l = (l.map Ty.size).sum
  | [] => by simp [Ty.sizes]
  | t :: r => by simp [Ty.sizes, Ty.sizes_map r]
theorem Ty.size_eq (t : Ty) : t.size = 1 + (t.args.map Ty.size).sum := by
  cases t
  simp [Ty.size, Ty.args, Ty.sizes_map]
theorem Ty.size_pos (t : Ty) : 1 ≤ t.size := by
  rw [Ty.size_eq]
  omega
theorem le_sum_of_mem {l : List Nat} {n : Nat} (h : n ∈ l) : n ≤ l.sum := by
  induction l with
  | nil => cases h
  | cons a r ih =>
    simp only [List.sum_cons]
    rcases List.mem_cons.1 h with rfl | h
    · omega
    · have := ih h
      omega
theorem Ty.arg_lt {t x : Ty} (h : x ∈ t.args) : x.size < t.size := by
  have := le_sum_of_mem (List.mem_map_of_mem (f := Ty.size) h)
  rw [t.size_eq]
  omega
theorem Ty.len_le (l : List Ty) : l.length ≤ (l.map Ty.size).sum := by
  induction l with
  | nil => simp
  | cons a r ih =>
    have := a.size_pos
    simp only [List.length_cons, List.map_cons, List.sum_cons]
    omega
theorem Ty.args_lt (t : Ty) : t.args.length < t.size := by
  have := Ty.len_le t.args
  rw [t.size_eq]
  omega
theorem Ty.size_leaf {k : Int} {n : Str} {i h : Int} : (Ty.mk k n i h []).size = 1 := by simp [Ty.size, Ty.sizes]

structure AssD where
  id : Int
  ty : Ty
def assRow (a : AssD) : List Cell := .int .i64 a.id :: a.ty.row
def assRows (l : List AssD) : List (List Cell) := l.map assRow
@[simp] theorem assRow_len (a : AssD) : (assRow a).length = 6 := by simp [assRow]
@[simp] theorem assRows_len (l : List AssD) : (assRows l).length = l.length := by simp [assRows]
@[simp] theorem assRows_get (l : List AssD) (i : Nat) : (assRows l)[i]? = (l[i]?).map assRow := by simp [assRows]
@[simp] theorem okRows_ass (l : List AssD) : okRows 6 (wr (assRows l)) = true := okRows_of l assRow_len
@[simp] theorem assRows_snoc (l : List AssD) (x : AssD) : wr (assRows l) ++ [wc (assRow x)] = wr (assRows (l ++ [x])) := by simp [assRows, wr]
@[simp] theorem assRows0 : assRows [] = [] := rfl
section
variable (a : AssD)
@[simp] theorem cut_as0 : cut (assRow a) 0 1 = some [.int .i64 a.id] := by rw [assRow, Ty.row_eq]; rfl
@[simp] theorem cut_as1 : cut (assRow a) 1 5 = some a.ty.row := by rw [assRow, Ty.row_eq]; rfl
@[simp] theorem cut_as : cut (assRow a) 0 6 = some (assRow a) := by rw [assRow, Ty.row_eq]; rfl
@[simp] theorem cutw_as0 : cut (wc (assRow a)) 0 1 = some [.c (.int .i64 a.id)] := by rw [assRow, Ty.row_eq]; rfl
@[simp] theorem cutw_as1 : cut (wc (assRow a)) 1 5 = some (wc a.ty.row) := by rw [assRow, Ty.row_eq]; rfl
@[simp] theorem cutw_as : cut (wc (assRow a)) 0 6 = some (wc (assRow a)) := by rw [assRow, Ty.row_eq]; rfl
@[simp] theorem flat_ass : (wc (assRow a)).all flatW = false := by rw [assRow, Ty.row_eq]; simp [wc, flatW]
end
end Go.Vs

namespace Go.Vs.Tryz
open Go Go.Vs
variable {A : Oracle}

abbrev intsV (l : List Int) : V := .sc (.c (.sl (intRows l)))
abbrev tysV (l : List Ty) : V := .sc (.c (.sl (Ty.rows l)))
abbrev asssV (l : List AssD) : V := .sc (.c (.sl (assRows l)))
abbrev schV (c : Int) (t : Ty) : V := .ag (wc (schRow c t))

theorem rigid75 (h i : Int) : (K A).call 101 [intV h, intV i] [] = some (tyV (.mk 3 [] i h []), []) := by
  refine fn_of (vf := v101) (by kernel_rfl) rfl (by simp) ?_
  unfold v101
  simp (disch := first | omega | (simp; done) | (simp; omega)) [Ty.row]
theorem var121 (i : Int) : (K A).call 155 [intV i] [] = some (tyV (.mk 1 [] i 0 []), []) := by
  refine fn_of (vf := v155) (by kernel_rfl) rfl (by simp) ?_
  unfold v155
  simp (disch := first | omega | (simp; done) | (simp; omega)) [Ty.row]
theorem bound119 (i : Int) : (K A).call 153 [intV i] [] = some (tyV (.mk 2 [] i 0 []), []) := by
  refine fn_of (vf := v153) (by kernel_rfl) rfl (by simp) ?_
  unfold v153
  simp (disch := first | omega | (simp; done) | (simp; omega)) [Ty.row]

def IntsB (r : V × List Obj) : Prop := ∃ b, r = (boolV b, [])
theorem has118 (l : List Int) (n : Int) (h : l.length ≤ 1073741824) : ∃ r, IntsB r ∧ (K A).call 152 [intsV l, intV n] [] = some r := by
  refine fn_ofE _ (vf := v152) (by kernel_rfl) rfl (by simp) ?_
  unfold v152
  simp (disch := first | omega | (simp; done) | (simp; omega))
  refine wp_loopI (fun i s => s = ⟨[(0, intsV l), (1, intV n), (5, intV i)], []⟩) l.length (by simp) ?_ ?_
  · rintro i s hi rfl
    obtain ⟨x, hx⟩ := get_of_lt hi
    unfold l152_0
    by_cases hxn : x = n
    · simp (disch := first | omega | (simp; done) | (simp; omega)) [hi, hx, hxn, -getElem?_pos]
      exact ⟨true, rfl⟩
    · simp (disch := first | omega | (simp; done) | (simp; omega)) [hi, hx, hxn, -getElem?_pos]
  · rintro s rfl
    unfold l152_0
    simp (disch := first | omega | (simp; done) | (simp; omega))
    exact ⟨false, rfl⟩

theorem vars77 : (K A).call 103 [intV 2] [] = some (tysV [.mk 1 [] 0 0 [], .mk 1 [] 1 0 []], []) := by
  refine fn_of (vf := v103) (by kernel_rfl) rfl (by simp) ?_
  have h0 := var121 (A := A) 0
  have h1 := var121 (A := A) 1
  unfold v103
  simp (disch := first | omega | (simp; done) | (simp; omega))
  refine wp_loop (fun i => ⟨[(0, intV 2), (3, .sc (.arr 129 i)), (4, intV i)], [(129, some (.arr 5 (wr (Ty.rows ([Ty.mk 1 [] 0 0 [], .mk 1 [] 1 0 []].take i))) 0))]⟩) 2 ?_ ?_ ?_
  · simp
  · intro i hi
    unfold l103_0
    have : i = 0 ∨ i = 1 := by omega
    rcases this with rfl | rfl
    · simp (disch := first | omega | (simp; done) | (simp; omega)) [h0, Ty.rows_map, -getElem?_pos]
    · simp (disch := first | omega | (simp; done) | (simp; omega)) [h1, Ty.rows_map, -getElem?_pos]
  · unfold l103_0
    simp (disch := first | omega | (simp; done) | (simp; omega))

theorem mono28 (t : Ty) : (K A).call 46 [tyV t] [] = some (schV 0 t, []) := by
  refine fn_of (vf := v46) (by kernel_rfl) rfl (by simp) ?_
  unfold v46
  simp (disch := first | omega | (simp; done) | (simp; omega)) [schRow, Ty.row_eq]

theorem push78 (l : List EntD) (s : Str) (c : Int) (t : Ty) (h : l.length ≤ 1073741) : (K A).call 104 [entsV l, strV s, schV c t] [] = some (entsV (l ++ [⟨s, c, t⟩]), []) := by
  refine fn_of (vf := v104) (by kernel_rfl) rfl (by simp) ?_
  unfold v104
  cases l with
  | nil => simp (disch := first | omega | (simp; done) | (simp; omega)) [entRow, schRow, entRows]
  | cons a r =>
    have hn : entRows (a :: r) = entRow a :: entRows r := rfl
    have hok := okRows_ent (a :: r)
    rw [hn, wr_cons] at hok
    simp only [List.length_cons] at h
    have he : (W.c (.str s) :: wc (schRow c t)) = wc (entRow ⟨s, c, t⟩) := rfl
    simp (disch := first | omega | (simp; done) | (simp; omega)) [hn, hok, he]
    rfl

end Go.Vs.Tryz
