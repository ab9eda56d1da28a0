/- Chapters 4 and 11, walked: children. -/
import Derived.Test.YtchkkbbchpnabaaGreatDoorB4c
import Derived.Test.YtchkkbbchpnabaaGreatDoorM6c
set_option linter.unusedSimpArgs false
set_option linter.unusedVariables false
set_option linter.deprecated false

/- Chapters 4 and 11, walked: children. -/
namespace Go.Vs.Tryz
open Go Go.Vs

/-- The functions whose answers are given: the examples, and all data declarations. -/
def skip (f : Nat) : Bool := f == 4 || f == 23
def T2 : FuncId → Option VFun := fun f => bif skip f then none else T f
theorem T2_ok : ∀ f vf, T2 f = some vf → mFun Go.Proofs.Tryz.prog f vf = true := by
  intro f vf h
  unfold T2 at h
  cases hs : skip f with
  | true => rw [hs] at h; cases h
  | false => rw [hs] at h; exact T_ok f vf h

/-- The sizes of the elements of the slices that are copied. -/
def cloneRow (f : Nat) : Nat := bif f == 92 then 2 else 1
theorem cloneRow_pos (f : Nat) : 0 < cloneRow f := by
  unfold cloneRow
  cases f == 92 <;> decide
/-- The copies of slices and strings. -/
noncomputable def X1 : Oracle := fun f args objs => match objs with
  | _ :: _ => lim Tc (fun _ _ _ => none) gl0 f args objs
  | [] => match args with
    | [.sc (.c (.sl []))] => bif f == 177 then some (.sc (.full []), []) else bif isClone f then some (.sc (.arr 0 0), [.arr (cloneRow f) [] 0]) else none
    | _ => lim Tc (fun _ _ _ => none) gl0 f args objs
noncomputable def X2 (A : Oracle) : Oracle := fun f args objs => bif skip f then A f args objs else X1 f args objs

theorem limTc_ok {f : FuncId} {args : List V} {objs : List Obj} {rv : V} {objs' : List Obj} (h : lim Tc (fun _ _ _ => none) gl0 f args objs = some (rv, objs')) : FnOk Go.Proofs.Tryz.prog gl0 f args objs rv objs' := by
  obtain ⟨n, h⟩ := lim_ex h
  exact evalN_ok follows Tc_ok X_none n h

theorem X2_ok {A : Oracle} (hA : ∀ f args objs rv objs', skip f = true → A f args objs = some (rv, objs') → FnOk Go.Proofs.Tryz.prog gl0 f args objs rv objs') :
    ∀ (f : FuncId) (args : List V) (objs : List Obj) (rv : V) (objs' : List Obj), X2 A f args objs = some (rv, objs') → FnOk Go.Proofs.Tryz.prog gl0 f args objs rv objs' := by
  intro f args objs rv objs' h
  unfold X2 at h
  cases hs : skip f with
  | true => rw [hs] at h; exact hA _ _ _ _ _ hs h
  | false =>
    rw [hs] at h
    simp only [cond_false] at h
    unfold X1 at h
    split at h
    · exact limTc_ok h
    · split at h
      · cases h140 : f == 177 with
        | true =>
          rw [h140] at h
          simp only [cond_true, Option.some.injEq, Prod.mk.injEq] at h
          obtain ⟨rfl, rfl⟩ := h
          have : f = 177 := by simpa using h140
          subst this
          exact clone_of rfl
        | false =>
          rw [h140] at h
          simp only [cond_false] at h
          cases hc : isClone f with
          | false => rw [hc] at h; cases h
          | true =>
            rw [hc] at h
            simp only [cond_true, Option.some.injEq, Prod.mk.injEq] at h
            obtain ⟨rfl, rfl⟩ := h
            exact (clone_of hc).owned (cloneRow_pos f)
      · exact limTc_ok h

noncomputable def K (A : Oracle) : Ctx := ⟨lim T2 (X2 A) gl0, gl0⟩
noncomputable def Kc : Ctx := ⟨lim Tc (fun _ _ _ => none) gl0, gl0⟩
@[simp] theorem K_gl {A : Oracle} : (K A).gl = gl0 := rfl
@[simp] theorem Kc_gl : Kc.gl = gl0 := rfl

/-- What the functions say, the program does. -/
theorem K_ok {A : Oracle} (hA : ∀ f args objs rv objs', skip f = true → A f args objs = some (rv, objs') → FnOk Go.Proofs.Tryz.prog gl0 f args objs rv objs')
    {f : FuncId} {args : List V} {objs : List Obj} {rv : V} {objs' : List Obj} (h : (K A).call f args objs = some (rv, objs')) : FnOk Go.Proofs.Tryz.prog gl0 f args objs rv objs' := by
  obtain ⟨n, h⟩ := lim_ex h
  exact evalN_ok follows T2_ok (X2_ok hA) n h

variable {A : Oracle}
/-- A function of the table, from its body. -/
theorem fn_of {f : FuncId} {vf : VFun} {args : List V} {objs : List Obj} {r : V × List Obj} (hT : T2 f = some vf) (hn : args.length = vf.nparams) (ho : objs.length ≤ 64)
    (h : wp (K A) vf.body (doneQ vf.keep objs.length vf.results r) ⟨enumF 0 args, enumF 0 (objs.map some)⟩) : (K A).call f args objs = some r := lim_wp hT hn ho h
theorem clone_fn {f : FuncId} {vf : VFun} {args : List V} {objs : List Obj} {r : V × List Obj} (hT : Tc f = some vf) (hn : args.length = vf.nparams) (ho : objs.length ≤ 64)
    (h : wp Kc vf.body (doneQ vf.keep objs.length vf.results r) ⟨enumF 0 args, enumF 0 (objs.map some)⟩) : Kc.call f args objs = some r := lim_wp hT hn ho h

theorem clone_data {f : FuncId} (hs : skip f = false) (hT : T2 f = none) {c : List Cell} {rows : List (List Cell)} : (K A).call f [.sc (.c (.sl (c :: rows)))] [] = Kc.call f [.sc (.c (.sl (c :: rows)))] [] := by
  have h : X2 A f [.sc (.c (.sl (c :: rows)))] [] = Kc.call f [.sc (.c (.sl (c :: rows)))] [] := by
    unfold X2
    rw [hs]
    rfl
  rw [← h]
  cases hx : X2 A f [.sc (.c (.sl (c :: rows)))] [] with
  | some r => exact lim_X hT hx
  | none =>
    cases hk : (K A).call f [.sc (.c (.sl (c :: rows)))] [] with
    | none => rfl
    | some r =>
      obtain ⟨n, hn⟩ := lim_ex hk
      cases n with
      | zero => cases hn
      | succ n =>
        simp only [evalN, hT] at hn
        rw [hx] at hn
        cases hn
theorem clone_nil : (K A).call 177 [.sc (.c (.sl []))] [] = some (.sc (.full []), []) := by
  refine lim_X (by kernel_rfl) ?_
  simp only [X2, X1, show skip 177 = false from rfl, cond_false, show (177 == 177) = true from rfl, cond_true]
theorem clone_own {f : FuncId} (hs : skip f = false) (hT : T2 f = none) (h140 : (f == 177) = false) (hf : isClone f = true) : (K A).call f [.sc (.c (.sl []))] [] = some (.sc (.arr 0 0), [.arr (cloneRow f) [] 0]) := by
  refine lim_X hT ?_
  simp only [X2, X1, hs, cond_false, h140, hf, cond_true]

theorem children50 (e : Exp) (h : e.kids.length + e.arms.length ≤ 687194767360) : (K A).call 8 [.ag (wc e.row)] [] = some (.sc (.arr 0 e.children.length), [.arr 11 (wr (Exp.rows e.children)) 0]) := by
  refine fn_of (vf := v8) (by kernel_rfl) rfl (by decide) ?_
  unfold v8
  simp (disch := first | omega | (simp; done) | (simp; omega))
  refine wp_loop (fun i => ⟨[(1, .sc (.ptr 64 0)), (3, .sc (.arr 320 (e.kids.length + i))), (4, .sc (.c (.int .i64 i)))],
    [(64, some (.box (wc e.row))), (320, some (.arr 11 (wr (Exp.rows (e.kids ++ (e.arms.map (·.2)).take i))) 0))]⟩) e.arms.length ?_ ?_ ?_
  · simp
  · intro i hi
    obtain ⟨x, hx⟩ := get_of_lt hi
    have hx' : (e.arms.map (·.2))[i]? = some x.2 := by simp [hx]
    unfold l8_0
    simp (disch := first | omega | (simp; done) | (simp; omega)) [hi, hx, take_next hx', Nat.add_assoc, -getElem?_pos]
  · unfold l8_0
    have ht : (e.arms.map (·.2)).take e.arms.length = e.arms.map (·.2) := List.take_of_length_le (by simp)
    simp (disch := first | omega | (simp; done) | (simp; omega)) [Exp.children, ht]

end Go.Vs.Tryz

/- Lists of names, walked: has, Contains, Index, same, Few. -/
namespace Go.Vs.Tryz
open Go Go.Vs

variable {A : Oracle}
abbrev strsV (l : List Str) : V := .sc (.c (.sl (strRows l)))
abbrev strV (s : Str) : V := .sc (.c (.str s))
abbrev intV (n : Int) : V := .sc (.c (.int .i64 n))
abbrev boolV (b : Bool) : V := .sc (.c (.bool b))
abbrev expV (e : Exp) : V := .ag (wc e.row)

@[simp] theorem wc_strRow (s : Str) : wc (strRow s) = [.c (.str s)] := rfl
@[simp] theorem wc_intRow (n : Int) : wc (intRow n) = [.c (.int .i64 n)] := rfl

/-- The first place of a name. -/
def place (l : List Str) (s : Str) : Nat := l.findIdx (· == s)
theorem place_lt {l : List Str} {s : Str} {i : Nat} (h : i < place l s) : ∃ x, l[i]? = some x ∧ ¬ x = s := by
  have hlt : i < l.length := Nat.lt_of_lt_of_le h List.findIdx_le_length
  refine ⟨l[i], List.getElem?_eq_getElem hlt, ?_⟩
  have := List.not_of_lt_findIdx h
  simpa using this
theorem place_at {l : List Str} {s : Str} (h : place l s < l.length) : l[place l s]? = some s := by
  have h1 := List.findIdx_getElem (w := h)
  rw [List.getElem?_eq_getElem h]
  exact congrArg some (beq_iff_eq.1 h1)
theorem place_mem {l : List Str} {s : Str} : place l s < l.length ↔ s ∈ l := by
  unfold place
  rw [List.findIdx_lt_length]
  simp
theorem place_le (l : List Str) (s : Str) : place l s ≤ l.length := List.findIdx_le_length

theorem has64 (l : List Str) (s : Str) (h : l.length ≤ 1649267441664) : (K A).call 95 [strsV l, strV s] [] = some (boolV (decide (s ∈ l)), []) := by
  refine fn_of (vf := v95) (by kernel_rfl) rfl (by decide) ?_
  unfold v95
  have hp := place_le l s
  simp (disch := first | omega | (simp; done) | (simp; omega))
  refine wp_loop (fun i => ⟨[(0, strsV l), (1, strV s), (5, intV i)], []⟩) (place l s) ?_ ?_ ?_
  · simp
  · intro i hi
    obtain ⟨x, hx, hne⟩ := place_lt hi
    have hlt : i < l.length := by omega
    unfold l95_0
    simp (disch := first | omega | (simp; done) | (simp; omega)) [hx, hne, hlt, -getElem?_pos]
  · unfold l95_0
    by_cases hm : place l s < l.length
    · have hx := place_at hm
      simp (disch := first | omega | (simp; done) | (simp; omega)) [hx, hm, place_mem.1 hm, -getElem?_pos]
    · have hn : s ∉ l := fun h => hm (place_mem.2 h)
      simp (disch := first | omega | (simp; done) | (simp; omega)) [hm, hn, -getElem?_pos]

theorem index42 (l : List Str) (s : Str) (h : l.length ≤ 1649267441664) : (K A).call 236 [strsV l, strV s] [] = some (intV (if s ∈ l then (place l s : Int) else -1), []) := by
  refine fn_of (vf := v236) (by kernel_rfl) rfl (by decide) ?_
  unfold v236
  have hp := place_le l s
  simp (disch := first | omega | (simp; done) | (simp; omega))
  refine wp_loop (fun i => ⟨[(0, strsV l), (1, strV s), (7, intV l.length), (8, intV i)], []⟩) (place l s) ?_ ?_ ?_
  · simp
  · intro i hi
    obtain ⟨x, hx, hne⟩ := place_lt hi
    have hlt : i < l.length := by omega
    have hne' : ¬ s = x := fun h => hne h.symm
    unfold l236_0
    simp (disch := first | omega | (simp; done) | (simp; omega)) [hx, hne', hlt, -getElem?_pos]
  · unfold l236_0
    by_cases hm : place l s < l.length
    · have hx := place_at hm
      simp (disch := first | omega | (simp; done) | (simp; omega)) [hx, hm, place_mem.1 hm, -getElem?_pos]
    · have hn : s ∉ l := fun h => hm (place_mem.2 h)
      simp (disch := first | omega | (simp; done) | (simp; omega)) [hm, hn]

theorem contains53 (l : List Str) (s : Str) (h : l.length ≤ 1649267441664) : (K A).call 152 [strsV l, strV s] [] = some (boolV (decide (s ∈ l)), []) := by
  refine fn_of (vf := v152) (by kernel_rfl) rfl (by decide) ?_
  unfold v152
  have := index42 (A := A) l s h
  simp [this]
  by_cases hn : s ∈ l <;> simp [hn]

theorem few8 (l : List Int) : (K A).call 5 [.sc (.c (.sl (l.map intRow)))] [] = some (boolV (decide (l.length ≤ 60)), []) := by
  refine fn_of (vf := v5) (by kernel_rfl) rfl (by decide) ?_
  unfold v5
  simp
  omega

/-- The first place where two lists of names differ. -/
def differ : List Str → List Str → Nat
  | a :: l, b :: m => if a = b then differ l m + 1 else 0
  | _, _ => 0
theorem differ_lt : ∀ {l m : List Str} {i : Nat}, i < differ l m → ∃ x, l[i]? = some x ∧ m[i]? = some x
  | [], _, _, h => by simp [differ] at h
  | _ :: _, [], _, h => by simp [differ] at h
  | a :: l, b :: m, i, h => by
    simp only [differ] at h
    split at h
    · rename_i hab
      subst hab
      cases i with
      | zero => exact ⟨a, rfl, rfl⟩
      | succ i => simpa using differ_lt (l := l) (m := m) (i := i) (by omega)
    · omega
theorem differ_le : ∀ (l m : List Str), differ l m ≤ l.length
  | [], _ => by simp [differ]
  | _ :: _, [] => by simp [differ]
  | a :: l, b :: m => by
    simp only [differ]
    split
    · have := differ_le l m
      simp only [List.length_cons]; omega
    · simp
theorem differ_at : ∀ {l m : List Str}, l.length = m.length → differ l m < l.length → ∃ x y, l[differ l m]? = some x ∧ m[differ l m]? = some y ∧ x ≠ y
  | [], _, _, h => by simp at h
  | _ :: _, [], h, _ => by simp at h
  | a :: l, b :: m, h, h2 => by
    simp only [differ] at h2 ⊢
    split
    · rename_i hab
      rw [if_pos hab] at h2
      simpa using differ_at (l := l) (m := m) (by simpa using h) (by simpa using h2)
    · rename_i hab
      exact ⟨a, b, rfl, rfl, hab⟩
theorem differ_eq : ∀ {l m : List Str}, l.length = m.length → (differ l m = l.length ↔ l = m)
  | [], [], _ => by simp [differ]
  | [], _ :: _, h => by simp at h
  | _ :: _, [], h => by simp at h
  | a :: l, b :: m, h => by
    simp only [differ]
    split
    · rename_i hab
      have := differ_eq (l := l) (m := m) (by simpa using h)
      simp [hab, this]
    · rename_i hab
      simp [hab]

end Go.Vs.Tryz

/- The children of an expression, and the names that it binds in them, walked. -/
namespace Go.Vs.Tryz
open Go Go.Vs
variable {A : Oracle}

theorem rows_cons {l : List Exp} (h : l ≠ []) : ∃ c rows, Exp.rows l = c :: rows := by
  cases l with
  | nil => exact absurd rfl h
  | cons e r => exact ⟨e.row, Exp.rows r, by rw [Exp.rows]⟩

theorem clone88 (l : List Exp) (h : l ≠ []) (hl : l.length ≤ 687194767360) : (K A).call 177 [.sc (.c (.sl (Exp.rows l)))] [] = some (.sc (.arr 0 l.length), [.arr 11 (wr (Exp.rows l)) 0]) := by
  obtain ⟨c, rows, hr⟩ := rows_cons h
  have hlen : rows.length + 1 = l.length := by
    have := Exp.rows_len l
    rw [hr] at this
    simpa using this
  have hok : okRows 11 (wr (c :: rows)) = true := hr ▸ okRows_exp l
  rw [hr, clone_data (by kernel_rfl) (by kernel_rfl)]
  refine clone_fn (vf := v177) (by kernel_rfl) rfl (by decide) ?_
  unfold v177
  rw [wr_cons] at hok
  simp (disch := first | omega | (simp; done) | (simp; omega)) [hok]
  omega

theorem children51_leaf (e : Exp) (h1 : e.kids = []) (h2 : e.arms = []) : (K A).call 89 [expV e] [] = some (.sc (.full []), []) := by
  refine fn_of (vf := v89) (by kernel_rfl) rfl (by decide) ?_
  have hc := clone_nil (A := A)
  have hn : Exp.rows [] = [] := by rw [Exp.rows]
  unfold v89
  simp [h1, hn, hc]
  refine wp_loop (fun i => ⟨[(3, .sc (.full [])), (10, .sc (.c (.sl (Exp.armRows e.arms)))), (11, intV e.arms.length), (12, intV i)], [(64, some (.box (wc e.row)))]⟩) 0 ?_ ?_ ?_
  · simp
  · intro i hi; omega
  · unfold l89_0
    simp [h2]

theorem children51 (e : Exp) (h : e.kids ≠ []) (hl : e.weight ≤ 687194767360) : (K A).call 89 [expV e] [] = some (.sc (.arr 0 e.children.length), [.arr 11 (wr (Exp.rows e.children)) 0]) := by
  refine fn_of (vf := v89) (by kernel_rfl) rfl (by decide) ?_
  have hk := e.children_le
  rw [e.children_len] at hk
  have hc := clone88 (A := A) e.kids h (by omega)
  unfold v89
  simp [hc]
  refine wp_loop (fun i => ⟨[(3, .sc (.arr 352 (e.kids.length + i))), (10, .sc (.c (.sl (Exp.armRows e.arms)))), (11, intV e.arms.length), (12, intV i)], 
    [(64, some (.box (wc e.row))), (352, some (.arr 11 (wr (Exp.rows (e.kids ++ (e.arms.map (·.2)).take i))) 0))]⟩) e.arms.length ?_ ?_ ?_
  · simp
  · intro i hi
    obtain ⟨x, hx⟩ := get_of_lt hi
    have hx' : (e.arms.map (·.2))[i]? = some x.2 := by simp [hx]
    unfold l89_0
    simp (disch := first | omega | (simp; done) | (simp; omega)) [hi, hx, take_next hx', Nat.add_assoc, -getElem?_pos]
    done
  · unfold l89_0
    have ht : (e.arms.map (·.2)).take e.arms.length = e.arms.map (·.2) := List.take_of_length_le (by simp)
    simp (disch := first | omega | (simp; done) | (simp; omega)) [Exp.children, ht]
    done

abbrev pathV (i : Int) : V := .sc (.c (.sl [[.int .i64 i]]))

theorem at89 (e x : Exp) (i : Nat) (h : e.kids ≠ []) (hx : e.children[i]? = some x) (hl : e.weight ≤ 687194767360) : (K A).call 182 [expV e, pathV i] [] = some (.tu [expV x, boolV true], []) := by
  refine fn_of (vf := v182) (by kernel_rfl) rfl (by decide) ?_
  have hk := e.children_le
  have hi : i < e.children.length := (List.getElem?_eq_some_iff.1 hx).1
  have hi' : ¬ (e.kids.length : Int) + e.arms.length ≤ i := by rw [e.children_len] at hi; omega
  have hi2 : ¬ (i : Int) < 0 := by omega
  have hc := children51 (A := A) e h hl
  rw [e.children_len] at hk hi
  unfold v182
  simp
  refine wp_loop (fun j => match j with
    | 0 => ⟨[(2, .sc (.ptr 64 0)), (4, .sc (.ptr 128 0)), (9, pathV i), (10, intV 1), (11, intV 0)], [(64, some (.box (wc e.row))), (128, some (.box [zi, zi, zs, zi, .nil, .nil, zi, zs, zi, zi, .nil]))]⟩
    | _ => ⟨[(2, .sc (.ptr 64 0)), (4, .sc (.ptr 128 0)), (9, pathV i), (10, intV 1), (11, intV 1)], [(64, some (.box (wc x.row))), (128, some (.box [zi, zi, zs, zi, .nil, .nil, zi, zs, zi, zi, .nil]))]⟩) 1 ?_ ?_ ?_
  · simp
  · intro j hj
    obtain rfl : j = 0 := by omega
    unfold l182_0
    simp (disch := first | omega | (simp; done) | (simp; omega)) [hc, hi', hi2, hx, -getElem?_pos, List.getElem?_cons_zero]
    done
  · unfold l182_0
    simp (disch := first | omega | (simp; done) | (simp; omega))
    done

theorem bound135 (e : Exp) (i : Nat) (h : e.wf1) (hi : i < e.children.length) (hl : e.weight ≤ 687194767360) : (K A).call 165 [expV e, intV i] [] = some (strsV (e.bound i), []) := by
  refine fn_of (vf := v165) (by kernel_rfl) rfl (by decide) ?_
  have hk := e.children_le
  have hn : strRows [] = [] := rfl
  have h1 : ∀ s : Str, strRows [s] = [[.str s]] := fun _ => rfl
  rw [e.children_len] at hk hi
  unfold v165
  by_cases h4 : e.kind = 4
  · simp [h4, Exp.bound, h1]
    done
  · by_cases h7 : e.kind = 7
    · simp [h7, Exp.bound, h1]
      done
    · by_cases h6 : e.kind = 6
      · by_cases hi1 : i = 1
        · simp [h6, hi1, Exp.bound, h1]
          done
        · have hi1' : ¬ (i : Int) = 1 := by omega
          simp [h6, hi1, hi1', Exp.bound, hn]
          done
      · by_cases h8 : e.kind = 8
        · have hk1 := h.1 h8
          by_cases hi1 : 0 < i
          · obtain ⟨x, hx⟩ := get_of_lt (l := e.arms) (i := i - 1) (by omega)
            have hi2 : (1 : Int) ≤ i := by omega
            have hw : IntKind.i64.wrap ((i : Int) - 1) = ((i - 1 : Nat) : Int) := by rw [wrap_in _ (by omega)]; omega
            simp (disch := first | omega | (simp; done) | (simp; omega)) [h8, hi1, hi2, hk1, hw, hx, Exp.bound, -getElem?_pos]
            done
          · have hi2 : ¬ (1 : Int) ≤ i := by omega
            simp [h8, hi1, hi2, hk1, Exp.bound, hn]
            done
        · simp [h4, h7, h6, h8, Exp.bound, hn]
          done

theorem index176 (s : Str) : (K A).call 244 [.sc (.c (.sl [])), .sc (.clo 238 [true] [[.ptr 0 0]])] [.box [.c (.str s)]] = some (intV (-1), [.box [.c (.str s)]]) := by
  refine fn_of (vf := v244) (by kernel_rfl) rfl (by simp) ?_
  unfold v244
  simp
  refine wp_loop (fun i => ⟨[(0, .sc (.c (.sl []))), (1, .sc (.clo 238 [true] [[.ptr 0 0]])), (7, intV 0), (8, intV i)], [(0, some (.box [.c (.str s)]))]⟩) 0 ?_ ?_ ?_
  · simp
  · intro i hi; omega
  · unfold l244_0
    simp

theorem delete136 (s : Str) : (K A).call 237 [.sc (.arr 0 0), .sc (.clo 238 [true] [[.ptr 1 0]])] [.arr 1 [] 0, .box [.c (.str s)]] = some (.sc (.arr 0 0), [.arr 1 [] 0, .box [.c (.str s)]]) := by
  refine fn_of (vf := v237) (by kernel_rfl) rfl (by simp) ?_
  have h := index176 (A := A) s
  unfold v237
  simp [h]

theorem bound91 (e : Exp) (i : Nat) (h : e.wf1) (hi : i < e.children.length) (hl : e.weight ≤ 687194767360) : (K A).call 51 [expV e, intV i] [] = some (strsV (e.bound i), []) := by
  refine fn_of (vf := v51) (by kernel_rfl) rfl (by decide) ?_
  have hk := e.children_le
  have hn : strRows [] = [] := rfl
  have h1 : ∀ s : Str, strRows [s] = [[.str s]] := fun _ => rfl
  rw [e.children_len] at hk hi
  unfold v51
  by_cases h4 : e.kind = 4
  · simp [h4, Exp.bound, h1]
    done
  · by_cases h7 : e.kind = 7
    · simp [h7, Exp.bound, h1]
      done
    · by_cases h6 : e.kind = 6
      · by_cases hi1 : i = 1
        · simp [h6, hi1, Exp.bound, h1]
          done
        · have hi1' : ¬ (i : Int) = 1 := by omega
          simp [h6, hi1, hi1', Exp.bound, hn]
          done
      · by_cases h8 : e.kind = 8
        · have hk1 := h.1 h8
          by_cases hi1 : 0 < i
          · obtain ⟨x, hx⟩ := get_of_lt (l := e.arms) (i := i - 1) (by omega)
            have hi2 : (0 : Int) < i := by omega
            have hw : IntKind.i64.wrap ((i : Int) - 1) = ((i - 1 : Nat) : Int) := by rw [wrap_in _ (by omega)]; omega
            simp (disch := first | omega | (simp; done) | (simp; omega)) [h8, hi1, hi2, hk1, hw, hx, Exp.bound]
            done
          · have hi2 : ¬ (0 : Int) < i := by omega
            simp [h8, hi1, hi2, hk1, Exp.bound, hn]
            done
        · simp [h4, h7, h6, h8, Exp.bound, hn]
          done

end Go.Vs.Tryz

/- The visible names, and the free variables, walked. -/
namespace Go.Vs.Tryz
open Go Go.Vs
variable {A : Oracle}

theorem bound_small {e : Exp} {i : Nat} (h : ¬ (e.kind = 8 ∧ 0 < i)) : e.bound i = [] ∨ ∃ s, e.bound i = [s] := by
  unfold Exp.bound
  rw [if_neg h]
  split
  · exact .inr ⟨_, rfl⟩
  · exact .inl rfl

theorem kids_ne {e : Exp} {i : Nat} (h : e.wf1) (hi : i < e.children.length) : e.kids ≠ [] := by
  intro hk
  rw [e.children_len, hk] at hi
  by_cases h8 : e.kind = 8
  · have := h.1 h8
    rw [hk] at this
    simp at this
  · rw [h.2.1 h8] at hi
    simp at hi

theorem visible90 (e x : Exp) (i : Nat) (h : e.wf1) (hb : ¬ (e.kind = 8 ∧ 0 < i)) (hx : e.children[i]? = some x) (hl : e.weight ≤ 687194767360) : (K A).call 151 [expV e, pathV i] [] = some (strsV (e.bound i), []) := by
  refine fn_of (vf := v151) (by kernel_rfl) rfl (by decide) ?_
  have hi : i < e.children.length := (List.getElem?_eq_some_iff.1 hx).1
  have hk := kids_ne h hi
  have h51 := children51 (A := A) e hk hl
  have h89 := at89 (A := A) e x i hk hx hl
  have h135 := bound135 (A := A) e i h hi hl
  have hn : strRows [] = [] := rfl
  rw [e.children_len] at hi
  have hle := e.children_le
  rw [e.children_len] at hle
  unfold v151
  simp (disch := first | omega | (simp; done) | (simp; omega)) [h89]
  refine wp_loop (fun j => match j with
    | 0 => ⟨[(2, .sc (.ptr 64 0)), (7, .sc (.arr 961 0)), (20, pathV i), (21, intV 1), (22, intV 0)], [(64, some (.box (wc e.row))), (961, some (.arr 1 [] 0))]⟩
    | _ => ⟨[(2, .sc (.ptr 64 0)), (7, .sc (.arr 961 (e.bound i).length)), (20, pathV i), (21, intV 1), (22, intV 1)], [(64, some (.box (wc x.row))), (961, some (.arr 1 (wr (strRows (e.bound i))) 0))]⟩) 1 ?_ ?_ ?_
  · simp
  · intro j hj
    obtain rfl : j = 0 := by omega
    unfold l151_1
    simp (disch := first | omega | (simp; done) | (simp; omega)) [h135, -getElem?_pos, List.getElem?_cons_zero]
    rcases bound_small hb with h0 | ⟨s, h0⟩
    · rw [h0]
      refine wp_loop (fun j => ⟨[(2, .sc (.ptr 64 0)), (7, .sc (.arr 961 0)), (20, pathV i), (21, intV 1), (22, intV 0), (9, intV i), (28, strsV []), (29, intV 0), (30, intV j)], [(64, some (.box (wc e.row))), (961, some (.arr 1 [] 0))]⟩) 0 ?_ ?_ ?_
      · simp
      · intro j hj; omega
      · unfold l151_0
        simp (disch := first | omega | (simp; done) | (simp; omega)) [h51, hx, hn, -getElem?_pos]
        done
    · rw [h0]
      have h1 : strRows [s] = [[.str s]] := rfl
      have h136 := delete136 (A := A) s
      refine wp_loop (fun j => match j with
        | 0 => ⟨[(2, .sc (.ptr 64 0)), (7, .sc (.arr 961 0)), (20, pathV i), (21, intV 1), (22, intV 0), (9, intV i), (28, strsV [s]), (29, intV 1), (30, intV 0)], [(64, some (.box (wc e.row))), (961, some (.arr 1 [] 0))]⟩
        | _ => ⟨[(2, .sc (.ptr 64 0)), (7, .sc (.arr 961 1)), (20, pathV i), (21, intV 1), (22, intV 0), (9, intV i), (28, strsV [s]), (29, intV 1), (30, intV 1)], [(64, some (.box (wc e.row))), (961, some (.arr 1 (wr (strRows [s])) 0))]⟩) 1 ?_ ?_ ?_
      · simp
      · intro j hj
        obtain rfl : j = 0 := by omega
        unfold l151_0
        simp (disch := first | omega | (simp; done) | (simp; omega)) [h136, h1, -getElem?_pos, List.getElem?_cons_zero]
        done
      · unfold l151_0
        simp (disch := first | omega | (simp; done) | (simp; omega)) [h51, hx, -getElem?_pos]
        done
  · unfold l151_1
    simp (disch := first | omega | (simp; done) | (simp; omega))
    done

theorem bound52 (e : Exp) (i : Nat) (h : e.wf1) (hi : i < e.children.length) (hl : e.weight ≤ 687194767360) : (K A).call 93 [expV e, intV i] [] = some (strsV (e.bound i), []) := by
  refine fn_of (vf := v93) (by kernel_rfl) rfl (by decide) ?_
  obtain ⟨x, hx⟩ := get_of_lt hi
  have hk := kids_ne h hi
  have h89 := at89 (A := A) e x i hk hx hl
  rw [e.children_len] at hi
  have hle := e.children_le
  rw [e.children_len] at hle
  unfold v93
  by_cases hb : e.kind = 8 ∧ 0 < i
  · have hk1 := h.1 hb.1
    obtain ⟨y, hy⟩ := get_of_lt (l := e.arms) (i := i - 1) (by omega)
    have hi2 : (1 : Int) ≤ i := by omega
    have hw : IntKind.i64.wrap ((i : Int) - 1) = ((i - 1 : Nat) : Int) := by rw [wrap_in _ (by omega)]; omega
    simp (disch := first | omega | (simp; done) | (simp; omega)) [h89, hb, hi2, hk1, hw, hy, Exp.bound, -getElem?_pos]
    done
  · have h90 := visible90 (A := A) e x i h hb hx hl
    by_cases h8 : e.kind = 8
    · have hk1 := h.1 h8
      have hi2 : ¬ (1 : Int) ≤ i := by omega
      simp (disch := first | omega | (simp; done) | (simp; omega)) [h89, h8, hi2, hk1, h90]
      done
    · simp (disch := first | omega | (simp; done) | (simp; omega)) [h89, h8, h90]
      done

end Go.Vs.Tryz

/- The free variables by the program, walked. -/
namespace Go.Vs.Tryz
open Go Go.Vs
variable {A : Oracle}

/-- One more name, if it is new and not hidden. -/
def addNew (hidden out : List Str) (s : Str) : List Str := if s ∈ hidden ∨ s ∈ out then out else out ++ [s]
def addAll (e : Exp) (out : List Str) (p : List Str × Nat) : List Str := p.1.foldl (addNew (e.bound p.2)) out
/-- The free variables, in the program's way. -/
def freeP (e : Exp) : List Str := e.fold fun e l => if e.kind = 1 then [e.name] else l.zipIdx.foldl (addAll e) []
theorem freeP_eq (e : Exp) : freeP e = if e.kind = 1 then [e.name] else (e.children.map freeP).zipIdx.foldl (addAll e) [] := Exp.fold_eq _ e

theorem addNew_len (h out : List Str) (s : Str) : (addNew h out s).length ≤ out.length + 1 := by
  unfold addNew
  split <;> simp
theorem foldNew_len (h : List Str) : ∀ (l out : List Str), (l.foldl (addNew h) out).length ≤ out.length + l.length
  | [], out => by simp
  | s :: l, out => by
    have h1 := addNew_len h out s
    have h2 := foldNew_len h l (addNew h out s)
    simp only [List.foldl_cons, List.length_cons]
    omega
theorem foldAll_len (e : Exp) : ∀ (l : List (List Str × Nat)) (out : List Str), (l.foldl (addAll e) out).length ≤ out.length + (l.map fun p => p.1.length).sum
  | [], out => by simp
  | p :: l, out => by
    have h1 : (addAll e out p).length ≤ out.length + p.1.length := foldNew_len _ _ _
    have h2 := foldAll_len e l (addAll e out p)
    simp only [List.foldl_cons, List.map_cons, List.sum_cons]
    omega
theorem sum_take {l : List Nat} {i : Nat} : (l.take i).sum ≤ l.sum := by
  have : l.sum = (l.take i).sum + (l.drop i).sum := by rw [← List.sum_append, List.take_append_drop]
  omega
theorem zipIdx_fst (l : List (List Str)) : (l.zipIdx.map fun p => p.1.length) = l.map List.length := by
  rw [show (fun p : List Str × Nat => p.1.length) = List.length ∘ Prod.fst from rfl, ← List.map_map, List.zipIdx_map_fst]
theorem sum_le {α : Type} {f g : α → Nat} : ∀ {l : List α}, (∀ x ∈ l, f x ≤ g x) → (l.map f).sum ≤ (l.map g).sum
  | [], _ => by simp
  | a :: l, h => by
    have h1 := h a (by simp)
    have h2 := sum_le (l := l) fun x hx => h x (by simp [hx])
    simp only [List.map_cons, List.sum_cons]
    omega
theorem freeP_len (e : Exp) : (freeP e).length ≤ e.weight := by
  induction e using Exp.ind with
  | h e ih =>
    rw [freeP_eq]
    split
    · exact e.weight_pos
    · have h1 := foldAll_len e (e.children.map freeP).zipIdx []
      rw [zipIdx_fst, List.map_map] at h1
      have h2 : (e.children.map (List.length ∘ freeP)).sum ≤ (e.children.map Exp.weight).sum := sum_le ih
      rw [e.weight_eq]
      simp only [List.length_nil] at h1
      omega
/-- The list ahead of the i-th child. -/
def outP (e : Exp) (i : Nat) : List Str := ((e.children.map freeP).zipIdx.take i).foldl (addAll e) []
theorem outP_len (e : Exp) (i : Nat) : (outP e i).length ≤ e.weight := by
  have h1 := foldAll_len e ((e.children.map freeP).zipIdx.take i) []
  have h2 : (((e.children.map freeP).zipIdx.take i).map fun p => p.1.length).sum ≤ (e.children.map Exp.weight).sum := by
    rw [List.map_take, zipIdx_fst, List.map_map]
    exact Nat.le_trans sum_take (sum_le fun x _ => freeP_len x)
  unfold outP
  rw [e.weight_eq]
  simp only [List.length_nil] at h1
  omega
theorem outP_succ {e x : Exp} {i : Nat} (hx : e.children[i]? = some x) : outP e (i + 1) = (freeP x).foldl (addNew (e.bound i)) (outP e i) := by
  have h : (e.children.map freeP).zipIdx[i]? = some (freeP x, i) := by simp [List.getElem?_zipIdx, hx]
  unfold outP
  rw [take_next h, List.foldl_append]
  rfl
theorem outP_end (e : Exp) : outP e e.children.length = (e.children.map freeP).zipIdx.foldl (addAll e) [] := by
  unfold outP
  rw [List.take_of_length_le (by simp)]

end Go.Vs.Tryz

/- The free variables by the reference, walked. -/
namespace Go.Vs.Tryz
open Go Go.Vs
variable {A : Oracle}

/-- A variable that is free here. -/
def seeVar (e : Exp) (bound out : List Str) : List Str := if e.kind = 1 ∧ e.name ∉ bound ∧ e.name ∉ out then out ++ [e.name] else out
def stepR (e : Exp) (bound : List Str) (out : List Str) (p : (List Str → List Str → List Str) × Nat) : List Str := p.1 (bound ++ e.bound p.2) out
/-- The free variables, in the reference's way. -/
def freeR (e : Exp) : List Str → List Str → List Str := e.fold fun e l bound out => l.zipIdx.foldl (stepR e bound) (seeVar e bound out)
theorem freeR_eq (e : Exp) (bound out : List Str) : freeR e bound out = (e.children.map freeR).zipIdx.foldl (stepR e bound) (seeVar e bound out) := by
  unfold freeR
  rw [Exp.fold_eq]
/-- The list ahead of the i-th child. -/
def outR (e : Exp) (bound out : List Str) (i : Nat) : List Str := ((e.children.map freeR).zipIdx.take i).foldl (stepR e bound) (seeVar e bound out)
theorem outR_succ {e x : Exp} {bound out : List Str} {i : Nat} (hx : e.children[i]? = some x) : outR e bound out (i + 1) = freeR x (bound ++ e.bound i) (outR e bound out i) := by
  have h : (e.children.map freeR).zipIdx[i]? = some (freeR x, i) := by simp [List.getElem?_zipIdx, hx]
  unfold outR
  rw [take_next h, List.foldl_append]
  rfl
theorem outR_end (e : Exp) (bound out : List Str) : outR e bound out e.children.length = freeR e bound out := by
  rw [freeR_eq]
  unfold outR
  rw [List.take_of_length_le (by simp)]
theorem seeVar_len (e : Exp) (bound out : List Str) : (seeVar e bound out).length ≤ out.length + 1 := by
  unfold seeVar
  split <;> simp
theorem sum_take_le {e : Exp} {i : Nat} : ((e.children.take i).map Exp.weight).sum ≤ (e.children.map Exp.weight).sum := by
  rw [List.map_take]
  exact sum_take
theorem freeR_len (e : Exp) : ∀ bound out : List Str, (freeR e bound out).length ≤ out.length + e.weight := by
  induction e using Exp.ind with
  | h e ih =>
    intro bound out
    have key : ∀ i, i ≤ e.children.length → (outR e bound out i).length ≤ out.length + 1 + ((e.children.take i).map Exp.weight).sum := by
      intro i
      induction i with
      | zero =>
        intro _
        have := seeVar_len e bound out
        simpa [outR] using this
      | succ i ihi =>
        intro hi
        obtain ⟨x, hx⟩ := get_of_lt (l := e.children) (i := i) (by omega)
        have h1 := ih x (List.mem_of_getElem? hx) (bound ++ e.bound i) (outR e bound out i)
        have h2 := ihi (by omega)
        rw [outR_succ hx, take_next hx, List.map_append, List.sum_append]
        simp only [List.map_cons, List.map_nil, List.sum_cons, List.sum_nil]
        omega
    have h1 := key _ (Nat.le_refl _)
    rw [outR_end, List.take_length] at h1
    rw [e.weight_eq]
    omega
theorem freeR_ge (e : Exp) : ∀ bound out : List Str, out.length ≤ (freeR e bound out).length := by
  induction e using Exp.ind with
  | h e ih =>
    intro bound out
    have key : ∀ i, i ≤ e.children.length → out.length ≤ (outR e bound out i).length := by
      intro i
      induction i with
      | zero =>
        intro _
        simp only [outR, List.take_zero, List.foldl_nil, seeVar]
        split <;> simp
      | succ i ihi =>
        intro hi
        obtain ⟨x, hx⟩ := get_of_lt (l := e.children) (i := i) (by omega)
        rw [outR_succ hx]
        exact Nat.le_trans (ihi (by omega)) (ih x (List.mem_of_getElem? hx) _ _)
    have := key _ (Nat.le_refl _)
    rwa [outR_end] at this
theorem outR_key {e : Exp} {bound out : List Str} : ∀ i, i ≤ e.children.length → (outR e bound out i).length ≤ out.length + 1 + ((e.children.take i).map Exp.weight).sum := by
  intro i
  induction i with
  | zero =>
    intro _
    have := seeVar_len e bound out
    simpa [outR] using this
  | succ i ihi =>
    intro hi
    obtain ⟨x, hx⟩ := get_of_lt (l := e.children) (i := i) (by omega)
    have h1 := freeR_len x (bound ++ e.bound i) (outR e bound out i)
    have h2 := ihi (by omega)
    rw [outR_succ hx, take_next hx, List.map_append, List.sum_append]
    simp only [List.map_cons, List.map_nil, List.sum_cons, List.sum_nil]
    omega
theorem outR_child {e x : Exp} {bound out : List Str} {i : Nat} (hx : e.children[i]? = some x) : (outR e bound out i).length + x.weight ≤ out.length + e.weight := by
  have hi : i < e.children.length := (List.getElem?_eq_some_iff.1 hx).1
  have h1 := outR_key (e := e) (bound := bound) (out := out) i (by omega)
  have h2 := sum_take_le (e := e) (i := i + 1)
  rw [take_next hx, List.map_append, List.sum_append] at h2
  simp only [List.map_cons, List.map_nil, List.sum_cons, List.sum_nil] at h2
  rw [e.weight_eq]
  omega
theorem bound_child {e x : Exp} {i : Nat} (hx : e.children[i]? = some x) : (e.bound i).length + x.weight ≤ e.weight := by
  have h1 := sum_mem (f := Exp.weight) (List.mem_of_getElem? hx)
  have h2 : (e.bound i).length ≤ 1 + (e.arms.map fun a => a.1.vars.length).sum := by
    unfold Exp.bound
    split
    · simp
    · split
      · cases h : e.arms[i - 1]? with
        | none => simp
        | some a =>
          have := sum_mem (f := fun a : ArmH × Exp => a.1.vars.length) (List.mem_of_getElem? h)
          simp only [Option.map_some, Option.getD_some]
          omega
      · simp
  rw [e.weight_eq]
  omega

theorem free54 (e : Exp) : ∀ (bound out : List Str), e.wf → bound.length + e.weight ≤ 687194767360 → out.length + e.weight ≤ 687194767360 →
    (K A).call 53 [.sc (.arr 0 out.length), strsV bound, expV e] [.arr 1 (wr (strRows out)) 0] = some (.sc (.arr 0 (freeR e bound out).length), [.arr 1 (wr (strRows (freeR e bound out))) 0]) := by
  induction e using Exp.ind with
  | h e ih =>
  intro bound out hw hbl hol
  refine fn_of (vf := v53) (by kernel_rfl) rfl (by simp) ?_
  have hle := e.children_le
  have hc := children50 (A := A) e (by rw [e.children_len] at hle; omega)
  have hb1 := has64 (A := A) bound e.name (by omega)
  have hb2 := has64 (A := A) out e.name (by omega)
  have hsl := seeVar_len e bound out
  have hwp := e.weight_pos
  unfold v53
  refine wp_seqE ⟨[(0, .sc (.arr 0 out.length)), (1, strsV bound), (5, .sc (.ptr 64 0))], [(0, some (.arr 1 (wr (strRows out)) 0)), (64, some (.box (wc e.row)))]⟩ (by simp) ?_
  refine wp_seq2E ⟨[(0, .sc (.arr 0 (seeVar e bound out).length)), (1, strsV bound), (5, .sc (.ptr 64 0)), (7, .sc (.arr 1760 e.children.length))], [(0, some (.arr 1 (wr (strRows (seeVar e bound out))) 0)), (64, some (.box (wc e.row))), (1760, some (.arr 11 (wr (Exp.rows e.children)) 0))]⟩ ?_ ?_
  · by_cases hk : e.kind = 1
    · by_cases h1 : e.name ∈ bound
      · simp (disch := first | omega | (simp; done) | (simp; omega)) [hk, h1, hb1, seeVar, hc]
        done
      · by_cases h2 : e.name ∈ out
        · simp (disch := first | omega | (simp; done) | (simp; omega)) [hk, h1, h2, hb1, hb2, seeVar, hc]
          done
        · simp (disch := first | omega | (simp; done) | (simp; omega)) [hk, h1, h2, hb1, hb2, seeVar, hc]
          done
    · simp (disch := first | omega | (simp; done) | (simp; omega)) [hk, seeVar, hc]
      done
  · simp (disch := first | omega | (simp; done) | (simp; omega))
    refine wp_loop (fun i => ⟨[(0, .sc (.arr 0 (outR e bound out i).length)), (1, strsV bound), (5, .sc (.ptr 64 0)), (7, .sc (.arr 1760 e.children.length)), (8, intV i)], [(0, some (.arr 1 (wr (strRows (outR e bound out i))) 0)), (64, some (.box (wc e.row))), (1760, some (.arr 11 (wr (Exp.rows e.children)) 0))]⟩) e.children.length ?_ ?_ ?_
    · simp [outR]
    · intro i hi
      obtain ⟨x, hx⟩ := get_of_lt hi
      have hmem : x ∈ e.children := List.mem_of_getElem? hx
      have ho := outR_child (bound := bound) (out := out) hx
      have hb := bound_child hx
      have hxp := x.weight_pos
      have h54 := ih x hmem (bound ++ e.bound i) (outR e bound out i) (hw.child hmem) (by simp; omega) (by omega)
      have h91 := bound91 (A := A) e i hw.one hi (by omega)
      rw [e.children_len] at hi hle
      have hi' : (i : Int) < (e.kids.length : Int) + e.arms.length := by omega
      have hlen : (outR e bound out i).length ≤ (freeR x (bound ++ e.bound i) (outR e bound out i)).length := freeR_ge x _ _
      unfold l53_0
      simp (disch := first | omega | (simp; done) | (simp; omega)) [hi', hx, h54, h91, outR_succ hx, hlen, -getElem?_pos]
      done
    · have he := outR_end e bound out
      rw [e.children_len] at he
      unfold l53_0
      simp (disch := first | omega | (simp; done) | (simp; omega)) [he]
      done

theorem free20 (e : Exp) (hw : e.wf) (hl : e.weight ≤ 687194767360) : (K A).call 28 [expV e] [] = some (.sc (.arr 0 (freeR e [] []).length), [.arr 1 (wr (strRows (freeR e [] []))) 0]) := by
  refine fn_of (vf := v28) (by kernel_rfl) rfl (by simp) ?_
  have h := free54 (A := A) e [] [] hw (by simpa using hl) (by simpa using hl)
  have hn : strRows [] = [] := rfl
  simp [strsV, hn] at h
  unfold v28
  simp [h, hn]

end Go.Vs.Tryz
