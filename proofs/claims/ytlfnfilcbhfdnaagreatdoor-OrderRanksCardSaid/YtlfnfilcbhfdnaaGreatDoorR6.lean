/- Chapters 4 and 11, walked: children. (Parts of one proof, put together.) -/
import Derived.Test.YtlfnfilcbhfdnaaGreatDoorR4
import Derived.Test.YtlfnfilcbhfdnaaGreatDoorM4
set_option linter.unusedSimpArgs false
set_option linter.unusedVariables false
set_option linter.deprecated false

/- Chapters 4 and 11, walked: children. -/
namespace Go.Vs.Tryz
open Go Go.Vs

/-- The functions whose answers are given: the examples, and all data declarations. -/
def skip (f : Nat) : Bool := f == 15 || f == 7 || f == 55
def T2 : FuncId → Option VFun := fun f => bif skip f then none else T f
theorem T2_ok : ∀ f vf, T2 f = some vf → mFun Go.Proofs.Tryz.prog f vf = true := by
  intro f vf h
  unfold T2 at h
  cases hs : skip f with
  | true => rw [hs] at h; cases h
  | false => rw [hs] at h; exact T_ok f vf h

/-- The copies of slices and strings. -/
noncomputable def X1 : Oracle := fun f args objs => match objs with
  | _ :: _ => lim Tc (fun _ _ _ => none) gl0 f args objs
  | [] => match args with
    | [.sc (.c (.str l))] => bif f == 202 && Nat.ble l.length 281474976710656 then some (.sc (.c (.str l)), []) else none
    | [.sc (.c (.sl []))] => bif isClone f then some (.sc (.full []), []) else bif isClone2 f then some (.sc (.c (.sl [])), []) else none
    | _ => lim Tc (fun _ _ _ => none) gl0 f args objs
noncomputable def X2 (A : Oracle) : Oracle := fun f args objs => bif skip f then A f args objs else X1 f args objs

theorem limTc_ok {f : FuncId} {args : List V} {objs : List Obj} {rv : V} {objs' : List Obj} (h : lim Tc (fun _ _ _ => none) gl0 f args objs = some (rv, objs')) : FnOk Go.Proofs.Tryz.prog gl0 f args objs rv objs' := by
  obtain ⟨n, h⟩ := lim_ex h
  exact evalN_ok follows Tc_ok X_none n h

theorem X2_ok {A : Oracle} (hA : ∀ f args objs rv objs', skip f = true → A f args objs = some (rv, objs') → FnOk Go.Proofs.Tryz.prog gl0 f args objs rv objs') :
    ∀ (f : FuncId) (args : List V) (objs : List Obj) (rv : V) (objs' : List Obj), X2 A f args objs = some (rv, objs') → FnOk Go.Proofs.Tryz.prog gl0 f args objs rv objs' := by
  intro f args objs rv objs' h
  unfold X2 at h
  cases hs : skip f with
  | true => rw [hs] at h; exact hA _ _ _ _ _ hs h
  | false =>
    rw [hs] at h
    simp only [cond_false] at h
    unfold X1 at h
    split at h
    · exact limTc_ok h
    · split at h
      · rename_i l
        cases hc : (f == 202 && Nat.ble l.length 281474976710656) with
        | false => rw [hc] at h; cases h
        | true =>
          rw [hc] at h
          simp only [cond_true, Option.some.injEq, Prod.mk.injEq] at h
          simp only [Bool.and_eq_true, beq_iff_eq] at hc
          obtain ⟨rfl, rfl⟩ := h
          obtain ⟨rfl, hl⟩ := hc
          exact ok202 (Nat.le_of_ble_eq_true hl)
      · cases hc : isClone f with
        | false =>
          rw [hc] at h
          simp only [cond_false] at h
          cases hc2 : isClone2 f with
          | false => rw [hc2] at h; cases h
          | true =>
            rw [hc2] at h
            simp only [cond_true, Option.some.injEq, Prod.mk.injEq] at h
            obtain ⟨rfl, rfl⟩ := h
            exact clone2_of hc2
        | true =>
          rw [hc] at h
          simp only [cond_true, Option.some.injEq, Prod.mk.injEq] at h
          obtain ⟨rfl, rfl⟩ := h
          exact clone_of hc
      · exact limTc_ok h

noncomputable def K (A : Oracle) : Ctx := ⟨lim T2 (X2 A) gl0, gl0⟩
noncomputable def Kc : Ctx := ⟨lim Tc (fun _ _ _ => none) gl0, gl0⟩
@[simp] theorem K_gl {A : Oracle} : (K A).gl = gl0 := rfl
@[simp] theorem Kc_gl : Kc.gl = gl0 := rfl

/-- What the functions say, the program does. -/
theorem K_ok {A : Oracle} (hA : ∀ f args objs rv objs', skip f = true → A f args objs = some (rv, objs') → FnOk Go.Proofs.Tryz.prog gl0 f args objs rv objs')
    {f : FuncId} {args : List V} {objs : List Obj} {rv : V} {objs' : List Obj} (h : (K A).call f args objs = some (rv, objs')) : FnOk Go.Proofs.Tryz.prog gl0 f args objs rv objs' := by
  obtain ⟨n, h⟩ := lim_ex h
  exact evalN_ok follows T2_ok (X2_ok hA) n h

variable {A : Oracle}
/-- A function of the table, from its body. -/
theorem fn_of {f : FuncId} {vf : VFun} {args : List V} {objs : List Obj} {r : V × List Obj} (hT : T2 f = some vf) (hn : args.length = vf.nparams) (ho : objs.length ≤ 64)
    (h : wp (K A) vf.body (doneQ vf.keep objs.length vf.results r) ⟨enumF 0 args, enumF 0 (objs.map some)⟩) : (K A).call f args objs = some r := lim_wp hT hn ho h
theorem clone_fn {f : FuncId} {vf : VFun} {args : List V} {objs : List Obj} {r : V × List Obj} (hT : Tc f = some vf) (hn : args.length = vf.nparams) (ho : objs.length ≤ 64)
    (h : wp Kc vf.body (doneQ vf.keep objs.length vf.results r) ⟨enumF 0 args, enumF 0 (objs.map some)⟩) : Kc.call f args objs = some r := lim_wp hT hn ho h

theorem clone_data {f : FuncId} (hs : skip f = false) (hT : T2 f = none) {c : List Cell} {rows : List (List Cell)} : (K A).call f [.sc (.c (.sl (c :: rows)))] [] = Kc.call f [.sc (.c (.sl (c :: rows)))] [] := by
  have h : X2 A f [.sc (.c (.sl (c :: rows)))] [] = Kc.call f [.sc (.c (.sl (c :: rows)))] [] := by
    unfold X2
    rw [hs]
    rfl
  rw [← h]
  cases hx : X2 A f [.sc (.c (.sl (c :: rows)))] [] with
  | some r => exact lim_X hT hx
  | none =>
    cases hk : (K A).call f [.sc (.c (.sl (c :: rows)))] [] with
    | none => rfl
    | some r =>
      obtain ⟨n, hn⟩ := lim_ex hk
      cases n with
      | zero => cases hn
      | succ n =>
        simp only [evalN, hT] at hn
        rw [hx] at hn
        cases hn
theorem clone_nil {f : FuncId} (hs : skip f = false) (hT : T2 f = none) (hf : isClone f = true) : (K A).call f [.sc (.c (.sl []))] [] = some (.sc (.full []), []) := by
  refine lim_X hT ?_
  simp only [X2, X1, hs, cond_false, hf, cond_true]

theorem children50 (e : Exp) (h : e.kids.length + e.arms.length ≤ 4294967296) : (K A).call 50 [.ag (wc e.row)] [] = some (.sc (.c (.sl (Exp.rows e.children))), []) := by
  refine fn_of (vf := v50) (by kernel_rfl) rfl (by decide) ?_
  unfold v50
  simp (disch := first | omega | (simp; done) | (simp; omega))
  refine wp_loop (fun i => ⟨[(1, .sc (.ptr 64 0)), (3, .sc (.arr 320 (e.kids.length + i))), (4, .sc (.c (.int .i64 i)))],
    [(64, some (.box (wc e.row))), (320, some (.arr 11 (wr (Exp.rows (e.kids ++ (e.arms.map (·.2)).take i))) 0))]⟩) e.arms.length ?_ ?_ ?_
  · simp
  · intro i hi
    obtain ⟨x, hx⟩ := get_of_lt hi
    have hx' : (e.arms.map (·.2))[i]? = some x.2 := by simp [hx]
    unfold l50_0
    simp (disch := first | omega | (simp; done) | (simp; omega)) [hi, hx, take_next hx', Nat.add_assoc, -getElem?_pos]
  · unfold l50_0
    have ht : (e.arms.map (·.2)).take e.arms.length = e.arms.map (·.2) := List.take_of_length_le (by simp)
    simp (disch := first | omega | (simp; done) | (simp; omega)) [Exp.children, ht]

end Go.Vs.Tryz

/- Lists of names, walked: has, Contains, Index, same, Few. -/
namespace Go.Vs.Tryz
open Go Go.Vs

variable {A : Oracle}
abbrev strsV (l : List Str) : V := .sc (.c (.sl (strRows l)))
abbrev strV (s : Str) : V := .sc (.c (.str s))
abbrev intV (n : Int) : V := .sc (.c (.int .i64 n))
abbrev boolV (b : Bool) : V := .sc (.c (.bool b))
abbrev expV (e : Exp) : V := .ag (wc e.row)

@[simp] theorem wc_strRow (s : Str) : wc (strRow s) = [.c (.str s)] := rfl
@[simp] theorem wc_intRow (n : Int) : wc (intRow n) = [.c (.int .i64 n)] := rfl

/-- The first place of a name. -/
def place (l : List Str) (s : Str) : Nat := l.findIdx (· == s)
theorem place_lt {l : List Str} {s : Str} {i : Nat} (h : i < place l s) : ∃ x, l[i]? = some x ∧ ¬ x = s := by
  have hlt : i < l.length := Nat.lt_of_lt_of_le h List.findIdx_le_length
  refine ⟨l[i], List.getElem?_eq_getElem hlt, ?_⟩
  have := List.not_of_lt_findIdx h
  simpa using this
theorem place_at {l : List Str} {s : Str} (h : place l s < l.length) : l[place l s]? = some s := by
  have h1 := List.findIdx_getElem (w := h)
  rw [List.getElem?_eq_getElem h]
  exact congrArg some (beq_iff_eq.1 h1)
theorem place_mem {l : List Str} {s : Str} : place l s < l.length ↔ s ∈ l := by
  unfold place
  rw [List.findIdx_lt_length]
  simp
theorem place_le (l : List Str) (s : Str) : place l s ≤ l.length := List.findIdx_le_length

theorem has64 (l : List Str) (s : Str) (h : l.length ≤ 4294967296) : (K A).call 64 [strsV l, strV s] [] = some (boolV (decide (s ∈ l)), []) := by
  refine fn_of (vf := v64) (by kernel_rfl) rfl (by decide) ?_
  unfold v64
  have hp := place_le l s
  simp (disch := first | omega | (simp; done) | (simp; omega))
  refine wp_loop (fun i => ⟨[(0, strsV l), (1, strV s), (5, intV i)], []⟩) (place l s) ?_ ?_ ?_
  · simp
  · intro i hi
    obtain ⟨x, hx, hne⟩ := place_lt hi
    have hlt : i < l.length := by omega
    unfold l64_0
    simp (disch := first | omega | (simp; done) | (simp; omega)) [hx, hne, hlt, -getElem?_pos]
  · unfold l64_0
    by_cases hm : place l s < l.length
    · have hx := place_at hm
      simp (disch := first | omega | (simp; done) | (simp; omega)) [hx, hm, place_mem.1 hm, -getElem?_pos]
    · have hn : s ∉ l := fun h => hm (place_mem.2 h)
      simp (disch := first | omega | (simp; done) | (simp; omega)) [hm, hn, -getElem?_pos]

theorem index42 (l : List Str) (s : Str) (h : l.length ≤ 4294967296) : (K A).call 42 [strsV l, strV s] [] = some (intV (if s ∈ l then (place l s : Int) else -1), []) := by
  refine fn_of (vf := v42) (by kernel_rfl) rfl (by decide) ?_
  unfold v42
  have hp := place_le l s
  simp (disch := first | omega | (simp; done) | (simp; omega))
  refine wp_loop (fun i => ⟨[(0, strsV l), (1, strV s), (7, intV l.length), (8, intV i)], []⟩) (place l s) ?_ ?_ ?_
  · simp
  · intro i hi
    obtain ⟨x, hx, hne⟩ := place_lt hi
    have hlt : i < l.length := by omega
    have hne' : ¬ s = x := fun h => hne h.symm
    unfold l42_0
    simp (disch := first | omega | (simp; done) | (simp; omega)) [hx, hne', hlt, -getElem?_pos]
  · unfold l42_0
    by_cases hm : place l s < l.length
    · have hx := place_at hm
      simp (disch := first | omega | (simp; done) | (simp; omega)) [hx, hm, place_mem.1 hm, -getElem?_pos]
    · have hn : s ∉ l := fun h => hm (place_mem.2 h)
      simp (disch := first | omega | (simp; done) | (simp; omega)) [hm, hn, -getElem?_pos]

theorem contains53 (l : List Str) (s : Str) (h : l.length ≤ 4294967296) : (K A).call 53 [strsV l, strV s] [] = some (boolV (decide (s ∈ l)), []) := by
  refine fn_of (vf := v53) (by kernel_rfl) rfl (by decide) ?_
  unfold v53
  have := index42 (A := A) l s h
  simp [this]
  by_cases hn : s ∈ l <;> simp [hn]

theorem few8 (l : List Int) : (K A).call 8 [.sc (.c (.sl (l.map intRow)))] [] = some (boolV (decide (l.length ≤ 60)), []) := by
  refine fn_of (vf := v8) (by kernel_rfl) rfl (by decide) ?_
  unfold v8
  simp
  omega

/-- The first place where two lists of names differ. -/
def differ : List Str → List Str → Nat
  | a :: l, b :: m => if a = b then differ l m + 1 else 0
  | _, _ => 0
theorem differ_lt : ∀ {l m : List Str} {i : Nat}, i < differ l m → ∃ x, l[i]? = some x ∧ m[i]? = some x
  | [], _, _, h => by simp [differ] at h
  | _ :: _, [], _, h => by simp [differ] at h
  | a :: l, b :: m, i, h => by
    simp only [differ] at h
    split at h
    · rename_i hab
      subst hab
      cases i with
      | zero => exact ⟨a, rfl, rfl⟩
      | succ i => simpa using differ_lt (l := l) (m := m) (i := i) (by omega)
    · omega
theorem differ_le : ∀ (l m : List Str), differ l m ≤ l.length
  | [], _ => by simp [differ]
  | _ :: _, [] => by simp [differ]
  | a :: l, b :: m => by
    simp only [differ]
    split
    · have := differ_le l m
      simp only [List.length_cons]; omega
    · simp
theorem differ_at : ∀ {l m : List Str}, l.length = m.length → differ l m < l.length → ∃ x y, l[differ l m]? = some x ∧ m[differ l m]? = some y ∧ x ≠ y
  | [], _, _, h => by simp at h
  | _ :: _, [], h, _ => by simp at h
  | a :: l, b :: m, h, h2 => by
    simp only [differ] at h2 ⊢
    split
    · rename_i hab
      rw [if_pos hab] at h2
      simpa using differ_at (l := l) (m := m) (by simpa using h) (by simpa using h2)
    · rename_i hab
      exact ⟨a, b, rfl, rfl, hab⟩
theorem differ_eq : ∀ {l m : List Str}, l.length = m.length → (differ l m = l.length ↔ l = m)
  | [], [], _ => by simp [differ]
  | [], _ :: _, h => by simp at h
  | _ :: _, [], h => by simp at h
  | a :: l, b :: m, h => by
    simp only [differ]
    split
    · rename_i hab
      have := differ_eq (l := l) (m := m) (by simpa using h)
      simp [hab, this]
    · rename_i hab
      simp [hab]

theorem same18 (l m : List Str) (h : l.length ≤ 4294967296) : (K A).call 18 [strsV l, strsV m] [] = some (boolV (decide (l = m)), []) := by
  refine fn_of (vf := v18) (by kernel_rfl) rfl (by decide) ?_
  unfold v18
  by_cases hl : l.length = m.length
  · have hp := differ_le l m
    simp (disch := first | omega | (simp; done) | (simp; omega)) [hl]
    refine wp_loop (fun i => ⟨[(0, strsV l), (1, strsV m), (5, intV i)], []⟩) (differ l m) ?_ ?_ ?_
    · simp
    · intro i hi
      obtain ⟨x, hx, hy⟩ := differ_lt hi
      have hlt : i < m.length := by omega
      unfold l18_0
      simp (disch := first | omega | (simp; done) | (simp; omega)) [hx, hy, hlt, hl, -getElem?_pos]
    · unfold l18_0
      by_cases hm : differ l m < l.length
      · obtain ⟨x, y, hx, hy, hxy⟩ := differ_at hl hm
        have hne : l ≠ m := fun h => by rw [← differ_eq hl] at h; omega
        have hm' : differ l m < m.length := by omega
        simp (disch := first | omega | (simp; done) | (simp; omega)) [hx, hy, hm', hl, hxy, hne, -getElem?_pos]
      · have he : l = m := (differ_eq hl).1 (by omega)
        subst he
        simp (disch := first | omega | (simp; done) | (simp; omega)) [hm, -getElem?_pos]
  · have hne : l ≠ m := fun h => hl (by rw [h])
    have hl' : ¬ (l.length : Int) = m.length := by omega
    simp (disch := first | omega | (simp; done) | (simp; omega)) [hl', hne, hl]

end Go.Vs.Tryz

/- The children of an expression, and the names that it binds in them, walked. -/
namespace Go.Vs.Tryz
open Go Go.Vs
variable {A : Oracle}

theorem rows_cons {l : List Exp} (h : l ≠ []) : ∃ c rows, Exp.rows l = c :: rows := by
  cases l with
  | nil => exact absurd rfl h
  | cons e r => exact ⟨e.row, Exp.rows r, by rw [Exp.rows]⟩

theorem clone88 (l : List Exp) (h : l ≠ []) (hl : l.length ≤ 4294967296) : (K A).call 88 [.sc (.c (.sl (Exp.rows l)))] [] = some (.sc (.arr 0 l.length), [.arr 11 (wr (Exp.rows l)) 0]) := by
  obtain ⟨c, rows, hr⟩ := rows_cons h
  have hlen : rows.length + 1 = l.length := by
    have := Exp.rows_len l
    rw [hr] at this
    simpa using this
  have hok : okRows 11 (wr (c :: rows)) = true := hr ▸ okRows_exp l
  rw [hr, clone_data (by kernel_rfl) (by kernel_rfl)]
  refine clone_fn (vf := v88) (by kernel_rfl) rfl (by decide) ?_
  unfold v88
  rw [wr_cons] at hok
  simp (disch := first | omega | (simp; done) | (simp; omega)) [hok]
  omega

theorem children51_leaf (e : Exp) (h1 : e.kids = []) (h2 : e.arms = []) : (K A).call 51 [expV e] [] = some (.sc (.full []), []) := by
  refine fn_of (vf := v51) (by kernel_rfl) rfl (by decide) ?_
  have hc := clone_nil (A := A) (f := 88) (by kernel_rfl) (by kernel_rfl) (by kernel_rfl)
  have hn : Exp.rows [] = [] := by rw [Exp.rows]
  unfold v51
  simp [h1, hn, hc]
  refine wp_loop (fun i => ⟨[(3, .sc (.full [])), (10, .sc (.c (.sl (Exp.armRows e.arms)))), (11, intV e.arms.length), (12, intV i)], [(64, some (.box (wc e.row)))]⟩) 0 ?_ ?_ ?_
  · simp
  · intro i hi; omega
  · unfold l51_0
    simp [h2]

theorem children51 (e : Exp) (h : e.kids ≠ []) (hl : e.weight ≤ 1073741824) : (K A).call 51 [expV e] [] = some (.sc (.arr 0 e.children.length), [.arr 11 (wr (Exp.rows e.children)) 0]) := by
  refine fn_of (vf := v51) (by kernel_rfl) rfl (by decide) ?_
  have hk := e.children_le
  rw [e.children_len] at hk
  have hc := clone88 (A := A) e.kids h (by omega)
  unfold v51
  simp [hc]
  refine wp_loop (fun i => ⟨[(3, .sc (.arr 352 (e.kids.length + i))), (10, .sc (.c (.sl (Exp.armRows e.arms)))), (11, intV e.arms.length), (12, intV i)], 
    [(64, some (.box (wc e.row))), (352, some (.arr 11 (wr (Exp.rows (e.kids ++ (e.arms.map (·.2)).take i))) 0))]⟩) e.arms.length ?_ ?_ ?_
  · simp
  · intro i hi
    obtain ⟨x, hx⟩ := get_of_lt hi
    have hx' : (e.arms.map (·.2))[i]? = some x.2 := by simp [hx]
    unfold l51_0
    simp (disch := first | omega | (simp; done) | (simp; omega)) [hi, hx, take_next hx', Nat.add_assoc, -getElem?_pos]
    done
  · unfold l51_0
    have ht : (e.arms.map (·.2)).take e.arms.length = e.arms.map (·.2) := List.take_of_length_le (by simp)
    simp (disch := first | omega | (simp; done) | (simp; omega)) [Exp.children, ht]
    done

abbrev pathV (i : Int) : V := .sc (.c (.sl [[.int .i64 i]]))

theorem at89 (e x : Exp) (i : Nat) (h : e.kids ≠ []) (hx : e.children[i]? = some x) (hl : e.weight ≤ 1073741824) : (K A).call 89 [expV e, pathV i] [] = some (.tu [expV x, boolV true], []) := by
  refine fn_of (vf := v89) (by kernel_rfl) rfl (by decide) ?_
  have hk := e.children_le
  have hi : i < e.children.length := (List.getElem?_eq_some_iff.1 hx).1
  have hi' : ¬ (e.kids.length : Int) + e.arms.length ≤ i := by rw [e.children_len] at hi; omega
  have hi2 : ¬ (i : Int) < 0 := by omega
  have hc := children51 (A := A) e h hl
  rw [e.children_len] at hk hi
  unfold v89
  simp
  refine wp_loop (fun j => match j with
    | 0 => ⟨[(2, .sc (.ptr 64 0)), (4, .sc (.ptr 128 0)), (9, pathV i), (10, intV 1), (11, intV 0)], [(64, some (.box (wc e.row))), (128, some (.box [zi, zi, zs, zi, .nil, .nil, zi, zs, zi, zi, .nil]))]⟩
    | _ => ⟨[(2, .sc (.ptr 64 0)), (4, .sc (.ptr 128 0)), (9, pathV i), (10, intV 1), (11, intV 1)], [(64, some (.box (wc x.row))), (128, some (.box [zi, zi, zs, zi, .nil, .nil, zi, zs, zi, zi, .nil]))]⟩) 1 ?_ ?_ ?_
  · simp
  · intro j hj
    obtain rfl : j = 0 := by omega
    unfold l89_0
    simp (disch := first | omega | (simp; done) | (simp; omega)) [hc, hi', hi2, hx, -getElem?_pos, List.getElem?_cons_zero]
    done
  · unfold l89_0
    simp (disch := first | omega | (simp; done) | (simp; omega))
    done

theorem bound135 (e : Exp) (i : Nat) (h : e.wf1) (hi : i < e.children.length) (hl : e.weight ≤ 1073741824) : (K A).call 135 [expV e, intV i] [] = some (strsV (e.bound i), []) := by
  refine fn_of (vf := v135) (by kernel_rfl) rfl (by decide) ?_
  have hk := e.children_le
  have hn : strRows [] = [] := rfl
  have h1 : ∀ s : Str, strRows [s] = [[.str s]] := fun _ => rfl
  rw [e.children_len] at hk hi
  unfold v135
  by_cases h4 : e.kind = 4
  · simp [h4, Exp.bound, h1]
    done
  · by_cases h7 : e.kind = 7
    · simp [h7, Exp.bound, h1]
      done
    · by_cases h6 : e.kind = 6
      · by_cases hi1 : i = 1
        · simp [h6, hi1, Exp.bound, h1]
          done
        · have hi1' : ¬ (i : Int) = 1 := by omega
          simp [h6, hi1, hi1', Exp.bound, hn]
          done
      · by_cases h8 : e.kind = 8
        · have hk1 := h.1 h8
          by_cases hi1 : 0 < i
          · obtain ⟨x, hx⟩ := get_of_lt (l := e.arms) (i := i - 1) (by omega)
            have hi2 : (1 : Int) ≤ i := by omega
            have hw : IntKind.i64.wrap ((i : Int) - 1) = ((i - 1 : Nat) : Int) := by rw [wrap_in _ (by omega)]; omega
            simp (disch := first | omega | (simp; done) | (simp; omega)) [h8, hi1, hi2, hk1, hw, hx, Exp.bound, -getElem?_pos]
            done
          · have hi2 : ¬ (1 : Int) ≤ i := by omega
            simp [h8, hi1, hi2, hk1, Exp.bound, hn]
            done
        · simp [h4, h7, h6, h8, Exp.bound, hn]
          done

theorem index176 (s : Str) : (K A).call 176 [.sc (.c (.sl [])), .sc (.clo 137 [true] [[.ptr 0 0]])] [.box [.c (.str s)]] = some (intV (-1), [.box [.c (.str s)]]) := by
  refine fn_of (vf := v176) (by kernel_rfl) rfl (by simp) ?_
  unfold v176
  simp
  refine wp_loop (fun i => ⟨[(0, .sc (.c (.sl []))), (1, .sc (.clo 137 [true] [[.ptr 0 0]])), (7, intV 0), (8, intV i)], [(0, some (.box [.c (.str s)]))]⟩) 0 ?_ ?_ ?_
  · simp
  · intro i hi; omega
  · unfold l176_0
    simp

theorem delete136 (s : Str) : (K A).call 136 [.sc (.arr 0 0), .sc (.clo 137 [true] [[.ptr 1 0]])] [.arr 1 [] 0, .box [.c (.str s)]] = some (.sc (.arr 0 0), [.arr 1 [] 0, .box [.c (.str s)]]) := by
  refine fn_of (vf := v136) (by kernel_rfl) rfl (by simp) ?_
  have h := index176 (A := A) s
  unfold v136
  simp [h]

theorem bound91 (e : Exp) (i : Nat) (h : e.wf1) (hi : i < e.children.length) (hl : e.weight ≤ 1073741824) : (K A).call 91 [expV e, intV i] [] = some (strsV (e.bound i), []) := by
  refine fn_of (vf := v91) (by kernel_rfl) rfl (by decide) ?_
  have hk := e.children_le
  have hn : strRows [] = [] := rfl
  have h1 : ∀ s : Str, strRows [s] = [[.str s]] := fun _ => rfl
  rw [e.children_len] at hk hi
  unfold v91
  by_cases h4 : e.kind = 4
  · simp [h4, Exp.bound, h1]
    done
  · by_cases h7 : e.kind = 7
    · simp [h7, Exp.bound, h1]
      done
    · by_cases h6 : e.kind = 6
      · by_cases hi1 : i = 1
        · simp [h6, hi1, Exp.bound, h1]
          done
        · have hi1' : ¬ (i : Int) = 1 := by omega
          simp [h6, hi1, hi1', Exp.bound, hn]
          done
      · by_cases h8 : e.kind = 8
        · have hk1 := h.1 h8
          by_cases hi1 : 0 < i
          · obtain ⟨x, hx⟩ := get_of_lt (l := e.arms) (i := i - 1) (by omega)
            have hi2 : (0 : Int) < i := by omega
            have hw : IntKind.i64.wrap ((i : Int) - 1) = ((i - 1 : Nat) : Int) := by rw [wrap_in _ (by omega)]; omega
            simp (disch := first | omega | (simp; done) | (simp; omega)) [h8, hi1, hi2, hk1, hw, hx, Exp.bound, -getElem?_pos]
            done
          · have hi2 : ¬ (0 : Int) < i := by omega
            simp [h8, hi1, hi2, hk1, Exp.bound, hn]
            done
        · simp [h4, h7, h6, h8, Exp.bound, hn]
          done

end Go.Vs.Tryz

/- The visible names, and the free variables, walked. -/
namespace Go.Vs.Tryz
open Go Go.Vs
variable {A : Oracle}

theorem bound_small {e : Exp} {i : Nat} (h : ¬ (e.kind = 8 ∧ 0 < i)) : e.bound i = [] ∨ ∃ s, e.bound i = [s] := by
  unfold Exp.bound
  rw [if_neg h]
  split
  · exact .inr ⟨_, rfl⟩
  · exact .inl rfl

theorem kids_ne {e : Exp} {i : Nat} (h : e.wf1) (hi : i < e.children.length) : e.kids ≠ [] := by
  intro hk
  rw [e.children_len, hk] at hi
  by_cases h8 : e.kind = 8
  · have := h.1 h8
    rw [hk] at this
    simp at this
  · rw [h.2.1 h8] at hi
    simp at hi

theorem visible90 (e x : Exp) (i : Nat) (h : e.wf1) (hb : ¬ (e.kind = 8 ∧ 0 < i)) (hx : e.children[i]? = some x) (hl : e.weight ≤ 1073741824) : (K A).call 90 [expV e, pathV i] [] = some (strsV (e.bound i), []) := by
  refine fn_of (vf := v90) (by kernel_rfl) rfl (by decide) ?_
  have hi : i < e.children.length := (List.getElem?_eq_some_iff.1 hx).1
  have hk := kids_ne h hi
  have h51 := children51 (A := A) e hk hl
  have h89 := at89 (A := A) e x i hk hx hl
  have h135 := bound135 (A := A) e i h hi hl
  have hn : strRows [] = [] := rfl
  rw [e.children_len] at hi
  have hle := e.children_le
  rw [e.children_len] at hle
  unfold v90
  simp (disch := first | omega | (simp; done) | (simp; omega)) [h89]
  refine wp_loop (fun j => match j with
    | 0 => ⟨[(2, .sc (.ptr 64 0)), (7, .sc (.arr 961 0)), (20, pathV i), (21, intV 1), (22, intV 0)], [(64, some (.box (wc e.row))), (961, some (.arr 1 [] 0))]⟩
    | _ => ⟨[(2, .sc (.ptr 64 0)), (7, .sc (.arr 961 (e.bound i).length)), (20, pathV i), (21, intV 1), (22, intV 1)], [(64, some (.box (wc x.row))), (961, some (.arr 1 (wr (strRows (e.bound i))) 0))]⟩) 1 ?_ ?_ ?_
  · simp
  · intro j hj
    obtain rfl : j = 0 := by omega
    unfold l90_1
    simp (disch := first | omega | (simp; done) | (simp; omega)) [h135, -getElem?_pos, List.getElem?_cons_zero]
    rcases bound_small hb with h0 | ⟨s, h0⟩
    · rw [h0]
      refine wp_loop (fun j => ⟨[(2, .sc (.ptr 64 0)), (7, .sc (.arr 961 0)), (20, pathV i), (21, intV 1), (22, intV 0), (9, intV i), (28, strsV []), (29, intV 0), (30, intV j)], [(64, some (.box (wc e.row))), (961, some (.arr 1 [] 0))]⟩) 0 ?_ ?_ ?_
      · simp
      · intro j hj; omega
      · unfold l90_0
        simp (disch := first | omega | (simp; done) | (simp; omega)) [h51, hx, hn, -getElem?_pos]
        done
    · rw [h0]
      have h1 : strRows [s] = [[.str s]] := rfl
      have h136 := delete136 (A := A) s
      refine wp_loop (fun j => match j with
        | 0 => ⟨[(2, .sc (.ptr 64 0)), (7, .sc (.arr 961 0)), (20, pathV i), (21, intV 1), (22, intV 0), (9, intV i), (28, strsV [s]), (29, intV 1), (30, intV 0)], [(64, some (.box (wc e.row))), (961, some (.arr 1 [] 0))]⟩
        | _ => ⟨[(2, .sc (.ptr 64 0)), (7, .sc (.arr 961 1)), (20, pathV i), (21, intV 1), (22, intV 0), (9, intV i), (28, strsV [s]), (29, intV 1), (30, intV 1)], [(64, some (.box (wc e.row))), (961, some (.arr 1 (wr (strRows [s])) 0))]⟩) 1 ?_ ?_ ?_
      · simp
      · intro j hj
        obtain rfl : j = 0 := by omega
        unfold l90_0
        simp (disch := first | omega | (simp; done) | (simp; omega)) [h136, h1, -getElem?_pos, List.getElem?_cons_zero]
        done
      · unfold l90_0
        simp (disch := first | omega | (simp; done) | (simp; omega)) [h51, hx, -getElem?_pos]
        done
  · unfold l90_1
    simp (disch := first | omega | (simp; done) | (simp; omega))
    done

theorem bound52 (e : Exp) (i : Nat) (h : e.wf1) (hi : i < e.children.length) (hl : e.weight ≤ 1073741824) : (K A).call 52 [expV e, intV i] [] = some (strsV (e.bound i), []) := by
  refine fn_of (vf := v52) (by kernel_rfl) rfl (by decide) ?_
  obtain ⟨x, hx⟩ := get_of_lt hi
  have hk := kids_ne h hi
  have h89 := at89 (A := A) e x i hk hx hl
  rw [e.children_len] at hi
  have hle := e.children_le
  rw [e.children_len] at hle
  unfold v52
  by_cases hb : e.kind = 8 ∧ 0 < i
  · have hk1 := h.1 hb.1
    obtain ⟨y, hy⟩ := get_of_lt (l := e.arms) (i := i - 1) (by omega)
    have hi2 : (1 : Int) ≤ i := by omega
    have hw : IntKind.i64.wrap ((i : Int) - 1) = ((i - 1 : Nat) : Int) := by rw [wrap_in _ (by omega)]; omega
    simp (disch := first | omega | (simp; done) | (simp; omega)) [h89, hb, hi2, hk1, hw, hy, Exp.bound, -getElem?_pos]
    done
  · have h90 := visible90 (A := A) e x i h hb hx hl
    by_cases h8 : e.kind = 8
    · have hk1 := h.1 h8
      have hi2 : ¬ (1 : Int) ≤ i := by omega
      simp (disch := first | omega | (simp; done) | (simp; omega)) [h89, h8, hi2, hk1, h90, -getElem?_pos]
      done
    · simp (disch := first | omega | (simp; done) | (simp; omega)) [h89, h8, h90, -getElem?_pos]
      done

end Go.Vs.Tryz

/- The free variables by the program, walked. -/
namespace Go.Vs.Tryz
open Go Go.Vs
variable {A : Oracle}

/-- One more name, if it is new and not hidden. -/
def addNew (hidden out : List Str) (s : Str) : List Str := if s ∈ hidden ∨ s ∈ out then out else out ++ [s]
def addAll (e : Exp) (out : List Str) (p : List Str × Nat) : List Str := p.1.foldl (addNew (e.bound p.2)) out
/-- The free variables, in the program's way. -/
def freeP (e : Exp) : List Str := e.fold fun e l => if e.kind = 1 then [e.name] else l.zipIdx.foldl (addAll e) []
theorem freeP_eq (e : Exp) : freeP e = if e.kind = 1 then [e.name] else (e.children.map freeP).zipIdx.foldl (addAll e) [] := Exp.fold_eq _ e

theorem addNew_len (h out : List Str) (s : Str) : (addNew h out s).length ≤ out.length + 1 := by
  unfold addNew
  split <;> simp
theorem foldNew_len (h : List Str) : ∀ (l out : List Str), (l.foldl (addNew h) out).length ≤ out.length + l.length
  | [], out => by simp
  | s :: l, out => by
    have h1 := addNew_len h out s
    have h2 := foldNew_len h l (addNew h out s)
    simp only [List.foldl_cons, List.length_cons]
    omega
theorem foldAll_len (e : Exp) : ∀ (l : List (List Str × Nat)) (out : List Str), (l.foldl (addAll e) out).length ≤ out.length + (l.map fun p => p.1.length).sum
  | [], out => by simp
  | p :: l, out => by
    have h1 : (addAll e out p).length ≤ out.length + p.1.length := foldNew_len _ _ _
    have h2 := foldAll_len e l (addAll e out p)
    simp only [List.foldl_cons, List.map_cons, List.sum_cons]
    omega
theorem sum_take {l : List Nat} {i : Nat} : (l.take i).sum ≤ l.sum := by
  have : l.sum = (l.take i).sum + (l.drop i).sum := by rw [← List.sum_append, List.take_append_drop]
  omega
theorem zipIdx_fst (l : List (List Str)) : (l.zipIdx.map fun p => p.1.length) = l.map List.length := by
  rw [show (fun p : List Str × Nat => p.1.length) = List.length ∘ Prod.fst from rfl, ← List.map_map, List.zipIdx_map_fst]
theorem sum_le {α : Type} {f g : α → Nat} : ∀ {l : List α}, (∀ x ∈ l, f x ≤ g x) → (l.map f).sum ≤ (l.map g).sum
  | [], _ => by simp
  | a :: l, h => by
    have h1 := h a (by simp)
    have h2 := sum_le (l := l) fun x hx => h x (by simp [hx])
    simp only [List.map_cons, List.sum_cons]
    omega
theorem freeP_len (e : Exp) : (freeP e).length ≤ e.weight := by
  induction e using Exp.ind with
  | h e ih =>
    rw [freeP_eq]
    split
    · exact e.weight_pos
    · have h1 := foldAll_len e (e.children.map freeP).zipIdx []
      rw [zipIdx_fst, List.map_map] at h1
      have h2 : (e.children.map (List.length ∘ freeP)).sum ≤ (e.children.map Exp.weight).sum := sum_le ih
      rw [e.weight_eq]
      simp only [List.length_nil] at h1
      omega
/-- The list ahead of the i-th child. -/
def outP (e : Exp) (i : Nat) : List Str := ((e.children.map freeP).zipIdx.take i).foldl (addAll e) []
theorem outP_len (e : Exp) (i : Nat) : (outP e i).length ≤ e.weight := by
  have h1 := foldAll_len e ((e.children.map freeP).zipIdx.take i) []
  have h2 : (((e.children.map freeP).zipIdx.take i).map fun p => p.1.length).sum ≤ (e.children.map Exp.weight).sum := by
    rw [List.map_take, zipIdx_fst, List.map_map]
    exact Nat.le_trans sum_take (sum_le fun x _ => freeP_len x)
  unfold outP
  rw [e.weight_eq]
  simp only [List.length_nil] at h1
  omega
theorem outP_succ {e x : Exp} {i : Nat} (hx : e.children[i]? = some x) : outP e (i + 1) = (freeP x).foldl (addNew (e.bound i)) (outP e i) := by
  have h : (e.children.map freeP).zipIdx[i]? = some (freeP x, i) := by simp [List.getElem?_zipIdx, hx]
  unfold outP
  rw [take_next h, List.foldl_append]
  rfl
theorem outP_end (e : Exp) : outP e e.children.length = (e.children.map freeP).zipIdx.foldl (addAll e) [] := by
  unfold outP
  rw [List.take_of_length_le (by simp)]

theorem free19 (e : Exp) (hw : e.wf) (hl : e.weight ≤ 1073741824) : (K A).call 19 [expV e] [] = some (strsV (freeP e), []) := by
  induction e using Exp.ind with
  | h e ih =>
  refine fn_of (vf := v19) (by kernel_rfl) rfl (by decide) ?_
  have hle := e.children_le
  rw [e.children_len] at hle
  have h1 : ∀ s : Str, strRows [s] = [[.str s]] := fun _ => rfl
  have hn : strRows [] = [] := rfl
  by_cases hk : e.kind = 1
  · unfold v19
    simp [hk, freeP_eq, h1]
    done
  · by_cases hkids : e.kids = []
    · have harms : e.arms = [] := by
        by_cases h8 : e.kind = 8
        · have := hw.one.1 h8
          rw [hkids] at this
          simp at this
        · exact hw.one.2.1 h8
      have hc := children51_leaf (A := A) e hkids harms
      have hch : e.children = [] := by simp [Exp.children, hkids, harms]
      unfold v19
      simp (disch := first | omega | (simp; done) | (simp; omega)) [hk, hc]
      refine wp_loop (fun i => ⟨[(1, .sc (.ptr 64 0)), (3, .sc (.arr 641 0)), (16, .sc (.full [])), (17, intV 0), (18, intV i)], [(64, some (.box (wc e.row))), (641, some (.arr 1 [] 0))]⟩) 0 ?_ ?_ ?_
      · simp
      · intro i hi; omega
      · unfold l19_1
        simp [freeP_eq, hk, hch, hn]
        done
    · have hc := children51 (A := A) e hkids hl
      unfold v19
      simp (disch := first | omega | (simp; done) | (simp; omega)) [hk, hc]
      refine wp_loop (fun i => ⟨[(1, .sc (.ptr 64 0)), (3, .sc (.arr 641 (outP e i).length)), (16, .sc (.arr 800 e.children.length)), (17, intV e.children.length), (18, intV i)], [(64, some (.box (wc e.row))), (641, some (.arr 1 (wr (strRows (outP e i))) 0)), (800, some (.arr 11 (wr (Exp.rows e.children)) 0))]⟩) e.children.length ?_ ?_ ?_
      · simp [outP, hn]
      · intro i hi
        obtain ⟨x, hx⟩ := get_of_lt hi
        have hmem : x ∈ e.children := List.mem_of_getElem? hx
        have h19 := ih x hmem (hw.child hmem) (by have := Exp.child_lt hmem; omega)
        have h52 := bound52 (A := A) e i hw.one hi hl
        have hfl := freeP_len x
        have hol := outP_len e i
        have hbl := e.bound_le i
        have hxl := Exp.child_lt hmem
        rw [e.children_len] at hi
        have hi' : (i : Int) < (e.kids.length : Int) + e.arms.length := by omega
        unfold l19_1
        simp (disch := first | omega | (simp; done) | (simp; omega)) [hi', hx, h52, h19, -getElem?_pos]
        refine wp_loop (fun j => ⟨[(1, .sc (.ptr 64 0)), (3, .sc (.arr 641 (((freeP x).take j).foldl (addNew (e.bound i)) (outP e i)).length)), (16, .sc (.arr 800 e.children.length)), (17, intV e.children.length), (18, intV i), (6, strsV (e.bound i)), (27, strsV (freeP x)), (28, intV (freeP x).length), (29, intV j)], 
          [(64, some (.box (wc e.row))), (641, some (.arr 1 (wr (strRows (((freeP x).take j).foldl (addNew (e.bound i)) (outP e i)))) 0)), (800, some (.arr 11 (wr (Exp.rows e.children)) 0)), (1216, some (.box (wc x.row)))]⟩) (freeP x).length ?_ ?_ ?_
        · simp
        · intro j hj
          obtain ⟨s, hs⟩ := get_of_lt hj
          rw [take_next hs, List.foldl_append, List.foldl_cons, List.foldl_nil]
          have hjl := foldNew_len (e.bound i) ((freeP x).take j) (outP e i)
          have hjl2 : ((freeP x).take j).length ≤ (freeP x).length := by simp; omega
          generalize ((freeP x).take j).foldl (addNew (e.bound i)) (outP e i) = out at hjl ⊢
          have hc1 := contains53 (A := A) (e.bound i) s (by omega)
          have hc2 := contains53 (A := A) out s (by omega)
          unfold l19_0
          by_cases hb : s ∈ e.bound i
          · simp (disch := first | omega | (simp; done) | (simp; omega)) [hj, hs, hc1, hb, addNew, -getElem?_pos]
            done
          · by_cases ho : s ∈ out
            · simp (disch := first | omega | (simp; done) | (simp; omega)) [hj, hs, hc1, hc2, hb, ho, addNew, -getElem?_pos]
              done
            · simp (disch := first | omega | (simp; done) | (simp; omega)) [hj, hs, hc1, hc2, hb, ho, addNew, -getElem?_pos]
              done
        · unfold l19_0
          simp (disch := first | omega | (simp; done) | (simp; omega)) [outP_succ hx, -getElem?_pos]
          done
      · unfold l19_1
        have he := outP_end e
        rw [e.children_len] at he
        simp (disch := first | omega | (simp; done) | (simp; omega)) [freeP_eq, hk, he]
        done

end Go.Vs.Tryz

/- The free variables by the reference, walked. -/
namespace Go.Vs.Tryz
open Go Go.Vs
variable {A : Oracle}

/-- A variable that is free here. -/
def seeVar (e : Exp) (bound out : List Str) : List Str := if e.kind = 1 ∧ e.name ∉ bound ∧ e.name ∉ out then out ++ [e.name] else out
def stepR (e : Exp) (bound : List Str) (out : List Str) (p : (List Str → List Str → List Str) × Nat) : List Str := p.1 (bound ++ e.bound p.2) out
/-- The free variables, in the reference's way. -/
def freeR (e : Exp) : List Str → List Str → List Str := e.fold fun e l bound out => l.zipIdx.foldl (stepR e bound) (seeVar e bound out)
theorem freeR_eq (e : Exp) (bound out : List Str) : freeR e bound out = (e.children.map freeR).zipIdx.foldl (stepR e bound) (seeVar e bound out) := by
  unfold freeR
  rw [Exp.fold_eq]
/-- The list ahead of the i-th child. -/
def outR (e : Exp) (bound out : List Str) (i : Nat) : List Str := ((e.children.map freeR).zipIdx.take i).foldl (stepR e bound) (seeVar e bound out)
theorem outR_succ {e x : Exp} {bound out : List Str} {i : Nat} (hx : e.children[i]? = some x) : outR e bound out (i + 1) = freeR x (bound ++ e.bound i) (outR e bound out i) := by
  have h : (e.children.map freeR).zipIdx[i]? = some (freeR x, i) := by simp [List.getElem?_zipIdx, hx]
  unfold outR
  rw [take_next h, List.foldl_append]
  rfl
theorem outR_end (e : Exp) (bound out : List Str) : outR e bound out e.children.length = freeR e bound out := by
  rw [freeR_eq]
  unfold outR
  rw [List.take_of_length_le (by simp)]
theorem seeVar_len (e : Exp) (bound out : List Str) : (seeVar e bound out).length ≤ out.length + 1 := by
  unfold seeVar
  split <;> simp
theorem sum_take_le {e : Exp} {i : Nat} : ((e.children.take i).map Exp.weight).sum ≤ (e.children.map Exp.weight).sum := by
  rw [List.map_take]
  exact sum_take
theorem freeR_len (e : Exp) : ∀ bound out : List Str, (freeR e bound out).length ≤ out.length + e.weight := by
  induction e using Exp.ind with
  | h e ih =>
    intro bound out
    have key : ∀ i, i ≤ e.children.length → (outR e bound out i).length ≤ out.length + 1 + ((e.children.take i).map Exp.weight).sum := by
      intro i
      induction i with
      | zero =>
        intro _
        have := seeVar_len e bound out
        simpa [outR] using this
      | succ i ihi =>
        intro hi
        obtain ⟨x, hx⟩ := get_of_lt (l := e.children) (i := i) (by omega)
        have h1 := ih x (List.mem_of_getElem? hx) (bound ++ e.bound i) (outR e bound out i)
        have h2 := ihi (by omega)
        rw [outR_succ hx, take_next hx, List.map_append, List.sum_append]
        simp only [List.map_cons, List.map_nil, List.sum_cons, List.sum_nil]
        omega
    have h1 := key _ (Nat.le_refl _)
    rw [outR_end, List.take_length] at h1
    rw [e.weight_eq]
    omega
theorem freeR_ge (e : Exp) : ∀ bound out : List Str, out.length ≤ (freeR e bound out).length := by
  induction e using Exp.ind with
  | h e ih =>
    intro bound out
    have key : ∀ i, i ≤ e.children.length → out.length ≤ (outR e bound out i).length := by
      intro i
      induction i with
      | zero =>
        intro _
        simp only [outR, List.take_zero, List.foldl_nil, seeVar]
        split <;> simp
      | succ i ihi =>
        intro hi
        obtain ⟨x, hx⟩ := get_of_lt (l := e.children) (i := i) (by omega)
        rw [outR_succ hx]
        exact Nat.le_trans (ihi (by omega)) (ih x (List.mem_of_getElem? hx) _ _)
    have := key _ (Nat.le_refl _)
    rwa [outR_end] at this
theorem outR_key {e : Exp} {bound out : List Str} : ∀ i, i ≤ e.children.length → (outR e bound out i).length ≤ out.length + 1 + ((e.children.take i).map Exp.weight).sum := by
  intro i
  induction i with
  | zero =>
    intro _
    have := seeVar_len e bound out
    simpa [outR] using this
  | succ i ihi =>
    intro hi
    obtain ⟨x, hx⟩ := get_of_lt (l := e.children) (i := i) (by omega)
    have h1 := freeR_len x (bound ++ e.bound i) (outR e bound out i)
    have h2 := ihi (by omega)
    rw [outR_succ hx, take_next hx, List.map_append, List.sum_append]
    simp only [List.map_cons, List.map_nil, List.sum_cons, List.sum_nil]
    omega
theorem outR_child {e x : Exp} {bound out : List Str} {i : Nat} (hx : e.children[i]? = some x) : (outR e bound out i).length + x.weight ≤ out.length + e.weight := by
  have hi : i < e.children.length := (List.getElem?_eq_some_iff.1 hx).1
  have h1 := outR_key (e := e) (bound := bound) (out := out) i (by omega)
  have h2 := sum_take_le (e := e) (i := i + 1)
  rw [take_next hx, List.map_append, List.sum_append] at h2
  simp only [List.map_cons, List.map_nil, List.sum_cons, List.sum_nil] at h2
  rw [e.weight_eq]
  omega
theorem bound_child {e x : Exp} {i : Nat} (hx : e.children[i]? = some x) : (e.bound i).length + x.weight ≤ e.weight := by
  have h1 := sum_mem (f := Exp.weight) (List.mem_of_getElem? hx)
  have h2 : (e.bound i).length ≤ 1 + (e.arms.map fun a => a.1.vars.length).sum := by
    unfold Exp.bound
    split
    · simp
    · split
      · cases h : e.arms[i - 1]? with
        | none => simp
        | some a =>
          have := sum_mem (f := fun a : ArmH × Exp => a.1.vars.length) (List.mem_of_getElem? h)
          simp only [Option.map_some, Option.getD_some]
          omega
      · simp
  rw [e.weight_eq]
  omega

theorem free54 (e : Exp) : ∀ (bound out : List Str), e.wf → bound.length + e.weight ≤ 1073741824 → out.length + e.weight ≤ 1073741824 →
    (K A).call 54 [.sc (.arr 0 out.length), strsV bound, expV e] [.arr 1 (wr (strRows out)) 0] = some (.sc (.arr 0 (freeR e bound out).length), [.arr 1 (wr (strRows (freeR e bound out))) 0]) := by
  induction e using Exp.ind with
  | h e ih =>
  intro bound out hw hbl hol
  refine fn_of (vf := v54) (by kernel_rfl) rfl (by simp) ?_
  have hle := e.children_le
  have hc := children50 (A := A) e (by rw [e.children_len] at hle; omega)
  have hb1 := has64 (A := A) bound e.name (by omega)
  have hb2 := has64 (A := A) out e.name (by omega)
  have hsl := seeVar_len e bound out
  have hwp := e.weight_pos
  unfold v54
  refine wp_seqE ⟨[(0, .sc (.arr 0 out.length)), (1, strsV bound), (5, .sc (.ptr 64 0))], [(0, some (.arr 1 (wr (strRows out)) 0)), (64, some (.box (wc e.row)))]⟩ (by simp) ?_
  refine wp_seq2E ⟨[(0, .sc (.arr 0 (seeVar e bound out).length)), (1, strsV bound), (5, .sc (.ptr 64 0)), (7, .sc (.c (.sl (Exp.rows e.children))))], [(0, some (.arr 1 (wr (strRows (seeVar e bound out))) 0)), (64, some (.box (wc e.row)))]⟩ ?_ ?_
  · by_cases hk : e.kind = 1
    · by_cases h1 : e.name ∈ bound
      · simp (disch := first | omega | (simp; done) | (simp; omega)) [hk, h1, hb1, seeVar, hc]
        done
      · by_cases h2 : e.name ∈ out
        · simp (disch := first | omega | (simp; done) | (simp; omega)) [hk, h1, h2, hb1, hb2, seeVar, hc]
          done
        · simp (disch := first | omega | (simp; done) | (simp; omega)) [hk, h1, h2, hb1, hb2, seeVar, hc]
          done
    · simp (disch := first | omega | (simp; done) | (simp; omega)) [hk, seeVar, hc]
      done
  · simp (disch := first | omega | (simp; done) | (simp; omega))
    refine wp_loop (fun i => ⟨[(0, .sc (.arr 0 (outR e bound out i).length)), (1, strsV bound), (5, .sc (.ptr 64 0)), (7, .sc (.c (.sl (Exp.rows e.children)))), (8, intV i)], [(0, some (.arr 1 (wr (strRows (outR e bound out i))) 0)), (64, some (.box (wc e.row)))]⟩) e.children.length ?_ ?_ ?_
    · simp [outR]
    · intro i hi
      obtain ⟨x, hx⟩ := get_of_lt hi
      have hmem : x ∈ e.children := List.mem_of_getElem? hx
      have ho := outR_child (bound := bound) (out := out) hx
      have hb := bound_child hx
      have hxp := x.weight_pos
      have h54 := ih x hmem (bound ++ e.bound i) (outR e bound out i) (hw.child hmem) (by simp; omega) (by omega)
      have h91 := bound91 (A := A) e i hw.one hi (by omega)
      rw [e.children_len] at hi hle
      have hi' : (i : Int) < (e.kids.length : Int) + e.arms.length := by omega
      have hlen : (outR e bound out i).length ≤ (freeR x (bound ++ e.bound i) (outR e bound out i)).length := freeR_ge x _ _
      unfold l54_0
      simp (disch := first | omega | (simp; done) | (simp; omega)) [hi', hx, h54, h91, outR_succ hx, hlen, -getElem?_pos]
      done
    · have he := outR_end e bound out
      rw [e.children_len] at he
      unfold l54_0
      simp (disch := first | omega | (simp; done) | (simp; omega)) [he]
      done

theorem free20 (e : Exp) (hw : e.wf) (hl : e.weight ≤ 1073741824) : (K A).call 20 [expV e] [] = some (strsV (freeR e [] []), []) := by
  refine fn_of (vf := v20) (by kernel_rfl) rfl (by simp) ?_
  have h := free54 (A := A) e [] [] hw (by simpa using hl) (by simpa using hl)
  have hn : strRows [] = [] := rfl
  simp [strsV, hn] at h
  unfold v20
  simp [h, hn]

end Go.Vs.Tryz

/- The plain law of the free variables: the program's list is the reference's. -/
namespace Go.Vs.Tryz
open Go Go.Vs

theorem mem_addNew {b out : List Str} {s t : Str} : t ∈ addNew b out s ↔ t ∈ out ∨ (t = s ∧ s ∉ b) := by
  unfold addNew
  split
  · rename_i h
    constructor
    · exact .inl
    · rintro (h1 | ⟨rfl, h1⟩)
      · exact h1
      · exact h.resolve_left h1
  · rename_i h
    have : s ∉ b := fun h1 => h (.inl h1)
    simp [this]
theorem mem_foldNew {b : List Str} : ∀ {l out : List Str} {t : Str}, t ∈ l.foldl (addNew b) out ↔ t ∈ out ∨ (t ∈ l ∧ t ∉ b)
  | [], out, t => by simp
  | s :: l, out, t => by
    rw [List.foldl_cons, mem_foldNew, mem_addNew, List.mem_cons]
    constructor
    · rintro ((h | ⟨rfl, h⟩) | ⟨h1, h2⟩)
      · exact .inl h
      · exact .inr ⟨.inl rfl, h⟩
      · exact .inr ⟨.inr h1, h2⟩
    · rintro (h | ⟨rfl | h1, h2⟩)
      · exact .inl (.inl h)
      · exact .inl (.inr ⟨rfl, h2⟩)
      · exact .inr ⟨h1, h2⟩
theorem addNew_pos {b out : List Str} {s : Str} (h : s ∈ b ∨ s ∈ out) : addNew b out s = out := if_pos h
theorem addNew_neg {b out : List Str} {s : Str} (h : ¬ (s ∈ b ∨ s ∈ out)) : addNew b out s = out ++ [s] := if_neg h
theorem fold_fold {bound b : List Str} : ∀ (l acc out : List Str), (l.foldl (addNew b) acc).foldl (addNew bound) out = l.foldl (addNew (bound ++ b)) (acc.foldl (addNew bound) out)
  | [], acc, out => rfl
  | s :: l, acc, out => by
    rw [List.foldl_cons, List.foldl_cons, fold_fold l]
    congr 1
    by_cases hb : s ∈ b
    · rw [addNew_pos (.inl hb), addNew_pos (.inl (by simp [hb]))]
    · by_cases ha : s ∈ acc
      · rw [addNew_pos (.inr ha)]
        by_cases h : s ∈ bound
        · rw [addNew_pos (.inl (by simp [h]))]
        · rw [addNew_pos (.inr (mem_foldNew.2 (.inr ⟨ha, h⟩)))]
      · rw [addNew_neg (b := b) (fun h => h.elim hb ha), List.foldl_append, List.foldl_cons, List.foldl_nil]
        by_cases h : s ∈ bound ∨ s ∈ acc.foldl (addNew bound) out
        · rw [addNew_pos h, addNew_pos (h.imp (fun h => by simp [h]) id)]
        · rw [addNew_neg h, addNew_neg]
          rintro (h3 | h3)
          · exact (List.mem_append.1 h3).elim (fun h4 => h (.inl h4)) hb
          · exact h (.inr h3)

theorem freeR_free (e : Exp) : e.wf → ∀ bound out : List Str, freeR e bound out = (freeP e).foldl (addNew bound) out := by
  induction e using Exp.ind with
  | h e ih =>
    intro hw bound out
    rw [freeR_eq, freeP_eq]
    by_cases hk : e.kind = 1
    · have hch : e.children = [] := by
        have h1 := hw.one.2.2 hk
        have h2 := hw.one.2.1 (by rw [hk]; decide)
        simp [Exp.children, h1, h2]
      rw [if_pos hk, hch]
      simp only [List.map_nil, List.zipIdx_nil, List.foldl_nil, List.foldl_cons, seeVar, hk, true_and]
      by_cases h : e.name ∈ bound ∨ e.name ∈ out
      · rw [addNew_pos h, if_neg (fun h1 => h.elim h1.1 h1.2)]
      · rw [addNew_neg h, if_pos ⟨fun h1 => h (.inl h1), fun h1 => h (.inr h1)⟩]
    · rw [if_neg hk]
      have hs : seeVar e bound out = out := by
        unfold seeVar
        rw [if_neg (fun h => hk h.1)]
      rw [hs]
      have key : ∀ (l : List Exp) (i : Nat) (acc : List Str), (∀ x ∈ l, x ∈ e.children) → ((l.map freeR).zipIdx i).foldl (stepR e bound) (acc.foldl (addNew bound) out) = (((l.map freeP).zipIdx i).foldl (addAll e) acc).foldl (addNew bound) out := by
        intro l
        induction l with
        | nil => intro i acc _; rfl
        | cons x l ihl =>
          intro i acc hmem
          rw [List.map_cons, List.map_cons, List.zipIdx_cons, List.zipIdx_cons, List.foldl_cons, List.foldl_cons, ← ihl (i + 1) _ fun y hy => hmem y (List.mem_cons_of_mem _ hy)]
          congr 1
          have hx := hmem x (by simp)
          show freeR x (bound ++ e.bound i) _ = ((freeP x).foldl (addNew (e.bound i)) acc).foldl (addNew bound) out
          rw [ih x hx (hw.child hx), fold_fold]
      exact key e.children 0 [] fun x hx => hx

theorem addNew_nodup {b out : List Str} {s : Str} (h : out.Nodup) : (addNew b out s).Nodup := by
  unfold addNew
  split
  · exact h
  · rename_i hn
    rw [List.nodup_append]
    refine ⟨h, by simp, ?_⟩
    intro x hx y hy
    simp only [List.mem_singleton] at hy
    subst hy
    rintro rfl
    exact hn (.inr hx)
theorem foldNew_nodup {b : List Str} : ∀ {l out : List Str}, out.Nodup → (l.foldl (addNew b) out).Nodup
  | [], _, h => h
  | _ :: l, _, h => foldNew_nodup (l := l) (addNew_nodup h)
theorem foldAll_nodup {e : Exp} : ∀ {l : List (List Str × Nat)} {out : List Str}, out.Nodup → (l.foldl (addAll e) out).Nodup
  | [], _, h => h
  | _ :: l, _, h => foldAll_nodup (l := l) (foldNew_nodup h)
theorem freeP_nodup (e : Exp) : (freeP e).Nodup := by
  rw [freeP_eq]
  split
  · simp
  · exact foldAll_nodup List.nodup_nil
theorem foldNew_id : ∀ {l out : List Str}, (out ++ l).Nodup → l.foldl (addNew []) out = out ++ l
  | [], out, _ => by simp
  | s :: l, out, h => by
    have hs : s ∉ out := by
      rw [List.nodup_append] at h
      exact fun hs => h.2.2 s hs s (by simp) rfl
    have he : addNew [] out s = out ++ [s] := by
      unfold addNew
      rw [if_neg (by simpa using hs)]
    rw [List.foldl_cons, he, foldNew_id (by simpa using h)]
    simp

/-- The two lists of free variables are the same. -/
theorem free_same (e : Exp) (hw : e.wf) : freeR e [] [] = freeP e := by
  rw [freeR_free e hw, foldNew_id (by simpa using freeP_nodup e)]
  simp

end Go.Vs.Tryz

/- Making things from plain numbers, walked: Mod, Next, Variable, Type. -/
namespace Go.Vs.Tryz
open Go Go.Vs
variable {A : Oracle}

theorem fn_ofE {f : FuncId} {vf : VFun} {args : List V} {objs : List Obj} (P : V × List Obj → Prop) (hT : T2 f = some vf) (hn : args.length = vf.nparams) (ho : objs.length ≤ 64)
    (h : wp (K A) vf.body (endsQ vf.keep objs.length vf.results P) ⟨enumF 0 args, enumF 0 (objs.map some)⟩) : ∃ r, P r ∧ (K A).call f args objs = some r := lim_wpE P hT hn ho h

def intRows (l : List Int) : List (List Cell) := l.map intRow
@[simp] theorem intRows_len (l : List Int) : (intRows l).length = l.length := by simp [intRows]
@[simp] theorem intRows_get (l : List Int) (i : Nat) : (intRows l)[i]? = (l[i]?).map intRow := by simp [intRows]
@[simp] theorem cut_i (n : Int) : cut (intRow n) 0 1 = some [.int .i64 n] := rfl
/-- A tape: its list, and how many of its choices are read. -/
abbrev tapeO (L : List Int) (I : Nat) : Obj := .box [.c (.sl (intRows L)), .c (.int .i64 I)]
abbrev datasV (ds : List DataD) : V := .sc (.c (.sl (dataRows ds)))
abbrev tyV (t : Ty) : V := .ag (wc t.row)

theorem mod10 (a m : Int) (hm : 0 < m) (hb : m ≤ 1073741824) : ∃ k : Nat, (k : Int) < m ∧ (K A).call 10 [intV a, intV m] [] = some (intV k, []) := by
  have h1 : ¬ m < 1 := by omega
  have h0 : m ≠ 0 := by omega
  have hlt : a.tmod m < m := Int.tmod_lt_of_pos a (by omega)
  have hgt : -m < a.tmod m := Int.lt_tmod_of_pos a (by omega)
  by_cases hneg : a.tmod m < 0
  · refine ⟨(a.tmod m + m).toNat, by omega, ?_⟩
    have hw : ((a.tmod m + m).toNat : Int) = a.tmod m + m := by omega
    rw [hw]
    refine fn_of (vf := v10) (by kernel_rfl) rfl (by simp) ?_
    unfold v10
    simp (disch := first | omega | (simp; done) | (simp; omega)) [h1, h0, hneg]
  · refine ⟨(a.tmod m).toNat, by omega, ?_⟩
    have hw : ((a.tmod m).toNat : Int) = a.tmod m := by omega
    rw [hw]
    refine fn_of (vf := v10) (by kernel_rfl) rfl (by simp) ?_
    unfold v10
    simp (disch := first | omega | (simp; done) | (simp; omega)) [h1, h0, hneg]

theorem next37 (L : List Int) (I : Nat) (n : Int) (hI : I ≤ L.length) (hL : L.length ≤ 1073741824) (hn : 0 < n) (hb : n ≤ 1073741824) :
    ∃ k J : Nat, (k : Int) < n ∧ J ≤ L.length ∧ (K A).call 37 [.sc (.ptr 0 0), intV n] [tapeO L I] = some (intV k, [tapeO L J]) := by
  by_cases h : I < L.length
  · obtain ⟨a, ha⟩ := get_of_lt h
    obtain ⟨k, hk, hc⟩ := mod10 (A := A) a n hn hb
    refine ⟨k, I + 1, hk, h, ?_⟩
    refine fn_of (vf := v37) (by kernel_rfl) rfl (by simp) ?_
    have h1 : ¬ L.length ≤ I := by omega
    unfold v37
    simp (disch := first | omega | (simp; done) | (simp; omega)) [h1, ha, hc, -getElem?_pos]
  · refine ⟨0, I, hn, hI, ?_⟩
    refine fn_of (vf := v37) (by kernel_rfl) rfl (by simp) ?_
    have h1 : L.length ≤ I := by omega
    unfold v37
    simp (disch := first | omega | (simp; done) | (simp; omega)) [h1, -getElem?_pos]

def varNames : List Str := [[120], [121], [122], [102], [103], [118, 49], [118, 50], [105, 100]]
theorem variable38 (L : List Int) (I : Nat) (hI : I ≤ L.length) (hL : L.length ≤ 1073741824) :
    ∃ s J, s ∈ varNames ∧ J ≤ L.length ∧ (K A).call 38 [.sc (.ptr 0 0)] [tapeO L I] = some (strV s, [tapeO L J]) := by
  obtain ⟨k, J, hk, hJ, hc⟩ := next37 (A := A) L I 8 hI hL (by omega) (by omega)
  obtain ⟨s, hs⟩ := get_of_lt (l := varNames) (i := k) (by simp only [varNames, List.length_cons, List.length_nil]; omega)
  refine ⟨s, J, List.mem_of_getElem? hs, hJ, ?_⟩
  refine fn_of (vf := v38) (by kernel_rfl) rfl (by simp) ?_
  have hr : (wr (strRows varNames))[k]? = some [.c (.str s)] := by simp [hs]
  have hw : wr (strRows varNames) = [[.c (.str [120])], [.c (.str [121])], [.c (.str [122])], [.c (.str [102])], [.c (.str [103])], [.c (.str [118, 49])], [.c (.str [118, 50])], [.c (.str [105, 100])]] := rfl
  rw [hw] at hr
  unfold v38
  simp (disch := first | omega | (simp; done) | (simp; omega)) [hc, hr, -getElem?_pos]
  done

theorem con65 (s : Str) (l : List Ty) (hl : l.length ≤ 1073741824) : (K A).call 65 [strV s, .sc (.c (.sl (Ty.rows l)))] [] = some (tyV (.mk 4 s 0 0 l), []) := by
  refine fn_of (vf := v65) (by kernel_rfl) rfl (by simp) ?_
  unfold v65
  cases l with
  | nil =>
    have hn : Ty.rows [] = [] := by rw [Ty.rows]
    simp (disch := first | omega | (simp; done) | (simp; omega)) [hn, Ty.row]
    done
  | cons t l =>
    have hn : Ty.rows (t :: l) = t.row :: Ty.rows l := by rw [Ty.rows]
    have hok := okRows_ty (t :: l)
    rw [hn, wr_cons] at hok
    simp only [List.length_cons] at hl
    simp (disch := first | omega | (simp; done) | (simp; omega)) [hn, hok, Ty.row]
    done

theorem int29 : (K A).call 29 [] [] = some (tyV (.mk 4 [73, 110, 116] 0 0 []), []) := by
  refine fn_of (vf := v29) (by kernel_rfl) rfl (by simp) ?_
  have hn : Ty.rows [] = [] := by rw [Ty.rows]
  have h := con65 (A := A) [73, 110, 116] [] (by simp)
  simp [hn] at h
  unfold v29
  simp (disch := first | omega | (simp; done) | (simp; omega)) [h]
  done

theorem arrow79 (a b : Ty) : (K A).call 79 [tyV a, tyV b] [] = some (tyV (.mk 4 [45, 62] 0 0 [a, b]), []) := by
  refine fn_of (vf := v79) (by kernel_rfl) rfl (by simp) ?_
  have hn : Ty.rows [a, b] = [a.row, b.row] := by simp [Ty.rows]
  have h := con65 (A := A) [45, 62] [a, b] (by simp)
  rw [hn] at h
  unfold v79
  simp (disch := first | omega | (simp; done) | (simp; omega)) [h]
  done

/-- Declarations that something can be made of. -/
def goodD (d : DataD) : Prop := d.params.length ≤ 4 ∧ 1 ≤ d.cons.length ∧ d.cons.length ≤ 6 ∧ ∀ c ∈ d.cons, c.fields.length ≤ 4
def goodDs (ds : List DataD) : Prop := ds.length ≤ 100 ∧ ∀ d ∈ ds, goodD d

def TypeP (L : List Int) (r : V × List Obj) : Prop := ∃ t J, J ≤ L.length ∧ r = (tyV t, [tapeO L J])

/-- Ahead of the i-th argument of a type. -/
def TypeI (L : List Int) (ds : List DataD) (dd : DataD) (d i : Nat) (s : St) : Prop := ∃ tys J, tys.length = i ∧ J ≤ L.length ∧
  s = ⟨[(0, .sc (.ptr 0 0)), (1, datasV ds), (2, .sc (.c (.sl []))), (3, intV (d + 1)), (8, .sc (.ptr 64 0)), (10, .sc (.ptr 3392 0)), (11, .sc (.arr 3521 i)), (12, intV i)],
    [(0, some (tapeO L J)), (64, some (.box [zi, zs, zi, zi, .nil])), (3392, some (.box (wc (dataRow dd)))), (3521, some (.arr 5 (wr (Ty.rows tys)) 0))]⟩

set_option maxHeartbeats 2000000 in
theorem type39 (L : List Int) (ds : List DataD) (hL : L.length ≤ 1073741824) (hds : goodDs ds) : ∀ (d I : Nat), d ≤ 100 → I ≤ L.length →
    ∃ r, TypeP L r ∧ (K A).call 39 [.sc (.ptr 0 0), datasV ds, .sc (.c (.sl [])), intV d] [tapeO L I] = some r := by
  intro d
  induction d with
  | zero =>
    intro I _ hI
    obtain ⟨k, J, hk, hJ, hc⟩ := next37 (A := A) L I 7 hI hL (by omega) (by omega)
    refine fn_ofE _ (vf := v39) (by kernel_rfl) rfl (by simp) ?_
    have hi := int29 (A := A)
    unfold v39
    by_cases h3 : k < 3
    · have h3' : (k : Int) < 3 := by omega
      have h4' : (k : Int) < 4 := by omega
      simp (disch := first | omega | (simp; done) | (simp; omega)) [hc, hi, h3', h4', -getElem?_pos]
      exact ⟨_, J, hJ, rfl⟩
    · have h3' : ¬ (k : Int) < 3 := by omega
      by_cases h4 : k < 4
      · have h4' : (k : Int) < 4 := by omega
        simp (disch := first | omega | (simp; done) | (simp; omega)) [hc, hi, h3', h4', -getElem?_pos]
        exact ⟨_, J, hJ, rfl⟩
      · have h4' : ¬ (k : Int) < 4 := by omega
        simp (disch := first | omega | (simp; done) | (simp; omega)) [hc, hi, h3', h4', -getElem?_pos]
        exact ⟨_, J, hJ, rfl⟩
  | succ d ih =>
    intro I hd hI
    obtain ⟨k, J, hk, hJ, hc⟩ := next37 (A := A) L I 7 hI hL (by omega) (by omega)
    have hi := int29 (A := A)
    have hn : Ty.rows [] = [] := by rw [Ty.rows]
    have hd1 : ¬ (d : Int) + 1 < 1 := by omega
    refine fn_ofE _ (vf := v39) (by kernel_rfl) rfl (by simp) ?_
    by_cases h4 : k < 4
    · have h4' : (k : Int) < 4 := by omega
      unfold v39
      by_cases h3 : k < 3
      · have h3' : (k : Int) < 3 := by omega
        simp (disch := first | omega | (simp; done) | (simp; omega)) [hc, hi, h3', h4', -getElem?_pos]
        exact ⟨_, J, hJ, rfl⟩
      · have h3' : ¬ (k : Int) < 3 := by omega
        simp (disch := first | omega | (simp; done) | (simp; omega)) [hc, hi, h3', h4', -getElem?_pos]
        exact ⟨_, J, hJ, rfl⟩
    · have h3' : ¬ (k : Int) < 3 := by omega
      have h4' : ¬ (k : Int) < 4 := by omega
      by_cases hdata : ds ≠ [] ∧ k < 6
      · have hpos : 0 < ds.length := List.length_pos_iff.2 hdata.1
        have hds1 := hds.1
        obtain ⟨m, J1, hm, hJ1, hc1⟩ := next37 (A := A) L J ds.length hJ hL (by omega) (by omega)
        obtain ⟨dd, hdd⟩ := get_of_lt (l := ds) (i := m) (by omega)
        have hgood := hds.2 dd (List.mem_of_getElem? hdd)
        have hm' : (m : Int) < ds.length := hm
        have fin : wp (K A) (.loop l39_0) (blockQ 1 (thenQ (K A) (.seq (.region [] [o 77 (.fld 1 (tv 10)), o 78 (.load false 1 (tv 77)), o 79 (.mv (tv 11)), oa 80 (.call (kf 65) [(false, (tv 78)), (false, (tv 79))] []) 4992, on (.store 5 (tv 8) (tv 80) [])] [] [8]) .ret)
            (blockQ 0 (thenQ (K A) (.seq (.region [] [o 81 (.mv (tv 0)), o 82 (.mv (tv 1)), o 83 (.mv (tv 2)), o 84 (.mv (tv 3)), o 85 (.bin .sub 0 (tv 84) (ki 1)), oa 86 (.call (kf 39) [(true, (tv 81)), (false, (tv 82)), (false, (tv 83)), (false, (tv 85))] []) 5440, oa 13 (.new [zi, zs, zi, zi, .nil] []) 5504, on (.store 5 (tv 13) (tv 86) [])] [] [0, 1, 2, 3, 8, 13])
              (.seq (.region [] [o 87 (.load true 5 (tv 13)), o 88 (.mv (tv 0)), o 89 (.mv (tv 1)), o 90 (.mv (tv 2)), o 91 (.mv (tv 3)), o 92 (.bin .sub 0 (tv 91) (ki 1)), oa 93 (.call (kf 39) [(true, (tv 88)), (false, (tv 89)), (false, (tv 90)), (false, (tv 92))] []) 6016, oa 94 (.call (kf 79) [(false, (tv 87)), (false, (tv 93))] []) 6080, on (.store 5 (tv 8) (tv 94) [])] [(0, 6)] [8]) .ret)) (endsQ false 1 [.cell 8 true 5] (TypeP L))))))
            ⟨[(0, .sc (.ptr 0 0)), (1, datasV ds), (2, .sc (.c (.sl []))), (3, intV (d + 1)), (8, .sc (.ptr 64 0)), (10, .sc (.ptr 3392 0)), (11, .sc (.arr 3521 0)), (12, intV 0)],
              [(0, some (tapeO L J1)), (64, some (.box [zi, zs, zi, zi, .nil])), (3392, some (.box (wc (dataRow dd)))), (3521, some (.arr 5 [] 0))]⟩ := by
          refine wp_loopI (TypeI L ds dd d) dd.params.length ⟨[], J1, rfl, hJ1, by simp [hn]⟩ ?_ ?_
          · rintro i s hi' ⟨tys, J2, ht, hJ2, rfl⟩
            obtain ⟨r, ⟨ty, J3, hJ3, rfl⟩, hc2⟩ := ih J2 (by omega) hJ2
            have hip := hgood.1
            unfold l39_0
            simp (disch := first | omega | (simp; done) | (simp; omega)) [hi', hc2, ht, -getElem?_pos]
            exact ⟨tys ++ [ty], J3, by simp [ht], hJ3, by simp⟩
          · rintro s ⟨tys, J2, ht, hJ2, rfl⟩
            have hip := hgood.1
            have hcon := con65 (A := A) dd.name tys (by omega)
            unfold l39_0
            simp (disch := first | omega | (simp; done) | (simp; omega)) [hcon, ht, -getElem?_pos]
            exact ⟨_, J2, hJ2, rfl⟩
        by_cases hk4 : k = 4
        · unfold v39
          simp (disch := first | omega | (simp; done) | (simp; omega)) [hc, hi, h3', h4', hd1, hk4, hdata.1, hpos, hc1, hdd, -getElem?_pos]
          exact fin
        · have hk5 : k = 5 := by omega
          unfold v39
          simp (disch := first | omega | (simp; done) | (simp; omega)) [hc, hi, h3', h4', hd1, hk5, hdata.1, hpos, hc1, hdd, -getElem?_pos]
          exact fin
      · obtain ⟨r1, ⟨t1, J1, hJ1, rfl⟩, hc1⟩ := ih J (by omega) hJ
        obtain ⟨r2, ⟨t2, J2, hJ2, rfl⟩, hc2⟩ := ih J1 (by omega) hJ1
        have har := arrow79 (A := A) t1 t2
        have hb4 : ¬ ((k : Int) = 4 ∧ 0 < ds.length) := by
          rintro ⟨h1, h2⟩
          exact hdata ⟨List.length_pos_iff.1 h2, by omega⟩
        have hb5 : ¬ ((k : Int) = 5 ∧ 0 < ds.length) := by
          rintro ⟨h1, h2⟩
          exact hdata ⟨List.length_pos_iff.1 h2, by omega⟩
        unfold v39
        by_cases hz : ds = []
        · subst hz
          have hz2 : dataRows [] = [] := rfl
          by_cases hk4 : (k : Int) = 4
          · simp (disch := first | omega | (simp; done) | (simp; omega)) [hc, hi, h3', h4', hd1, hk4, hc1, hc2, har, -getElem?_pos]
            exact ⟨_, J2, hJ2, rfl⟩
          · by_cases hk5 : (k : Int) = 5
            · simp (disch := first | omega | (simp; done) | (simp; omega)) [hc, hi, h3', h4', hd1, hk4, hk5, hc1, hc2, har, -getElem?_pos]
              exact ⟨_, J2, hJ2, rfl⟩
            · simp (disch := first | omega | (simp; done) | (simp; omega)) [hc, hi, h3', h4', hd1, hk4, hk5, hc1, hc2, har, -getElem?_pos]
              exact ⟨_, J2, hJ2, rfl⟩
        · have hk4 : ¬ (k : Int) = 4 := fun h => hdata ⟨hz, by omega⟩
          have hk5 : ¬ (k : Int) = 5 := fun h => hdata ⟨hz, by omega⟩
          simp (disch := first | omega | (simp; done) | (simp; omega)) [hc, hi, h3', h4', hd1, hk4, hk5, hc1, hc2, har, -getElem?_pos]
          exact ⟨_, J2, hJ2, rfl⟩

end Go.Vs.Tryz
