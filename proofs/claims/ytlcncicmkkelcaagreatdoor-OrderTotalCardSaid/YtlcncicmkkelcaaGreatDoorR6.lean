/- Chapters 4 and 11, walked: children. (Parts of one proof, put together.) -/
import Derived.Test.YtlcncicmkkelcaaGreatDoorR4
import Derived.Test.YtlcncicmkkelcaaGreatDoorM5
set_option linter.unusedSimpArgs false
set_option linter.unusedVariables false
set_option linter.deprecated false

/- Chapters 4 and 11, walked: children. -/
namespace Go.Vs.Tryz
open Go Go.Vs

/-- The functions whose answers are given: the examples, and all data declarations. -/
def skip (f : Nat) : Bool := f == 19 || f == 12 || f == 71
def T2 : FuncId → Option VFun := fun f => bif skip f then none else T f
theorem T2_ok : ∀ f vf, T2 f = some vf → mFun Go.Proofs.Tryz.prog f vf = true := by
  intro f vf h
  unfold T2 at h
  cases hs : skip f with
  | true => rw [hs] at h; cases h
  | false => rw [hs] at h; exact T_ok f vf h

/-- The copies of slices and strings. -/
noncomputable def X1 : Oracle := fun f args objs => match objs with
  | _ :: _ => lim Tc (fun _ _ _ => none) gl0 f args objs
  | [] => match args with
    | [.sc (.c (.str l))] => bif f == 233 && Nat.ble l.length 281474976710656 then some (.sc (.c (.str l)), []) else none
    | [.sc (.c (.sl []))] => bif isClone f then some (.sc (.full []), []) else bif isClone2 f then some (.sc (.c (.sl [])), []) else none
    | _ => lim Tc (fun _ _ _ => none) gl0 f args objs
noncomputable def X2 (A : Oracle) : Oracle := fun f args objs => bif skip f then A f args objs else X1 f args objs

theorem limTc_ok {f : FuncId} {args : List V} {objs : List Obj} {rv : V} {objs' : List Obj} (h : lim Tc (fun _ _ _ => none) gl0 f args objs = some (rv, objs')) : FnOk Go.Proofs.Tryz.prog gl0 f args objs rv objs' := by
  obtain ⟨n, h⟩ := lim_ex h
  exact evalN_ok follows Tc_ok X_none n h

theorem X2_ok {A : Oracle} (hA : ∀ f args objs rv objs', skip f = true → A f args objs = some (rv, objs') → FnOk Go.Proofs.Tryz.prog gl0 f args objs rv objs') :
    ∀ (f : FuncId) (args : List V) (objs : List Obj) (rv : V) (objs' : List Obj), X2 A f args objs = some (rv, objs') → FnOk Go.Proofs.Tryz.prog gl0 f args objs rv objs' := by
  intro f args objs rv objs' h
  unfold X2 at h
  cases hs : skip f with
  | true => rw [hs] at h; exact hA _ _ _ _ _ hs h
  | false =>
    rw [hs] at h
    simp only [cond_false] at h
    unfold X1 at h
    split at h
    · exact limTc_ok h
    · split at h
      · rename_i l
        cases hc : (f == 233 && Nat.ble l.length 281474976710656) with
        | false => rw [hc] at h; cases h
        | true =>
          rw [hc] at h
          simp only [cond_true, Option.some.injEq, Prod.mk.injEq] at h
          simp only [Bool.and_eq_true, beq_iff_eq] at hc
          obtain ⟨rfl, rfl⟩ := h
          obtain ⟨rfl, hl⟩ := hc
          exact ok202 (Nat.le_of_ble_eq_true hl)
      · cases hc : isClone f with
        | false =>
          rw [hc] at h
          simp only [cond_false] at h
          cases hc2 : isClone2 f with
          | false => rw [hc2] at h; cases h
          | true =>
            rw [hc2] at h
            simp only [cond_true, Option.some.injEq, Prod.mk.injEq] at h
            obtain ⟨rfl, rfl⟩ := h
            exact clone2_of hc2
        | true =>
          rw [hc] at h
          simp only [cond_true, Option.some.injEq, Prod.mk.injEq] at h
          obtain ⟨rfl, rfl⟩ := h
          exact clone_of hc
      · exact limTc_ok h

noncomputable def K (A : Oracle) : Ctx := ⟨lim T2 (X2 A) gl0, gl0⟩
noncomputable def Kc : Ctx := ⟨lim Tc (fun _ _ _ => none) gl0, gl0⟩
@[simp] theorem K_gl {A : Oracle} : (K A).gl = gl0 := rfl
@[simp] theorem Kc_gl : Kc.gl = gl0 := rfl

/-- What the functions say, the program does. -/
theorem K_ok {A : Oracle} (hA : ∀ f args objs rv objs', skip f = true → A f args objs = some (rv, objs') → FnOk Go.Proofs.Tryz.prog gl0 f args objs rv objs')
    {f : FuncId} {args : List V} {objs : List Obj} {rv : V} {objs' : List Obj} (h : (K A).call f args objs = some (rv, objs')) : FnOk Go.Proofs.Tryz.prog gl0 f args objs rv objs' := by
  obtain ⟨n, h⟩ := lim_ex h
  exact evalN_ok follows T2_ok (X2_ok hA) n h

variable {A : Oracle}
/-- A function of the table, from its body. -/
theorem fn_of {f : FuncId} {vf : VFun} {args : List V} {objs : List Obj} {r : V × List Obj} (hT : T2 f = some vf) (hn : args.length = vf.nparams) (ho : objs.length ≤ 64)
    (h : wp (K A) vf.body (doneQ vf.keep objs.length vf.results r) ⟨enumF 0 args, enumF 0 (objs.map some)⟩) : (K A).call f args objs = some r := lim_wp hT hn ho h
theorem clone_fn {f : FuncId} {vf : VFun} {args : List V} {objs : List Obj} {r : V × List Obj} (hT : Tc f = some vf) (hn : args.length = vf.nparams) (ho : objs.length ≤ 64)
    (h : wp Kc vf.body (doneQ vf.keep objs.length vf.results r) ⟨enumF 0 args, enumF 0 (objs.map some)⟩) : Kc.call f args objs = some r := lim_wp hT hn ho h

theorem clone_data {f : FuncId} (hs : skip f = false) (hT : T2 f = none) {c : List Cell} {rows : List (List Cell)} : (K A).call f [.sc (.c (.sl (c :: rows)))] [] = Kc.call f [.sc (.c (.sl (c :: rows)))] [] := by
  have h : X2 A f [.sc (.c (.sl (c :: rows)))] [] = Kc.call f [.sc (.c (.sl (c :: rows)))] [] := by
    unfold X2
    rw [hs]
    rfl
  rw [← h]
  cases hx : X2 A f [.sc (.c (.sl (c :: rows)))] [] with
  | some r => exact lim_X hT hx
  | none =>
    cases hk : (K A).call f [.sc (.c (.sl (c :: rows)))] [] with
    | none => rfl
    | some r =>
      obtain ⟨n, hn⟩ := lim_ex hk
      cases n with
      | zero => cases hn
      | succ n =>
        simp only [evalN, hT] at hn
        rw [hx] at hn
        cases hn
theorem clone_nil {f : FuncId} (hs : skip f = false) (hT : T2 f = none) (hf : isClone f = true) : (K A).call f [.sc (.c (.sl []))] [] = some (.sc (.full []), []) := by
  refine lim_X hT ?_
  simp only [X2, X1, hs, cond_false, hf, cond_true]

theorem children50 (e : Exp) (h : e.kids.length + e.arms.length ≤ 4294967296) : (K A).call 69 [.ag (wc e.row)] [] = some (.sc (.arr 0 e.children.length), [.arr 11 (wr (Exp.rows e.children)) 0]) := by
  refine fn_of (vf := v69) (by kernel_rfl) rfl (by decide) ?_
  unfold v69
  simp (disch := first | omega | (simp; done) | (simp; omega))
  refine wp_loop (fun i => ⟨[(1, .sc (.ptr 64 0)), (3, .sc (.arr 320 (e.kids.length + i))), (4, .sc (.c (.int .i64 i)))],
    [(64, some (.box (wc e.row))), (320, some (.arr 11 (wr (Exp.rows (e.kids ++ (e.arms.map (·.2)).take i))) 0))]⟩) e.arms.length ?_ ?_ ?_
  · simp
  · intro i hi
    obtain ⟨x, hx⟩ := get_of_lt hi
    have hx' : (e.arms.map (·.2))[i]? = some x.2 := by simp [hx]
    unfold l69_0
    simp (disch := first | omega | (simp; done) | (simp; omega)) [hi, hx, take_next hx', Nat.add_assoc, -getElem?_pos]
  · unfold l69_0
    have ht : (e.arms.map (·.2)).take e.arms.length = e.arms.map (·.2) := List.take_of_length_le (by simp)
    simp (disch := first | omega | (simp; done) | (simp; omega)) [Exp.children, ht]

end Go.Vs.Tryz

/- Lists of names, walked: has, Contains, Index, same, Few. -/
namespace Go.Vs.Tryz
open Go Go.Vs

variable {A : Oracle}
abbrev strsV (l : List Str) : V := .sc (.c (.sl (strRows l)))
abbrev strV (s : Str) : V := .sc (.c (.str s))
abbrev intV (n : Int) : V := .sc (.c (.int .i64 n))
abbrev boolV (b : Bool) : V := .sc (.c (.bool b))
abbrev expV (e : Exp) : V := .ag (wc e.row)

@[simp] theorem wc_strRow (s : Str) : wc (strRow s) = [.c (.str s)] := rfl
@[simp] theorem wc_intRow (n : Int) : wc (intRow n) = [.c (.int .i64 n)] := rfl

/-- The first place of a name. -/
def place (l : List Str) (s : Str) : Nat := l.findIdx (· == s)
theorem place_lt {l : List Str} {s : Str} {i : Nat} (h : i < place l s) : ∃ x, l[i]? = some x ∧ ¬ x = s := by
  have hlt : i < l.length := Nat.lt_of_lt_of_le h List.findIdx_le_length
  refine ⟨l[i], List.getElem?_eq_getElem hlt, ?_⟩
  have := List.not_of_lt_findIdx h
  simpa using this
theorem place_at {l : List Str} {s : Str} (h : place l s < l.length) : l[place l s]? = some s := by
  have h1 := List.findIdx_getElem (w := h)
  rw [List.getElem?_eq_getElem h]
  exact congrArg some (beq_iff_eq.1 h1)
theorem place_mem {l : List Str} {s : Str} : place l s < l.length ↔ s ∈ l := by
  unfold place
  rw [List.findIdx_lt_length]
  simp
theorem place_le (l : List Str) (s : Str) : place l s ≤ l.length := List.findIdx_le_length

theorem has64 (l : List Str) (s : Str) (h : l.length ≤ 4294967296) : (K A).call 78 [strsV l, strV s] [] = some (boolV (decide (s ∈ l)), []) := by
  refine fn_of (vf := v78) (by kernel_rfl) rfl (by decide) ?_
  unfold v78
  have hp := place_le l s
  simp (disch := first | omega | (simp; done) | (simp; omega))
  refine wp_loop (fun i => ⟨[(0, strsV l), (1, strV s), (5, intV i)], []⟩) (place l s) ?_ ?_ ?_
  · simp
  · intro i hi
    obtain ⟨x, hx, hne⟩ := place_lt hi
    have hlt : i < l.length := by omega
    unfold l78_0
    simp (disch := first | omega | (simp; done) | (simp; omega)) [hx, hne, hlt, -getElem?_pos]
  · unfold l78_0
    by_cases hm : place l s < l.length
    · have hx := place_at hm
      simp (disch := first | omega | (simp; done) | (simp; omega)) [hx, hm, place_mem.1 hm, -getElem?_pos]
    · have hn : s ∉ l := fun h => hm (place_mem.2 h)
      simp (disch := first | omega | (simp; done) | (simp; omega)) [hm, hn, -getElem?_pos]

theorem index42 (l : List Str) (s : Str) (h : l.length ≤ 4294967296) : (K A).call 107 [strsV l, strV s] [] = some (intV (if s ∈ l then (place l s : Int) else -1), []) := by
  refine fn_of (vf := v107) (by kernel_rfl) rfl (by decide) ?_
  unfold v107
  have hp := place_le l s
  simp (disch := first | omega | (simp; done) | (simp; omega))
  refine wp_loop (fun i => ⟨[(0, strsV l), (1, strV s), (7, intV l.length), (8, intV i)], []⟩) (place l s) ?_ ?_ ?_
  · simp
  · intro i hi
    obtain ⟨x, hx, hne⟩ := place_lt hi
    have hlt : i < l.length := by omega
    have hne' : ¬ s = x := fun h => hne h.symm
    unfold l107_0
    simp (disch := first | omega | (simp; done) | (simp; omega)) [hx, hne', hlt, -getElem?_pos]
  · unfold l107_0
    by_cases hm : place l s < l.length
    · have hx := place_at hm
      simp (disch := first | omega | (simp; done) | (simp; omega)) [hx, hm, place_mem.1 hm, -getElem?_pos]
    · have hn : s ∉ l := fun h => hm (place_mem.2 h)
      simp (disch := first | omega | (simp; done) | (simp; omega)) [hm, hn, -getElem?_pos]

theorem few8 (l : List Int) : (K A).call 13 [.sc (.c (.sl (l.map intRow)))] [] = some (boolV (decide (l.length ≤ 60)), []) := by
  refine fn_of (vf := v13) (by kernel_rfl) rfl (by decide) ?_
  unfold v13
  simp
  omega

/-- The first place where two lists of names differ. -/
def differ : List Str → List Str → Nat
  | a :: l, b :: m => if a = b then differ l m + 1 else 0
  | _, _ => 0

end Go.Vs.Tryz

/- The children of an expression, and the names that it binds in them, walked. -/
namespace Go.Vs.Tryz
open Go Go.Vs
variable {A : Oracle}

theorem rows_cons {l : List Exp} (h : l ≠ []) : ∃ c rows, Exp.rows l = c :: rows := by
  cases l with
  | nil => exact absurd rfl h
  | cons e r => exact ⟨e.row, Exp.rows r, by rw [Exp.rows]⟩

theorem clone88 (l : List Exp) (h : l ≠ []) (hl : l.length ≤ 4294967296) : (K A).call 140 [.sc (.c (.sl (Exp.rows l)))] [] = some (.sc (.arr 0 l.length), [.arr 11 (wr (Exp.rows l)) 0]) := by
  obtain ⟨c, rows, hr⟩ := rows_cons h
  have hlen : rows.length + 1 = l.length := by
    have := Exp.rows_len l
    rw [hr] at this
    simpa using this
  have hok : okRows 11 (wr (c :: rows)) = true := hr ▸ okRows_exp l
  rw [hr, clone_data (by kernel_rfl) (by kernel_rfl)]
  refine clone_fn (vf := v140) (by kernel_rfl) rfl (by decide) ?_
  unfold v140
  rw [wr_cons] at hok
  simp (disch := first | omega | (simp; done) | (simp; omega)) [hok]
  omega

theorem children51_leaf (e : Exp) (h1 : e.kids = []) (h2 : e.arms = []) : (K A).call 79 [expV e] [] = some (.sc (.full []), []) := by
  refine fn_of (vf := v79) (by kernel_rfl) rfl (by decide) ?_
  have hc := clone_nil (A := A) (f := 140) (by kernel_rfl) (by kernel_rfl) (by kernel_rfl)
  have hn : Exp.rows [] = [] := by rw [Exp.rows]
  unfold v79
  simp [h1, hn, hc]
  refine wp_loop (fun i => ⟨[(3, .sc (.full [])), (10, .sc (.c (.sl (Exp.armRows e.arms)))), (11, intV e.arms.length), (12, intV i)], [(64, some (.box (wc e.row)))]⟩) 0 ?_ ?_ ?_
  · simp
  · intro i hi; omega
  · unfold l79_0
    simp [h2]

theorem children51 (e : Exp) (h : e.kids ≠ []) (hl : e.weight ≤ 1073741824) : (K A).call 79 [expV e] [] = some (.sc (.arr 0 e.children.length), [.arr 11 (wr (Exp.rows e.children)) 0]) := by
  refine fn_of (vf := v79) (by kernel_rfl) rfl (by decide) ?_
  have hk := e.children_le
  rw [e.children_len] at hk
  have hc := clone88 (A := A) e.kids h (by omega)
  unfold v79
  simp [hc]
  refine wp_loop (fun i => ⟨[(3, .sc (.arr 352 (e.kids.length + i))), (10, .sc (.c (.sl (Exp.armRows e.arms)))), (11, intV e.arms.length), (12, intV i)], 
    [(64, some (.box (wc e.row))), (352, some (.arr 11 (wr (Exp.rows (e.kids ++ (e.arms.map (·.2)).take i))) 0))]⟩) e.arms.length ?_ ?_ ?_
  · simp
  · intro i hi
    obtain ⟨x, hx⟩ := get_of_lt hi
    have hx' : (e.arms.map (·.2))[i]? = some x.2 := by simp [hx]
    unfold l79_0
    simp (disch := first | omega | (simp; done) | (simp; omega)) [hi, hx, take_next hx', Nat.add_assoc, -getElem?_pos]
    done
  · unfold l79_0
    have ht : (e.arms.map (·.2)).take e.arms.length = e.arms.map (·.2) := List.take_of_length_le (by simp)
    simp (disch := first | omega | (simp; done) | (simp; omega)) [Exp.children, ht]
    done

abbrev pathV (i : Int) : V := .sc (.c (.sl [[.int .i64 i]]))

theorem bound91 (e : Exp) (i : Nat) (h : e.wf1) (hi : i < e.children.length) (hl : e.weight ≤ 1073741824) : (K A).call 126 [expV e, intV i] [] = some (strsV (e.bound i), []) := by
  refine fn_of (vf := v126) (by kernel_rfl) rfl (by decide) ?_
  have hk := e.children_le
  have hn : strRows [] = [] := rfl
  have h1 : ∀ s : Str, strRows [s] = [[.str s]] := fun _ => rfl
  rw [e.children_len] at hk hi
  unfold v126
  by_cases h4 : e.kind = 4
  · simp [h4, Exp.bound, h1]
    done
  · by_cases h7 : e.kind = 7
    · simp [h7, Exp.bound, h1]
      done
    · by_cases h6 : e.kind = 6
      · by_cases hi1 : i = 1
        · simp [h6, hi1, Exp.bound, h1]
          done
        · have hi1' : ¬ (i : Int) = 1 := by omega
          simp [h6, hi1, hi1', Exp.bound, hn]
          done
      · by_cases h8 : e.kind = 8
        · have hk1 := h.1 h8
          by_cases hi1 : 0 < i
          · obtain ⟨x, hx⟩ := get_of_lt (l := e.arms) (i := i - 1) (by omega)
            have hi2 : (0 : Int) < i := by omega
            have hw : IntKind.i64.wrap ((i : Int) - 1) = ((i - 1 : Nat) : Int) := by rw [wrap_in _ (by omega)]; omega
            simp (disch := first | omega | (simp; done) | (simp; omega)) [h8, hi1, hi2, hk1, hw, hx, Exp.bound, -getElem?_pos]
            done
          · have hi2 : ¬ (0 : Int) < i := by omega
            simp [h8, hi1, hi2, hk1, Exp.bound, hn]
            done
        · simp [h4, h7, h6, h8, Exp.bound, hn]
          done

end Go.Vs.Tryz

/- The visible names, and the free variables, walked. -/
namespace Go.Vs.Tryz
open Go Go.Vs
variable {A : Oracle}

end Go.Vs.Tryz

/- The free variables by the program, walked. -/
namespace Go.Vs.Tryz
open Go Go.Vs
variable {A : Oracle}

/-- One more name, if it is new and not hidden. -/
def addNew (hidden out : List Str) (s : Str) : List Str := if s ∈ hidden ∨ s ∈ out then out else out ++ [s]
def addAll (e : Exp) (out : List Str) (p : List Str × Nat) : List Str := p.1.foldl (addNew (e.bound p.2)) out
/-- The free variables, in the program's way. -/
def freeP (e : Exp) : List Str := e.fold fun e l => if e.kind = 1 then [e.name] else l.zipIdx.foldl (addAll e) []
theorem freeP_eq (e : Exp) : freeP e = if e.kind = 1 then [e.name] else (e.children.map freeP).zipIdx.foldl (addAll e) [] := Exp.fold_eq _ e

theorem sum_take {l : List Nat} {i : Nat} : (l.take i).sum ≤ l.sum := by
  have : l.sum = (l.take i).sum + (l.drop i).sum := by rw [← List.sum_append, List.take_append_drop]
  omega
theorem sum_le {α : Type} {f g : α → Nat} : ∀ {l : List α}, (∀ x ∈ l, f x ≤ g x) → (l.map f).sum ≤ (l.map g).sum
  | [], _ => by simp
  | a :: l, h => by
    have h1 := h a (by simp)
    have h2 := sum_le (l := l) fun x hx => h x (by simp [hx])
    simp only [List.map_cons, List.sum_cons]
    omega
/-- The list ahead of the i-th child. -/
def outP (e : Exp) (i : Nat) : List Str := ((e.children.map freeP).zipIdx.take i).foldl (addAll e) []

end Go.Vs.Tryz

/- The free variables by the reference, walked. -/
namespace Go.Vs.Tryz
open Go Go.Vs
variable {A : Oracle}

/-- A variable that is free here. -/
def seeVar (e : Exp) (bound out : List Str) : List Str := if e.kind = 1 ∧ e.name ∉ bound ∧ e.name ∉ out then out ++ [e.name] else out
def stepR (e : Exp) (bound : List Str) (out : List Str) (p : (List Str → List Str → List Str) × Nat) : List Str := p.1 (bound ++ e.bound p.2) out
/-- The free variables, in the reference's way. -/
def freeR (e : Exp) : List Str → List Str → List Str := e.fold fun e l bound out => l.zipIdx.foldl (stepR e bound) (seeVar e bound out)
theorem freeR_eq (e : Exp) (bound out : List Str) : freeR e bound out = (e.children.map freeR).zipIdx.foldl (stepR e bound) (seeVar e bound out) := by
  unfold freeR
  rw [Exp.fold_eq]
/-- The list ahead of the i-th child. -/
def outR (e : Exp) (bound out : List Str) (i : Nat) : List Str := ((e.children.map freeR).zipIdx.take i).foldl (stepR e bound) (seeVar e bound out)
theorem outR_succ {e x : Exp} {bound out : List Str} {i : Nat} (hx : e.children[i]? = some x) : outR e bound out (i + 1) = freeR x (bound ++ e.bound i) (outR e bound out i) := by
  have h : (e.children.map freeR).zipIdx[i]? = some (freeR x, i) := by simp [List.getElem?_zipIdx, hx]
  unfold outR
  rw [take_next h, List.foldl_append]
  rfl
theorem outR_end (e : Exp) (bound out : List Str) : outR e bound out e.children.length = freeR e bound out := by
  rw [freeR_eq]
  unfold outR
  rw [List.take_of_length_le (by simp)]
theorem seeVar_len (e : Exp) (bound out : List Str) : (seeVar e bound out).length ≤ out.length + 1 := by
  unfold seeVar
  split <;> simp
theorem sum_take_le {e : Exp} {i : Nat} : ((e.children.take i).map Exp.weight).sum ≤ (e.children.map Exp.weight).sum := by
  rw [List.map_take]
  exact sum_take
theorem freeR_len (e : Exp) : ∀ bound out : List Str, (freeR e bound out).length ≤ out.length + e.weight := by
  induction e using Exp.ind with
  | h e ih =>
    intro bound out
    have key : ∀ i, i ≤ e.children.length → (outR e bound out i).length ≤ out.length + 1 + ((e.children.take i).map Exp.weight).sum := by
      intro i
      induction i with
      | zero =>
        intro _
        have := seeVar_len e bound out
        simpa [outR] using this
      | succ i ihi =>
        intro hi
        obtain ⟨x, hx⟩ := get_of_lt (l := e.children) (i := i) (by omega)
        have h1 := ih x (List.mem_of_getElem? hx) (bound ++ e.bound i) (outR e bound out i)
        have h2 := ihi (by omega)
        rw [outR_succ hx, take_next hx, List.map_append, List.sum_append]
        simp only [List.map_cons, List.map_nil, List.sum_cons, List.sum_nil]
        omega
    have h1 := key _ (Nat.le_refl _)
    rw [outR_end, List.take_length] at h1
    rw [e.weight_eq]
    omega
theorem freeR_ge (e : Exp) : ∀ bound out : List Str, out.length ≤ (freeR e bound out).length := by
  induction e using Exp.ind with
  | h e ih =>
    intro bound out
    have key : ∀ i, i ≤ e.children.length → out.length ≤ (outR e bound out i).length := by
      intro i
      induction i with
      | zero =>
        intro _
        simp only [outR, List.take_zero, List.foldl_nil, seeVar]
        split <;> simp
      | succ i ihi =>
        intro hi
        obtain ⟨x, hx⟩ := get_of_lt (l := e.children) (i := i) (by omega)
        rw [outR_succ hx]
        exact Nat.le_trans (ihi (by omega)) (ih x (List.mem_of_getElem? hx) _ _)
    have := key _ (Nat.le_refl _)
    rwa [outR_end] at this
theorem outR_key {e : Exp} {bound out : List Str} : ∀ i, i ≤ e.children.length → (outR e bound out i).length ≤ out.length + 1 + ((e.children.take i).map Exp.weight).sum := by
  intro i
  induction i with
  | zero =>
    intro _
    have := seeVar_len e bound out
    simpa [outR] using this
  | succ i ihi =>
    intro hi
    obtain ⟨x, hx⟩ := get_of_lt (l := e.children) (i := i) (by omega)
    have h1 := freeR_len x (bound ++ e.bound i) (outR e bound out i)
    have h2 := ihi (by omega)
    rw [outR_succ hx, take_next hx, List.map_append, List.sum_append]
    simp only [List.map_cons, List.map_nil, List.sum_cons, List.sum_nil]
    omega
theorem outR_child {e x : Exp} {bound out : List Str} {i : Nat} (hx : e.children[i]? = some x) : (outR e bound out i).length + x.weight ≤ out.length + e.weight := by
  have hi : i < e.children.length := (List.getElem?_eq_some_iff.1 hx).1
  have h1 := outR_key (e := e) (bound := bound) (out := out) i (by omega)
  have h2 := sum_take_le (e := e) (i := i + 1)
  rw [take_next hx, List.map_append, List.sum_append] at h2
  simp only [List.map_cons, List.map_nil, List.sum_cons, List.sum_nil] at h2
  rw [e.weight_eq]
  omega
theorem bound_child {e x : Exp} {i : Nat} (hx : e.children[i]? = some x) : (e.bound i).length + x.weight ≤ e.weight := by
  have h1 := sum_mem (f := Exp.weight) (List.mem_of_getElem? hx)
  have h2 : (e.bound i).length ≤ 1 + (e.arms.map fun a => a.1.vars.length).sum := by
    unfold Exp.bound
    split
    · simp
    · split
      · cases h : e.arms[i - 1]? with
        | none => simp
        | some a =>
          have := sum_mem (f := fun a : ArmH × Exp => a.1.vars.length) (List.mem_of_getElem? h)
          simp only [Option.map_some, Option.getD_some]
          omega
      · simp
  rw [e.weight_eq]
  omega

theorem free54 (e : Exp) : ∀ (bound out : List Str), e.wf → bound.length + e.weight ≤ 1073741824 → out.length + e.weight ≤ 1073741824 →
    (K A).call 83 [.sc (.arr 0 out.length), strsV bound, expV e] [.arr 1 (wr (strRows out)) 0] = some (.sc (.arr 0 (freeR e bound out).length), [.arr 1 (wr (strRows (freeR e bound out))) 0]) := by
  induction e using Exp.ind with
  | h e ih =>
  intro bound out hw hbl hol
  refine fn_of (vf := v83) (by kernel_rfl) rfl (by simp) ?_
  have hle := e.children_le
  have hc := children50 (A := A) e (by rw [e.children_len] at hle; omega)
  have hb1 := has64 (A := A) bound e.name (by omega)
  have hb2 := has64 (A := A) out e.name (by omega)
  have hsl := seeVar_len e bound out
  have hwp := e.weight_pos
  unfold v83
  refine wp_seqE ⟨[(0, .sc (.arr 0 out.length)), (1, strsV bound), (5, .sc (.ptr 64 0))], [(0, some (.arr 1 (wr (strRows out)) 0)), (64, some (.box (wc e.row)))]⟩ (by simp) ?_
  refine wp_seq2E ⟨[(0, .sc (.arr 0 (seeVar e bound out).length)), (1, strsV bound), (5, .sc (.ptr 64 0)), (7, .sc (.arr 1760 e.children.length))], [(0, some (.arr 1 (wr (strRows (seeVar e bound out))) 0)), (64, some (.box (wc e.row))), (1760, some (.arr 11 (wr (Exp.rows e.children)) 0))]⟩ ?_ ?_
  · by_cases hk : e.kind = 1
    · by_cases h1 : e.name ∈ bound
      · simp (disch := first | omega | (simp; done) | (simp; omega)) [hk, h1, hb1, seeVar, hc]
        done
      · by_cases h2 : e.name ∈ out
        · simp (disch := first | omega | (simp; done) | (simp; omega)) [hk, h1, h2, hb1, hb2, seeVar, hc]
          done
        · simp (disch := first | omega | (simp; done) | (simp; omega)) [hk, h1, h2, hb1, hb2, seeVar, hc]
          done
    · simp (disch := first | omega | (simp; done) | (simp; omega)) [hk, seeVar, hc]
      done
  · simp (disch := first | omega | (simp; done) | (simp; omega))
    refine wp_loop (fun i => ⟨[(0, .sc (.arr 0 (outR e bound out i).length)), (1, strsV bound), (5, .sc (.ptr 64 0)), (7, .sc (.arr 1760 e.children.length)), (8, intV i)], [(0, some (.arr 1 (wr (strRows (outR e bound out i))) 0)), (64, some (.box (wc e.row))), (1760, some (.arr 11 (wr (Exp.rows e.children)) 0))]⟩) e.children.length ?_ ?_ ?_
    · simp [outR]
    · intro i hi
      obtain ⟨x, hx⟩ := get_of_lt hi
      have hmem : x ∈ e.children := List.mem_of_getElem? hx
      have ho := outR_child (bound := bound) (out := out) hx
      have hb := bound_child hx
      have hxp := x.weight_pos
      have h54 := ih x hmem (bound ++ e.bound i) (outR e bound out i) (hw.child hmem) (by simp; omega) (by omega)
      have h91 := bound91 (A := A) e i hw.one hi (by omega)
      rw [e.children_len] at hi hle
      have hi' : (i : Int) < (e.kids.length : Int) + e.arms.length := by omega
      have hlen : (outR e bound out i).length ≤ (freeR x (bound ++ e.bound i) (outR e bound out i)).length := freeR_ge x _ _
      unfold l83_0
      simp (disch := first | omega | (simp; done) | (simp; omega)) [hi', hx, h54, h91, outR_succ hx, hlen, -getElem?_pos]
      done
    · have he := outR_end e bound out
      rw [e.children_len] at he
      unfold l83_0
      simp (disch := first | omega | (simp; done) | (simp; omega)) [he]
      done

theorem free20 (e : Exp) (hw : e.wf) (hl : e.weight ≤ 1073741824) : (K A).call 32 [expV e] [] = some (strsV (freeR e [] []), []) := by
  refine fn_of (vf := v32) (by kernel_rfl) rfl (by simp) ?_
  have h := free54 (A := A) e [] [] hw (by simpa using hl) (by simpa using hl)
  have hn : strRows [] = [] := rfl
  simp [strsV, hn] at h
  unfold v32
  simp [h, hn]

end Go.Vs.Tryz

/- The plain law of the free variables: the program's list is the reference's. -/
namespace Go.Vs.Tryz
open Go Go.Vs

theorem mem_addNew {b out : List Str} {s t : Str} : t ∈ addNew b out s ↔ t ∈ out ∨ (t = s ∧ s ∉ b) := by
  unfold addNew
  split
  · rename_i h
    constructor
    · exact .inl
    · rintro (h1 | ⟨rfl, h1⟩)
      · exact h1
      · exact h.resolve_left h1
  · rename_i h
    have : s ∉ b := fun h1 => h (.inl h1)
    simp [this]
theorem mem_foldNew {b : List Str} : ∀ {l out : List Str} {t : Str}, t ∈ l.foldl (addNew b) out ↔ t ∈ out ∨ (t ∈ l ∧ t ∉ b)
  | [], out, t => by simp
  | s :: l, out, t => by
    rw [List.foldl_cons, mem_foldNew, mem_addNew, List.mem_cons]
    constructor
    · rintro ((h | ⟨rfl, h⟩) | ⟨h1, h2⟩)
      · exact .inl h
      · exact .inr ⟨.inl rfl, h⟩
      · exact .inr ⟨.inr h1, h2⟩
    · rintro (h | ⟨rfl | h1, h2⟩)
      · exact .inl (.inl h)
      · exact .inl (.inr ⟨rfl, h2⟩)
      · exact .inr ⟨h1, h2⟩
theorem addNew_pos {b out : List Str} {s : Str} (h : s ∈ b ∨ s ∈ out) : addNew b out s = out := if_pos h
theorem addNew_neg {b out : List Str} {s : Str} (h : ¬ (s ∈ b ∨ s ∈ out)) : addNew b out s = out ++ [s] := if_neg h
theorem fold_fold {bound b : List Str} : ∀ (l acc out : List Str), (l.foldl (addNew b) acc).foldl (addNew bound) out = l.foldl (addNew (bound ++ b)) (acc.foldl (addNew bound) out)
  | [], acc, out => rfl
  | s :: l, acc, out => by
    rw [List.foldl_cons, List.foldl_cons, fold_fold l]
    congr 1
    by_cases hb : s ∈ b
    · rw [addNew_pos (.inl hb), addNew_pos (.inl (by simp [hb]))]
    · by_cases ha : s ∈ acc
      · rw [addNew_pos (.inr ha)]
        by_cases h : s ∈ bound
        · rw [addNew_pos (.inl (by simp [h]))]
        · rw [addNew_pos (.inr (mem_foldNew.2 (.inr ⟨ha, h⟩)))]
      · rw [addNew_neg (b := b) (fun h => h.elim hb ha), List.foldl_append, List.foldl_cons, List.foldl_nil]
        by_cases h : s ∈ bound ∨ s ∈ acc.foldl (addNew bound) out
        · rw [addNew_pos h, addNew_pos (h.imp (fun h => by simp [h]) id)]
        · rw [addNew_neg h, addNew_neg]
          rintro (h3 | h3)
          · exact (List.mem_append.1 h3).elim (fun h4 => h (.inl h4)) hb
          · exact h (.inr h3)

theorem freeR_free (e : Exp) : e.wf → ∀ bound out : List Str, freeR e bound out = (freeP e).foldl (addNew bound) out := by
  induction e using Exp.ind with
  | h e ih =>
    intro hw bound out
    rw [freeR_eq, freeP_eq]
    by_cases hk : e.kind = 1
    · have hch : e.children = [] := by
        have h1 := hw.one.2.2 hk
        have h2 := hw.one.2.1 (by rw [hk]; decide)
        simp [Exp.children, h1, h2]
      rw [if_pos hk, hch]
      simp only [List.map_nil, List.zipIdx_nil, List.foldl_nil, List.foldl_cons, seeVar, hk, true_and]
      by_cases h : e.name ∈ bound ∨ e.name ∈ out
      · rw [addNew_pos h, if_neg (fun h1 => h.elim h1.1 h1.2)]
      · rw [addNew_neg h, if_pos ⟨fun h1 => h (.inl h1), fun h1 => h (.inr h1)⟩]
    · rw [if_neg hk]
      have hs : seeVar e bound out = out := by
        unfold seeVar
        rw [if_neg (fun h => hk h.1)]
      rw [hs]
      have key : ∀ (l : List Exp) (i : Nat) (acc : List Str), (∀ x ∈ l, x ∈ e.children) → ((l.map freeR).zipIdx i).foldl (stepR e bound) (acc.foldl (addNew bound) out) = (((l.map freeP).zipIdx i).foldl (addAll e) acc).foldl (addNew bound) out := by
        intro l
        induction l with
        | nil => intro i acc _; rfl
        | cons x l ihl =>
          intro i acc hmem
          rw [List.map_cons, List.map_cons, List.zipIdx_cons, List.zipIdx_cons, List.foldl_cons, List.foldl_cons, ← ihl (i + 1) _ fun y hy => hmem y (List.mem_cons_of_mem _ hy)]
          congr 1
          have hx := hmem x (by simp)
          show freeR x (bound ++ e.bound i) _ = ((freeP x).foldl (addNew (e.bound i)) acc).foldl (addNew bound) out
          rw [ih x hx (hw.child hx), fold_fold]
      exact key e.children 0 [] fun x hx => hx

theorem addNew_nodup {b out : List Str} {s : Str} (h : out.Nodup) : (addNew b out s).Nodup := by
  unfold addNew
  split
  · exact h
  · rename_i hn
    rw [List.nodup_append]
    refine ⟨h, by simp, ?_⟩
    intro x hx y hy
    simp only [List.mem_singleton] at hy
    subst hy
    rintro rfl
    exact hn (.inr hx)
theorem foldNew_nodup {b : List Str} : ∀ {l out : List Str}, out.Nodup → (l.foldl (addNew b) out).Nodup
  | [], _, h => h
  | _ :: l, _, h => foldNew_nodup (l := l) (addNew_nodup h)
theorem foldAll_nodup {e : Exp} : ∀ {l : List (List Str × Nat)} {out : List Str}, out.Nodup → (l.foldl (addAll e) out).Nodup
  | [], _, h => h
  | _ :: l, _, h => foldAll_nodup (l := l) (foldNew_nodup h)
theorem freeP_nodup (e : Exp) : (freeP e).Nodup := by
  rw [freeP_eq]
  split
  · simp
  · exact foldAll_nodup List.nodup_nil
theorem foldNew_id : ∀ {l out : List Str}, (out ++ l).Nodup → l.foldl (addNew []) out = out ++ l
  | [], out, _ => by simp
  | s :: l, out, h => by
    have hs : s ∉ out := by
      rw [List.nodup_append] at h
      exact fun hs => h.2.2 s hs s (by simp) rfl
    have he : addNew [] out s = out ++ [s] := by
      unfold addNew
      rw [if_neg (by simpa using hs)]
    rw [List.foldl_cons, he, foldNew_id (by simpa using h)]
    simp

/-- The two lists of free variables are the same. -/
theorem free_same (e : Exp) (hw : e.wf) : freeR e [] [] = freeP e := by
  rw [freeR_free e hw, foldNew_id (by simpa using freeP_nodup e)]
  simp

end Go.Vs.Tryz

/- Making things from plain numbers, walked: Mod, Next, Variable, Type. -/
namespace Go.Vs.Tryz
open Go Go.Vs
variable {A : Oracle}

theorem fn_ofE {f : FuncId} {vf : VFun} {args : List V} {objs : List Obj} (P : V × List Obj → Prop) (hT : T2 f = some vf) (hn : args.length = vf.nparams) (ho : objs.length ≤ 64)
    (h : wp (K A) vf.body (endsQ vf.keep objs.length vf.results P) ⟨enumF 0 args, enumF 0 (objs.map some)⟩) : ∃ r, P r ∧ (K A).call f args objs = some r := lim_wpE P hT hn ho h

def intRows (l : List Int) : List (List Cell) := l.map intRow
@[simp] theorem intRows_len (l : List Int) : (intRows l).length = l.length := by simp [intRows]
@[simp] theorem intRows_get (l : List Int) (i : Nat) : (intRows l)[i]? = (l[i]?).map intRow := by simp [intRows]
@[simp] theorem cut_i (n : Int) : cut (intRow n) 0 1 = some [.int .i64 n] := rfl
/-- A tape: its list, and how many of its choices are read. -/
abbrev tapeO (L : List Int) (I : Nat) : Obj := .box [.c (.sl (intRows L)), .c (.int .i64 I)]
abbrev datasV (ds : List DataD) : V := .sc (.c (.sl (dataRows ds)))
abbrev tyV (t : Ty) : V := .ag (wc t.row)

theorem mod10 (a m : Int) (hm : 0 < m) (hb : m ≤ 1073741824) : ∃ k : Nat, (k : Int) < m ∧ (K A).call 27 [intV a, intV m] [] = some (intV k, []) := by
  have h1 : ¬ m < 1 := by omega
  have h0 : m ≠ 0 := by omega
  have hlt : a.tmod m < m := Int.tmod_lt_of_pos a (by omega)
  have hgt : -m < a.tmod m := Int.lt_tmod_of_pos a (by omega)
  by_cases hneg : a.tmod m < 0
  · refine ⟨(a.tmod m + m).toNat, by omega, ?_⟩
    have hw : ((a.tmod m + m).toNat : Int) = a.tmod m + m := by omega
    rw [hw]
    refine fn_of (vf := v27) (by kernel_rfl) rfl (by simp) ?_
    unfold v27
    simp (disch := first | omega | (simp; done) | (simp; omega)) [h1, h0, hneg]
  · refine ⟨(a.tmod m).toNat, by omega, ?_⟩
    have hw : ((a.tmod m).toNat : Int) = a.tmod m := by omega
    rw [hw]
    refine fn_of (vf := v27) (by kernel_rfl) rfl (by simp) ?_
    unfold v27
    simp (disch := first | omega | (simp; done) | (simp; omega)) [h1, h0, hneg]

theorem next37 (L : List Int) (I : Nat) (n : Int) (hI : I ≤ L.length) (hL : L.length ≤ 1073741824) (hn : 0 < n) (hb : n ≤ 1073741824) :
    ∃ k J : Nat, (k : Int) < n ∧ J ≤ L.length ∧ (K A).call 53 [.sc (.ptr 0 0), intV n] [tapeO L I] = some (intV k, [tapeO L J]) := by
  by_cases h : I < L.length
  · obtain ⟨a, ha⟩ := get_of_lt h
    obtain ⟨k, hk, hc⟩ := mod10 (A := A) a n hn hb
    refine ⟨k, I + 1, hk, h, ?_⟩
    refine fn_of (vf := v53) (by kernel_rfl) rfl (by simp) ?_
    have h1 : ¬ L.length ≤ I := by omega
    unfold v53
    simp (disch := first | omega | (simp; done) | (simp; omega)) [h1, ha, hc, -getElem?_pos]
  · refine ⟨0, I, hn, hI, ?_⟩
    refine fn_of (vf := v53) (by kernel_rfl) rfl (by simp) ?_
    have h1 : L.length ≤ I := by omega
    unfold v53
    simp (disch := first | omega | (simp; done) | (simp; omega)) [h1, -getElem?_pos]

def varNames : List Str := [[120], [121], [122], [102], [103], [118, 49], [118, 50], [105, 100]]
theorem variable38 (L : List Int) (I : Nat) (hI : I ≤ L.length) (hL : L.length ≤ 1073741824) :
    ∃ s J, s ∈ varNames ∧ J ≤ L.length ∧ (K A).call 34 [.sc (.ptr 0 0)] [tapeO L I] = some (strV s, [tapeO L J]) := by
  obtain ⟨k, J, hk, hJ, hc⟩ := next37 (A := A) L I 8 hI hL (by omega) (by omega)
  obtain ⟨s, hs⟩ := get_of_lt (l := varNames) (i := k) (by simp only [varNames, List.length_cons, List.length_nil]; omega)
  refine ⟨s, J, List.mem_of_getElem? hs, hJ, ?_⟩
  refine fn_of (vf := v34) (by kernel_rfl) rfl (by simp) ?_
  have hr : (wr (strRows varNames))[k]? = some [.c (.str s)] := by simp [hs]
  have hw : wr (strRows varNames) = [[.c (.str [120])], [.c (.str [121])], [.c (.str [122])], [.c (.str [102])], [.c (.str [103])], [.c (.str [118, 49])], [.c (.str [118, 50])], [.c (.str [105, 100])]] := rfl
  rw [hw] at hr
  unfold v34
  simp (disch := first | omega | (simp; done) | (simp; omega)) [hc, hr, -getElem?_pos]
  done

theorem con65 (s : Str) (l : List Ty) (hl : l.length ≤ 1073741824) : (K A).call 100 [strV s, .sc (.c (.sl (Ty.rows l)))] [] = some (tyV (.mk 4 s 0 0 l), []) := by
  refine fn_of (vf := v100) (by kernel_rfl) rfl (by simp) ?_
  unfold v100
  cases l with
  | nil =>
    have hn : Ty.rows [] = [] := by rw [Ty.rows]
    simp (disch := first | omega | (simp; done) | (simp; omega)) [hn, Ty.row]
    done
  | cons t l =>
    have hn : Ty.rows (t :: l) = t.row :: Ty.rows l := by rw [Ty.rows]
    have hok := okRows_ty (t :: l)
    rw [hn, wr_cons] at hok
    simp only [List.length_cons] at hl
    simp (disch := first | omega | (simp; done) | (simp; omega)) [hn, hok, Ty.row]
    done

theorem int29 : (K A).call 47 [] [] = some (tyV (.mk 4 [73, 110, 116] 0 0 []), []) := by
  refine fn_of (vf := v47) (by kernel_rfl) rfl (by simp) ?_
  have hn : Ty.rows [] = [] := by rw [Ty.rows]
  have h := con65 (A := A) [73, 110, 116] [] (by simp)
  simp [hn] at h
  unfold v47
  simp (disch := first | omega | (simp; done) | (simp; omega)) [h]
  done

theorem arrow79 (a b : Ty) : (K A).call 128 [tyV a, tyV b] [] = some (tyV (.mk 4 [45, 62] 0 0 [a, b]), []) := by
  refine fn_of (vf := v128) (by kernel_rfl) rfl (by simp) ?_
  have hn : Ty.rows [a, b] = [a.row, b.row] := by simp [Ty.rows]
  have h := con65 (A := A) [45, 62] [a, b] (by simp)
  rw [hn] at h
  unfold v128
  simp (disch := first | omega | (simp; done) | (simp; omega)) [h]
  done

/-- Declarations that something can be made of. -/
def goodD (d : DataD) : Prop := d.params.length ≤ 4 ∧ 1 ≤ d.cons.length ∧ d.cons.length ≤ 6 ∧ ∀ c ∈ d.cons, c.fields.length ≤ 4
def goodDs (ds : List DataD) : Prop := ds.length ≤ 100 ∧ ∀ d ∈ ds, goodD d

def TypeP (L : List Int) (r : V × List Obj) : Prop := ∃ t J, J ≤ L.length ∧ r = (tyV t, [tapeO L J])

/-- Ahead of the i-th argument of a type. -/
def TypeI (L : List Int) (ds : List DataD) (dd : DataD) (d i : Nat) (s : St) : Prop := ∃ tys J, tys.length = i ∧ J ≤ L.length ∧
  s = ⟨[(0, .sc (.ptr 0 0)), (1, datasV ds), (2, .sc (.c (.sl []))), (3, intV (d + 1)), (8, .sc (.ptr 64 0)), (10, .sc (.ptr 3392 0)), (11, .sc (.arr 3521 i)), (12, intV i)],
    [(0, some (tapeO L J)), (64, some (.box [zi, zs, zi, zi, .nil])), (3392, some (.box (wc (dataRow dd)))), (3521, some (.arr 5 (wr (Ty.rows tys)) 0))]⟩

end Go.Vs.Tryz

/- Raw expressions, walked. -/
namespace Go.Vs.Tryz
open Go Go.Vs
variable {A : Oracle}

def tz : Ty := .mk 0 [] 0 0 []
@[simp] theorem strRows0 : strRows [] = [] := rfl
@[simp] theorem rows0 : Exp.rows [] = [] := by rw [Exp.rows]
@[simp] theorem rows1 (x : Exp) : Exp.rows [x] = [x.row] := by rw [Exp.rows, Exp.rows]
@[simp] theorem rows2 (x y : Exp) : Exp.rows [x, y] = [x.row, y.row] := by rw [Exp.rows, Exp.rows, Exp.rows]
@[simp] theorem armRows0 : Exp.armRows [] = [] := by rw [Exp.armRows]
@[simp] theorem tyRows0 : Ty.rows [] = [] := by rw [Ty.rows]

/-- A made expression: well formed, of bounded weight; the tape read on. -/
def RawP (L : List Int) (B : Nat) (r : V × List Obj) : Prop := ∃ e J, e.wf ∧ e.weight ≤ B ∧ J ≤ L.length ∧ r = (expV e, [tapeO L J])

theorem weight_mk (k p n m ks l t) : (Exp.mk k p n m ks l t).weight = 1 + (l.map fun a => a.1.vars.length).sum + ((ks.map Exp.weight).sum + (l.map fun a => a.2.weight).sum) := by
  rw [Exp.weight_eq]
  simp [Exp.children, Exp.arms, Exp.kids, List.map_map, Function.comp_def]

theorem pow_pos32 (d : Nat) : 1 ≤ 32 ^ d := Nat.pos_of_ne_zero (by simp)

/-- Ahead of the i-th arm. -/
def ArmI (L : List Int) (ds : List DataD) (dd : DataD) (x : Exp) (B d i : Nat) (s : St) : Prop := ∃ arms J, arms.length = i ∧ J ≤ L.length ∧ (∀ a ∈ arms, a.2.wf ∧ a.2.weight ≤ B ∧ a.1.vars.length ≤ 4) ∧
  s = ⟨[(0, .sc (.ptr 0 0)), (1, datasV ds), (2, intV (d + 1)), (6, .sc (.ptr 64 0)), (13, .sc (.ptr 10176 0)), (14, .sc (.ptr 10752 0)), (15, intV i)],
    [(0, some (tapeO L J)), (64, some (.box [zi, zi, zs, zi, .nil, .nil, zi, zs, zi, zi, .nil])), (10176, some (.box (wc (dataRow dd)))), (10624, some (.arr 11 [wc x.row] 0)),
      (10752, some (.box [.c (.int .i64 8), zi, zs, zi, .arr 10624 1, .arr 10822 i, zi, zs, zi, zi, .nil])), (10822, some (.arr 14 (wr (Exp.armRows arms)) 0))]⟩
/-- Ahead of the j-th variable of the i-th arm. -/
def VarI (L : List Int) (ds : List DataD) (dd : DataD) (x : Exp) (arms : List (ArmH × Exp)) (con : Str) (d i j : Nat) (s : St) : Prop := ∃ vars J, vars.length = j ∧ J ≤ L.length ∧
  s = ⟨[(0, .sc (.ptr 0 0)), (1, datasV ds), (2, intV (d + 1)), (6, .sc (.ptr 64 0)), (13, .sc (.ptr 10176 0)), (14, .sc (.ptr 10752 0)), (15, intV i), (16, .sc (.ptr 11712 0)), (17, intV j)],
    [(0, some (tapeO L J)), (64, some (.box [zi, zi, zs, zi, .nil, .nil, zi, zs, zi, zi, .nil])), (10176, some (.box (wc (dataRow dd)))), (10624, some (.arr 11 [wc x.row] 0)),
      (10752, some (.box [.c (.int .i64 8), zi, zs, zi, .arr 10624 1, .arr 10822 i, zi, zs, zi, zi, .nil])), (10822, some (.arr 14 (wr (Exp.armRows arms)) 0)),
      (11712, some (.box [zi, .c (.str con), .arr 11779 j, zi, zi, zs, zi, .nil, .nil, zi, zs, zi, zi, .nil])), (11779, some (.arr 1 (wr (strRows vars)) 0))]⟩

theorem wp_assocE {C : Ctx} {a b c : VCode} {Q : Ex → St → Prop} {s : St} (s1 : St) (h1 : wp C a (fun e s => e = .normal ∧ s = s1) s) (h2 : wp C (.seq b c) Q s1) : wp C (.seq (.seq a b) c) Q s := by
  rw [wp_seq, wp_seq]
  refine wp_mono h1 ?_
  rintro e s' ⟨rfl, rfl⟩
  simp only [thenQ]
  rw [wp_seq] at h2
  exact h2

end Go.Vs.Tryz

/- Declarations chosen by bits, two made expressions, and Proper, walked. -/
namespace Go.Vs.Tryz
open Go Go.Vs
variable {A : Oracle}

def DatasP (ds7 : List DataD) (r : V × List Obj) : Prop := ∃ ds, (∀ d ∈ ds, d ∈ ds7) ∧ goodDs ds ∧ r = (datasV ds, [])
def DatasI (bits : Int) (ds7 : List DataD) (i : Nat) (s : St) : Prop := ∃ ds : List DataD, ds.length ≤ i + 1 ∧ (∀ d ∈ ds, d ∈ ds7 ∧ goodD d) ∧
  s = ⟨[(0, intV bits), (3, datasV ds7), (4, .sc (.arr 257 ds.length)), (5, intV i)], [(257, some (.arr 4 (wr (dataRows ds)) 0))]⟩
@[simp] theorem dataRows0 : dataRows [] = [] := rfl
@[simp] theorem dataRows1 (d : DataD) : wr (dataRows [d]) = [wc (dataRow d)] := rfl

set_option maxHeartbeats 2000000 in
theorem datas21 (bits : Int) (ds7 : List DataD) (h7 : ds7.length = 7) (hg : ∀ d ∈ ds7, goodD d) (h55 : (K A).call 71 [] [] = some (datasV ds7, [])) :
    ∃ r, DatasP ds7 r ∧ (K A).call 23 [intV bits] [] = some r := by
  refine fn_ofE _ (vf := v23) (by kernel_rfl) rfl (by simp) ?_
  obtain ⟨d1, hd1⟩ := get_of_lt (l := ds7) (i := 1) (by omega)
  have hgd1 := hg d1 (List.mem_of_getElem? hd1)
  have fin : ∀ s, DatasI bits ds7 0 s → wp (K A) (.loop l23_0) (blockQ 0 (thenQ (K A) (.seq (.region [] [o 44 (.mv (tv 4)), o 2 (.mv (tv 44))] [] [2]) .ret) (endsQ false 0 [.tmp 2] (DatasP ds7)))) s := by
    intro s hs
    refine wp_loopI (DatasI bits ds7) 7 hs ?_ ?_
    · rintro i s hi ⟨ds, hds1, hds2, rfl⟩
      obtain ⟨d, hd⟩ := get_of_lt (l := ds7) (i := i) (by omega)
      have hgd := hg d (List.mem_of_getElem? hd)
      have hi2 : (i : Int) < 7 := by omega
      unfold l23_0
      by_cases hi1 : i = 1
      · subst hi1
        simp (disch := first | omega | (simp; done) | (simp; omega)) [h7, hd, -getElem?_pos]
        exact ⟨ds, by omega, hds2, by simp⟩
      · have hi1' : ¬ (i : Int) = 1 := by omega
        by_cases hb : andI .i64 (shrI .i64 bits i) 1 = 1
        · simp (disch := first | omega | (simp; done) | (simp; omega)) [h7, hd, hi2, hi1', hb, -getElem?_pos]
          refine ⟨ds ++ [d], by simp; omega, ?_, by simp⟩
          intro x hx
          rcases List.mem_append.1 hx with hx | hx
          · exact hds2 x hx
          · simp only [List.mem_singleton] at hx
            exact hx ▸ ⟨List.mem_of_getElem? hd, hgd⟩
        · simp (disch := first | omega | (simp; done) | (simp; omega)) [h7, hd, hi2, hi1', hb, -getElem?_pos]
          exact ⟨ds, by omega, hds2, by simp⟩
    · rintro s ⟨ds, hds1, hds2, rfl⟩
      unfold l23_0
      simp (disch := first | omega | (simp; done) | (simp; omega)) [h7, -getElem?_pos]
      exact ⟨ds, fun d hd => (hds2 d hd).1, ⟨by omega, fun d hd => (hds2 d hd).2⟩, rfl⟩
  unfold v23
  by_cases h1 : andI .i64 bits 2 = 0
  · by_cases h2 : andI .i64 bits 64 = 0
    · simp (disch := first | omega | (simp; done) | (simp; omega)) [h55, h1, h2, -getElem?_pos]
      exact fin _ ⟨[], by simp, by simp, by simp⟩
    · simp (disch := first | omega | (simp; done) | (simp; omega)) [h55, h1, h2, h7, hd1, -getElem?_pos]
      exact fin _ ⟨[d1], by simp, by simp [hgd1, List.mem_of_getElem? hd1], by simp⟩
  · simp (disch := first | omega | (simp; done) | (simp; omega)) [h55, h1, h7, hd1, -getElem?_pos]
    exact fin _ ⟨[d1], by simp, by simp [hgd1, List.mem_of_getElem? hd1], by simp⟩

def MadeP (L : List Int) (r : V × List Obj) : Prop := ∃ a b J, a.wf ∧ a.weight ≤ 32 ^ 4 ∧ b.wf ∧ b.weight ≤ 32 ^ 3 ∧ J ≤ L.length ∧ r = (.tu [expV a, expV b, .sc (.ptr 0 0)], [tapeO L J])

def BoolP (r : V × List Obj) : Prop := ∃ b, r = (boolV b, [])

end Go.Vs.Tryz
