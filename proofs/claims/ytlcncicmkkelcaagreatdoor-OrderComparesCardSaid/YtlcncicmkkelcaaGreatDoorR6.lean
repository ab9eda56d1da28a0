/- Chapters 4 and 11, walked: children. (Parts of one proof, put together.) -/
import Derived.Test.YtlcncicmkkelcaaGreatDoorR4
import Derived.Test.YtlcncicmkkelcaaGreatDoorM5
set_option linter.unusedSimpArgs false
set_option linter.unusedVariables false
set_option linter.deprecated false

/- Chapters 4 and 11, walked: children. -/
namespace Go.Vs.Tryz
open Go Go.Vs

/-- The functions whose answers are given: the examples, and all data declarations. -/
def skip (f : Nat) : Bool := f == 19 || f == 12 || f == 71
def T2 : FuncId → Option VFun := fun f => bif skip f then none else T f
theorem T2_ok : ∀ f vf, T2 f = some vf → mFun Go.Proofs.Tryz.prog f vf = true := by
  intro f vf h
  unfold T2 at h
  cases hs : skip f with
  | true => rw [hs] at h; cases h
  | false => rw [hs] at h; exact T_ok f vf h

/-- The copies of slices and strings. -/
noncomputable def X1 : Oracle := fun f args objs => match objs with
  | _ :: _ => lim Tc (fun _ _ _ => none) gl0 f args objs
  | [] => match args with
    | [.sc (.c (.str l))] => bif f == 233 && Nat.ble l.length 281474976710656 then some (.sc (.c (.str l)), []) else none
    | [.sc (.c (.sl []))] => bif isClone f then some (.sc (.full []), []) else bif isClone2 f then some (.sc (.c (.sl [])), []) else none
    | _ => lim Tc (fun _ _ _ => none) gl0 f args objs
noncomputable def X2 (A : Oracle) : Oracle := fun f args objs => bif skip f then A f args objs else X1 f args objs

theorem limTc_ok {f : FuncId} {args : List V} {objs : List Obj} {rv : V} {objs' : List Obj} (h : lim Tc (fun _ _ _ => none) gl0 f args objs = some (rv, objs')) : FnOk Go.Proofs.Tryz.prog gl0 f args objs rv objs' := by
  obtain ⟨n, h⟩ := lim_ex h
  exact evalN_ok follows Tc_ok X_none n h

theorem X2_ok {A : Oracle} (hA : ∀ f args objs rv objs', skip f = true → A f args objs = some (rv, objs') → FnOk Go.Proofs.Tryz.prog gl0 f args objs rv objs') :
    ∀ (f : FuncId) (args : List V) (objs : List Obj) (rv : V) (objs' : List Obj), X2 A f args objs = some (rv, objs') → FnOk Go.Proofs.Tryz.prog gl0 f args objs rv objs' := by
  intro f args objs rv objs' h
  unfold X2 at h
  cases hs : skip f with
  | true => rw [hs] at h; exact hA _ _ _ _ _ hs h
  | false =>
    rw [hs] at h
    simp only [cond_false] at h
    unfold X1 at h
    split at h
    · exact limTc_ok h
    · split at h
      · rename_i l
        cases hc : (f == 233 && Nat.ble l.length 281474976710656) with
        | false => rw [hc] at h; cases h
        | true =>
          rw [hc] at h
          simp only [cond_true, Option.some.injEq, Prod.mk.injEq] at h
          simp only [Bool.and_eq_true, beq_iff_eq] at hc
          obtain ⟨rfl, rfl⟩ := h
          obtain ⟨rfl, hl⟩ := hc
          exact ok202 (Nat.le_of_ble_eq_true hl)
      · cases hc : isClone f with
        | false =>
          rw [hc] at h
          simp only [cond_false] at h
          cases hc2 : isClone2 f with
          | false => rw [hc2] at h; cases h
          | true =>
            rw [hc2] at h
            simp only [cond_true, Option.some.injEq, Prod.mk.injEq] at h
            obtain ⟨rfl, rfl⟩ := h
            exact clone2_of hc2
        | true =>
          rw [hc] at h
          simp only [cond_true, Option.some.injEq, Prod.mk.injEq] at h
          obtain ⟨rfl, rfl⟩ := h
          exact clone_of hc
      · exact limTc_ok h

noncomputable def K (A : Oracle) : Ctx := ⟨lim T2 (X2 A) gl0, gl0⟩
noncomputable def Kc : Ctx := ⟨lim Tc (fun _ _ _ => none) gl0, gl0⟩
@[simp] theorem K_gl {A : Oracle} : (K A).gl = gl0 := rfl
@[simp] theorem Kc_gl : Kc.gl = gl0 := rfl

/-- What the functions say, the program does. -/
theorem K_ok {A : Oracle} (hA : ∀ f args objs rv objs', skip f = true → A f args objs = some (rv, objs') → FnOk Go.Proofs.Tryz.prog gl0 f args objs rv objs')
    {f : FuncId} {args : List V} {objs : List Obj} {rv : V} {objs' : List Obj} (h : (K A).call f args objs = some (rv, objs')) : FnOk Go.Proofs.Tryz.prog gl0 f args objs rv objs' := by
  obtain ⟨n, h⟩ := lim_ex h
  exact evalN_ok follows T2_ok (X2_ok hA) n h

variable {A : Oracle}
/-- A function of the table, from its body. -/
theorem fn_of {f : FuncId} {vf : VFun} {args : List V} {objs : List Obj} {r : V × List Obj} (hT : T2 f = some vf) (hn : args.length = vf.nparams) (ho : objs.length ≤ 64)
    (h : wp (K A) vf.body (doneQ vf.keep objs.length vf.results r) ⟨enumF 0 args, enumF 0 (objs.map some)⟩) : (K A).call f args objs = some r := lim_wp hT hn ho h
theorem clone_fn {f : FuncId} {vf : VFun} {args : List V} {objs : List Obj} {r : V × List Obj} (hT : Tc f = some vf) (hn : args.length = vf.nparams) (ho : objs.length ≤ 64)
    (h : wp Kc vf.body (doneQ vf.keep objs.length vf.results r) ⟨enumF 0 args, enumF 0 (objs.map some)⟩) : Kc.call f args objs = some r := lim_wp hT hn ho h

theorem clone_data {f : FuncId} (hs : skip f = false) (hT : T2 f = none) {c : List Cell} {rows : List (List Cell)} : (K A).call f [.sc (.c (.sl (c :: rows)))] [] = Kc.call f [.sc (.c (.sl (c :: rows)))] [] := by
  have h : X2 A f [.sc (.c (.sl (c :: rows)))] [] = Kc.call f [.sc (.c (.sl (c :: rows)))] [] := by
    unfold X2
    rw [hs]
    rfl
  rw [← h]
  cases hx : X2 A f [.sc (.c (.sl (c :: rows)))] [] with
  | some r => exact lim_X hT hx
  | none =>
    cases hk : (K A).call f [.sc (.c (.sl (c :: rows)))] [] with
    | none => rfl
    | some r =>
      obtain ⟨n, hn⟩ := lim_ex hk
      cases n with
      | zero => cases hn
      | succ n =>
        simp only [evalN, hT] at hn
        rw [hx] at hn
        cases hn
theorem clone_nil {f : FuncId} (hs : skip f = false) (hT : T2 f = none) (hf : isClone f = true) : (K A).call f [.sc (.c (.sl []))] [] = some (.sc (.full []), []) := by
  refine lim_X hT ?_
  simp only [X2, X1, hs, cond_false, hf, cond_true]

end Go.Vs.Tryz

/- Lists of names, walked: has, Contains, Index, same, Few. -/
namespace Go.Vs.Tryz
open Go Go.Vs

variable {A : Oracle}
abbrev strsV (l : List Str) : V := .sc (.c (.sl (strRows l)))
abbrev strV (s : Str) : V := .sc (.c (.str s))
abbrev intV (n : Int) : V := .sc (.c (.int .i64 n))
abbrev boolV (b : Bool) : V := .sc (.c (.bool b))
abbrev expV (e : Exp) : V := .ag (wc e.row)

@[simp] theorem wc_strRow (s : Str) : wc (strRow s) = [.c (.str s)] := rfl
@[simp] theorem wc_intRow (n : Int) : wc (intRow n) = [.c (.int .i64 n)] := rfl

/-- The first place of a name. -/
def place (l : List Str) (s : Str) : Nat := l.findIdx (· == s)
theorem place_lt {l : List Str} {s : Str} {i : Nat} (h : i < place l s) : ∃ x, l[i]? = some x ∧ ¬ x = s := by
  have hlt : i < l.length := Nat.lt_of_lt_of_le h List.findIdx_le_length
  refine ⟨l[i], List.getElem?_eq_getElem hlt, ?_⟩
  have := List.not_of_lt_findIdx h
  simpa using this
theorem place_at {l : List Str} {s : Str} (h : place l s < l.length) : l[place l s]? = some s := by
  have h1 := List.findIdx_getElem (w := h)
  rw [List.getElem?_eq_getElem h]
  exact congrArg some (beq_iff_eq.1 h1)
theorem place_mem {l : List Str} {s : Str} : place l s < l.length ↔ s ∈ l := by
  unfold place
  rw [List.findIdx_lt_length]
  simp
theorem place_le (l : List Str) (s : Str) : place l s ≤ l.length := List.findIdx_le_length

theorem index42 (l : List Str) (s : Str) (h : l.length ≤ 4294967296) : (K A).call 107 [strsV l, strV s] [] = some (intV (if s ∈ l then (place l s : Int) else -1), []) := by
  refine fn_of (vf := v107) (by kernel_rfl) rfl (by decide) ?_
  unfold v107
  have hp := place_le l s
  simp (disch := first | omega | (simp; done) | (simp; omega))
  refine wp_loop (fun i => ⟨[(0, strsV l), (1, strV s), (7, intV l.length), (8, intV i)], []⟩) (place l s) ?_ ?_ ?_
  · simp
  · intro i hi
    obtain ⟨x, hx, hne⟩ := place_lt hi
    have hlt : i < l.length := by omega
    have hne' : ¬ s = x := fun h => hne h.symm
    unfold l107_0
    simp (disch := first | omega | (simp; done) | (simp; omega)) [hx, hne', hlt, -getElem?_pos]
  · unfold l107_0
    by_cases hm : place l s < l.length
    · have hx := place_at hm
      simp (disch := first | omega | (simp; done) | (simp; omega)) [hx, hm, place_mem.1 hm, -getElem?_pos]
    · have hn : s ∉ l := fun h => hm (place_mem.2 h)
      simp (disch := first | omega | (simp; done) | (simp; omega)) [hm, hn, -getElem?_pos]

theorem few8 (l : List Int) : (K A).call 13 [.sc (.c (.sl (l.map intRow)))] [] = some (boolV (decide (l.length ≤ 60)), []) := by
  refine fn_of (vf := v13) (by kernel_rfl) rfl (by decide) ?_
  unfold v13
  simp
  omega

/-- The first place where two lists of names differ. -/
def differ : List Str → List Str → Nat
  | a :: l, b :: m => if a = b then differ l m + 1 else 0
  | _, _ => 0

end Go.Vs.Tryz

/- The children of an expression, and the names that it binds in them, walked. -/
namespace Go.Vs.Tryz
open Go Go.Vs
variable {A : Oracle}

theorem rows_cons {l : List Exp} (h : l ≠ []) : ∃ c rows, Exp.rows l = c :: rows := by
  cases l with
  | nil => exact absurd rfl h
  | cons e r => exact ⟨e.row, Exp.rows r, by rw [Exp.rows]⟩

theorem clone88 (l : List Exp) (h : l ≠ []) (hl : l.length ≤ 4294967296) : (K A).call 140 [.sc (.c (.sl (Exp.rows l)))] [] = some (.sc (.arr 0 l.length), [.arr 11 (wr (Exp.rows l)) 0]) := by
  obtain ⟨c, rows, hr⟩ := rows_cons h
  have hlen : rows.length + 1 = l.length := by
    have := Exp.rows_len l
    rw [hr] at this
    simpa using this
  have hok : okRows 11 (wr (c :: rows)) = true := hr ▸ okRows_exp l
  rw [hr, clone_data (by kernel_rfl) (by kernel_rfl)]
  refine clone_fn (vf := v140) (by kernel_rfl) rfl (by decide) ?_
  unfold v140
  rw [wr_cons] at hok
  simp (disch := first | omega | (simp; done) | (simp; omega)) [hok]
  omega

theorem children51_leaf (e : Exp) (h1 : e.kids = []) (h2 : e.arms = []) : (K A).call 79 [expV e] [] = some (.sc (.full []), []) := by
  refine fn_of (vf := v79) (by kernel_rfl) rfl (by decide) ?_
  have hc := clone_nil (A := A) (f := 140) (by kernel_rfl) (by kernel_rfl) (by kernel_rfl)
  have hn : Exp.rows [] = [] := by rw [Exp.rows]
  unfold v79
  simp [h1, hn, hc]
  refine wp_loop (fun i => ⟨[(3, .sc (.full [])), (10, .sc (.c (.sl (Exp.armRows e.arms)))), (11, intV e.arms.length), (12, intV i)], [(64, some (.box (wc e.row)))]⟩) 0 ?_ ?_ ?_
  · simp
  · intro i hi; omega
  · unfold l79_0
    simp [h2]

theorem children51 (e : Exp) (h : e.kids ≠ []) (hl : e.weight ≤ 1073741824) : (K A).call 79 [expV e] [] = some (.sc (.arr 0 e.children.length), [.arr 11 (wr (Exp.rows e.children)) 0]) := by
  refine fn_of (vf := v79) (by kernel_rfl) rfl (by decide) ?_
  have hk := e.children_le
  rw [e.children_len] at hk
  have hc := clone88 (A := A) e.kids h (by omega)
  unfold v79
  simp [hc]
  refine wp_loop (fun i => ⟨[(3, .sc (.arr 352 (e.kids.length + i))), (10, .sc (.c (.sl (Exp.armRows e.arms)))), (11, intV e.arms.length), (12, intV i)], 
    [(64, some (.box (wc e.row))), (352, some (.arr 11 (wr (Exp.rows (e.kids ++ (e.arms.map (·.2)).take i))) 0))]⟩) e.arms.length ?_ ?_ ?_
  · simp
  · intro i hi
    obtain ⟨x, hx⟩ := get_of_lt hi
    have hx' : (e.arms.map (·.2))[i]? = some x.2 := by simp [hx]
    unfold l79_0
    simp (disch := first | omega | (simp; done) | (simp; omega)) [hi, hx, take_next hx', Nat.add_assoc, -getElem?_pos]
    done
  · unfold l79_0
    have ht : (e.arms.map (·.2)).take e.arms.length = e.arms.map (·.2) := List.take_of_length_le (by simp)
    simp (disch := first | omega | (simp; done) | (simp; omega)) [Exp.children, ht]
    done

abbrev pathV (i : Int) : V := .sc (.c (.sl [[.int .i64 i]]))

end Go.Vs.Tryz

/- The visible names, and the free variables, walked. -/
namespace Go.Vs.Tryz
open Go Go.Vs
variable {A : Oracle}

end Go.Vs.Tryz

/- The free variables by the program, walked. -/
namespace Go.Vs.Tryz
open Go Go.Vs
variable {A : Oracle}

/-- One more name, if it is new and not hidden. -/
def addNew (hidden out : List Str) (s : Str) : List Str := if s ∈ hidden ∨ s ∈ out then out else out ++ [s]
def addAll (e : Exp) (out : List Str) (p : List Str × Nat) : List Str := p.1.foldl (addNew (e.bound p.2)) out
/-- The free variables, in the program's way. -/
def freeP (e : Exp) : List Str := e.fold fun e l => if e.kind = 1 then [e.name] else l.zipIdx.foldl (addAll e) []

theorem sum_take {l : List Nat} {i : Nat} : (l.take i).sum ≤ l.sum := by
  have : l.sum = (l.take i).sum + (l.drop i).sum := by rw [← List.sum_append, List.take_append_drop]
  omega
theorem sum_le {α : Type} {f g : α → Nat} : ∀ {l : List α}, (∀ x ∈ l, f x ≤ g x) → (l.map f).sum ≤ (l.map g).sum
  | [], _ => by simp
  | a :: l, h => by
    have h1 := h a (by simp)
    have h2 := sum_le (l := l) fun x hx => h x (by simp [hx])
    simp only [List.map_cons, List.sum_cons]
    omega
/-- The list ahead of the i-th child. -/
def outP (e : Exp) (i : Nat) : List Str := ((e.children.map freeP).zipIdx.take i).foldl (addAll e) []

end Go.Vs.Tryz

/- The free variables by the reference, walked. -/
namespace Go.Vs.Tryz
open Go Go.Vs
variable {A : Oracle}

/-- A variable that is free here. -/
def seeVar (e : Exp) (bound out : List Str) : List Str := if e.kind = 1 ∧ e.name ∉ bound ∧ e.name ∉ out then out ++ [e.name] else out
def stepR (e : Exp) (bound : List Str) (out : List Str) (p : (List Str → List Str → List Str) × Nat) : List Str := p.1 (bound ++ e.bound p.2) out
/-- The free variables, in the reference's way. -/
def freeR (e : Exp) : List Str → List Str → List Str := e.fold fun e l bound out => l.zipIdx.foldl (stepR e bound) (seeVar e bound out)
/-- The list ahead of the i-th child. -/
def outR (e : Exp) (bound out : List Str) (i : Nat) : List Str := ((e.children.map freeR).zipIdx.take i).foldl (stepR e bound) (seeVar e bound out)
theorem bound_child {e x : Exp} {i : Nat} (hx : e.children[i]? = some x) : (e.bound i).length + x.weight ≤ e.weight := by
  have h1 := sum_mem (f := Exp.weight) (List.mem_of_getElem? hx)
  have h2 : (e.bound i).length ≤ 1 + (e.arms.map fun a => a.1.vars.length).sum := by
    unfold Exp.bound
    split
    · simp
    · split
      · cases h : e.arms[i - 1]? with
        | none => simp
        | some a =>
          have := sum_mem (f := fun a : ArmH × Exp => a.1.vars.length) (List.mem_of_getElem? h)
          simp only [Option.map_some, Option.getD_some]
          omega
      · simp
  rw [e.weight_eq]
  omega

end Go.Vs.Tryz

/- The plain law of the free variables: the program's list is the reference's. -/
namespace Go.Vs.Tryz
open Go Go.Vs

end Go.Vs.Tryz

/- Making things from plain numbers, walked: Mod, Next, Variable, Type. -/
namespace Go.Vs.Tryz
open Go Go.Vs
variable {A : Oracle}

theorem fn_ofE {f : FuncId} {vf : VFun} {args : List V} {objs : List Obj} (P : V × List Obj → Prop) (hT : T2 f = some vf) (hn : args.length = vf.nparams) (ho : objs.length ≤ 64)
    (h : wp (K A) vf.body (endsQ vf.keep objs.length vf.results P) ⟨enumF 0 args, enumF 0 (objs.map some)⟩) : ∃ r, P r ∧ (K A).call f args objs = some r := lim_wpE P hT hn ho h

def intRows (l : List Int) : List (List Cell) := l.map intRow
@[simp] theorem intRows_len (l : List Int) : (intRows l).length = l.length := by simp [intRows]
@[simp] theorem intRows_get (l : List Int) (i : Nat) : (intRows l)[i]? = (l[i]?).map intRow := by simp [intRows]
@[simp] theorem cut_i (n : Int) : cut (intRow n) 0 1 = some [.int .i64 n] := rfl
/-- A tape: its list, and how many of its choices are read. -/
abbrev tapeO (L : List Int) (I : Nat) : Obj := .box [.c (.sl (intRows L)), .c (.int .i64 I)]
abbrev datasV (ds : List DataD) : V := .sc (.c (.sl (dataRows ds)))
abbrev tyV (t : Ty) : V := .ag (wc t.row)

theorem mod10 (a m : Int) (hm : 0 < m) (hb : m ≤ 1073741824) : ∃ k : Nat, (k : Int) < m ∧ (K A).call 27 [intV a, intV m] [] = some (intV k, []) := by
  have h1 : ¬ m < 1 := by omega
  have h0 : m ≠ 0 := by omega
  have hlt : a.tmod m < m := Int.tmod_lt_of_pos a (by omega)
  have hgt : -m < a.tmod m := Int.lt_tmod_of_pos a (by omega)
  by_cases hneg : a.tmod m < 0
  · refine ⟨(a.tmod m + m).toNat, by omega, ?_⟩
    have hw : ((a.tmod m + m).toNat : Int) = a.tmod m + m := by omega
    rw [hw]
    refine fn_of (vf := v27) (by kernel_rfl) rfl (by simp) ?_
    unfold v27
    simp (disch := first | omega | (simp; done) | (simp; omega)) [h1, h0, hneg]
  · refine ⟨(a.tmod m).toNat, by omega, ?_⟩
    have hw : ((a.tmod m).toNat : Int) = a.tmod m := by omega
    rw [hw]
    refine fn_of (vf := v27) (by kernel_rfl) rfl (by simp) ?_
    unfold v27
    simp (disch := first | omega | (simp; done) | (simp; omega)) [h1, h0, hneg]

theorem next37 (L : List Int) (I : Nat) (n : Int) (hI : I ≤ L.length) (hL : L.length ≤ 1073741824) (hn : 0 < n) (hb : n ≤ 1073741824) :
    ∃ k J : Nat, (k : Int) < n ∧ J ≤ L.length ∧ (K A).call 53 [.sc (.ptr 0 0), intV n] [tapeO L I] = some (intV k, [tapeO L J]) := by
  by_cases h : I < L.length
  · obtain ⟨a, ha⟩ := get_of_lt h
    obtain ⟨k, hk, hc⟩ := mod10 (A := A) a n hn hb
    refine ⟨k, I + 1, hk, h, ?_⟩
    refine fn_of (vf := v53) (by kernel_rfl) rfl (by simp) ?_
    have h1 : ¬ L.length ≤ I := by omega
    unfold v53
    simp (disch := first | omega | (simp; done) | (simp; omega)) [h1, ha, hc, -getElem?_pos]
  · refine ⟨0, I, hn, hI, ?_⟩
    refine fn_of (vf := v53) (by kernel_rfl) rfl (by simp) ?_
    have h1 : L.length ≤ I := by omega
    unfold v53
    simp (disch := first | omega | (simp; done) | (simp; omega)) [h1, -getElem?_pos]

def varNames : List Str := [[120], [121], [122], [102], [103], [118, 49], [118, 50], [105, 100]]
theorem variable38 (L : List Int) (I : Nat) (hI : I ≤ L.length) (hL : L.length ≤ 1073741824) :
    ∃ s J, s ∈ varNames ∧ J ≤ L.length ∧ (K A).call 34 [.sc (.ptr 0 0)] [tapeO L I] = some (strV s, [tapeO L J]) := by
  obtain ⟨k, J, hk, hJ, hc⟩ := next37 (A := A) L I 8 hI hL (by omega) (by omega)
  obtain ⟨s, hs⟩ := get_of_lt (l := varNames) (i := k) (by simp only [varNames, List.length_cons, List.length_nil]; omega)
  refine ⟨s, J, List.mem_of_getElem? hs, hJ, ?_⟩
  refine fn_of (vf := v34) (by kernel_rfl) rfl (by simp) ?_
  have hr : (wr (strRows varNames))[k]? = some [.c (.str s)] := by simp [hs]
  have hw : wr (strRows varNames) = [[.c (.str [120])], [.c (.str [121])], [.c (.str [122])], [.c (.str [102])], [.c (.str [103])], [.c (.str [118, 49])], [.c (.str [118, 50])], [.c (.str [105, 100])]] := rfl
  rw [hw] at hr
  unfold v34
  simp (disch := first | omega | (simp; done) | (simp; omega)) [hc, hr, -getElem?_pos]
  done

theorem con65 (s : Str) (l : List Ty) (hl : l.length ≤ 1073741824) : (K A).call 100 [strV s, .sc (.c (.sl (Ty.rows l)))] [] = some (tyV (.mk 4 s 0 0 l), []) := by
  refine fn_of (vf := v100) (by kernel_rfl) rfl (by simp) ?_
  unfold v100
  cases l with
  | nil =>
    have hn : Ty.rows [] = [] := by rw [Ty.rows]
    simp (disch := first | omega | (simp; done) | (simp; omega)) [hn, Ty.row]
    done
  | cons t l =>
    have hn : Ty.rows (t :: l) = t.row :: Ty.rows l := by rw [Ty.rows]
    have hok := okRows_ty (t :: l)
    rw [hn, wr_cons] at hok
    simp only [List.length_cons] at hl
    simp (disch := first | omega | (simp; done) | (simp; omega)) [hn, hok, Ty.row]
    done

theorem int29 : (K A).call 47 [] [] = some (tyV (.mk 4 [73, 110, 116] 0 0 []), []) := by
  refine fn_of (vf := v47) (by kernel_rfl) rfl (by simp) ?_
  have hn : Ty.rows [] = [] := by rw [Ty.rows]
  have h := con65 (A := A) [73, 110, 116] [] (by simp)
  simp [hn] at h
  unfold v47
  simp (disch := first | omega | (simp; done) | (simp; omega)) [h]
  done

theorem arrow79 (a b : Ty) : (K A).call 128 [tyV a, tyV b] [] = some (tyV (.mk 4 [45, 62] 0 0 [a, b]), []) := by
  refine fn_of (vf := v128) (by kernel_rfl) rfl (by simp) ?_
  have hn : Ty.rows [a, b] = [a.row, b.row] := by simp [Ty.rows]
  have h := con65 (A := A) [45, 62] [a, b] (by simp)
  rw [hn] at h
  unfold v128
  simp (disch := first | omega | (simp; done) | (simp; omega)) [h]
  done

/-- Declarations that something can be made of. -/
def goodD (d : DataD) : Prop := d.params.length ≤ 4 ∧ 1 ≤ d.cons.length ∧ d.cons.length ≤ 6 ∧ ∀ c ∈ d.cons, c.fields.length ≤ 4
def goodDs (ds : List DataD) : Prop := ds.length ≤ 100 ∧ ∀ d ∈ ds, goodD d

def TypeP (L : List Int) (r : V × List Obj) : Prop := ∃ t J, J ≤ L.length ∧ r = (tyV t, [tapeO L J])

/-- Ahead of the i-th argument of a type. -/
def TypeI (L : List Int) (ds : List DataD) (dd : DataD) (d i : Nat) (s : St) : Prop := ∃ tys J, tys.length = i ∧ J ≤ L.length ∧
  s = ⟨[(0, .sc (.ptr 0 0)), (1, datasV ds), (2, .sc (.c (.sl []))), (3, intV (d + 1)), (8, .sc (.ptr 64 0)), (10, .sc (.ptr 3392 0)), (11, .sc (.arr 3521 i)), (12, intV i)],
    [(0, some (tapeO L J)), (64, some (.box [zi, zs, zi, zi, .nil])), (3392, some (.box (wc (dataRow dd)))), (3521, some (.arr 5 (wr (Ty.rows tys)) 0))]⟩

end Go.Vs.Tryz

/- Raw expressions, walked. -/
namespace Go.Vs.Tryz
open Go Go.Vs
variable {A : Oracle}

def tz : Ty := .mk 0 [] 0 0 []
@[simp] theorem strRows0 : strRows [] = [] := rfl
@[simp] theorem rows0 : Exp.rows [] = [] := by rw [Exp.rows]
@[simp] theorem rows1 (x : Exp) : Exp.rows [x] = [x.row] := by rw [Exp.rows, Exp.rows]
@[simp] theorem rows2 (x y : Exp) : Exp.rows [x, y] = [x.row, y.row] := by rw [Exp.rows, Exp.rows, Exp.rows]
@[simp] theorem armRows0 : Exp.armRows [] = [] := by rw [Exp.armRows]
@[simp] theorem tyRows0 : Ty.rows [] = [] := by rw [Ty.rows]

/-- A made expression: well formed, of bounded weight; the tape read on. -/
def RawP (L : List Int) (B : Nat) (r : V × List Obj) : Prop := ∃ e J, e.wf ∧ e.weight ≤ B ∧ J ≤ L.length ∧ r = (expV e, [tapeO L J])

theorem weight_mk (k p n m ks l t) : (Exp.mk k p n m ks l t).weight = 1 + (l.map fun a => a.1.vars.length).sum + ((ks.map Exp.weight).sum + (l.map fun a => a.2.weight).sum) := by
  rw [Exp.weight_eq]
  simp [Exp.children, Exp.arms, Exp.kids, List.map_map, Function.comp_def]

theorem pow_pos32 (d : Nat) : 1 ≤ 32 ^ d := Nat.pos_of_ne_zero (by simp)

/-- Ahead of the i-th arm. -/
def ArmI (L : List Int) (ds : List DataD) (dd : DataD) (x : Exp) (B d i : Nat) (s : St) : Prop := ∃ arms J, arms.length = i ∧ J ≤ L.length ∧ (∀ a ∈ arms, a.2.wf ∧ a.2.weight ≤ B ∧ a.1.vars.length ≤ 4) ∧
  s = ⟨[(0, .sc (.ptr 0 0)), (1, datasV ds), (2, intV (d + 1)), (6, .sc (.ptr 64 0)), (13, .sc (.ptr 10176 0)), (14, .sc (.ptr 10752 0)), (15, intV i)],
    [(0, some (tapeO L J)), (64, some (.box [zi, zi, zs, zi, .nil, .nil, zi, zs, zi, zi, .nil])), (10176, some (.box (wc (dataRow dd)))), (10624, some (.arr 11 [wc x.row] 0)),
      (10752, some (.box [.c (.int .i64 8), zi, zs, zi, .arr 10624 1, .arr 10822 i, zi, zs, zi, zi, .nil])), (10822, some (.arr 14 (wr (Exp.armRows arms)) 0))]⟩
/-- Ahead of the j-th variable of the i-th arm. -/
def VarI (L : List Int) (ds : List DataD) (dd : DataD) (x : Exp) (arms : List (ArmH × Exp)) (con : Str) (d i j : Nat) (s : St) : Prop := ∃ vars J, vars.length = j ∧ J ≤ L.length ∧
  s = ⟨[(0, .sc (.ptr 0 0)), (1, datasV ds), (2, intV (d + 1)), (6, .sc (.ptr 64 0)), (13, .sc (.ptr 10176 0)), (14, .sc (.ptr 10752 0)), (15, intV i), (16, .sc (.ptr 11712 0)), (17, intV j)],
    [(0, some (tapeO L J)), (64, some (.box [zi, zi, zs, zi, .nil, .nil, zi, zs, zi, zi, .nil])), (10176, some (.box (wc (dataRow dd)))), (10624, some (.arr 11 [wc x.row] 0)),
      (10752, some (.box [.c (.int .i64 8), zi, zs, zi, .arr 10624 1, .arr 10822 i, zi, zs, zi, zi, .nil])), (10822, some (.arr 14 (wr (Exp.armRows arms)) 0)),
      (11712, some (.box [zi, .c (.str con), .arr 11779 j, zi, zi, zs, zi, .nil, .nil, zi, zs, zi, zi, .nil])), (11779, some (.arr 1 (wr (strRows vars)) 0))]⟩

theorem wp_assocE {C : Ctx} {a b c : VCode} {Q : Ex → St → Prop} {s : St} (s1 : St) (h1 : wp C a (fun e s => e = .normal ∧ s = s1) s) (h2 : wp C (.seq b c) Q s1) : wp C (.seq (.seq a b) c) Q s := by
  rw [wp_seq, wp_seq]
  refine wp_mono h1 ?_
  rintro e s' ⟨rfl, rfl⟩
  simp only [thenQ]
  rw [wp_seq] at h2
  exact h2

end Go.Vs.Tryz

/- Declarations chosen by bits, two made expressions, and Proper, walked. -/
namespace Go.Vs.Tryz
open Go Go.Vs
variable {A : Oracle}

def DatasP (ds7 : List DataD) (r : V × List Obj) : Prop := ∃ ds, (∀ d ∈ ds, d ∈ ds7) ∧ goodDs ds ∧ r = (datasV ds, [])
def DatasI (bits : Int) (ds7 : List DataD) (i : Nat) (s : St) : Prop := ∃ ds : List DataD, ds.length ≤ i + 1 ∧ (∀ d ∈ ds, d ∈ ds7 ∧ goodD d) ∧
  s = ⟨[(0, intV bits), (3, datasV ds7), (4, .sc (.arr 257 ds.length)), (5, intV i)], [(257, some (.arr 4 (wr (dataRows ds)) 0))]⟩
@[simp] theorem dataRows0 : dataRows [] = [] := rfl
@[simp] theorem dataRows1 (d : DataD) : wr (dataRows [d]) = [wc (dataRow d)] := rfl

set_option maxHeartbeats 2000000 in
theorem datas21 (bits : Int) (ds7 : List DataD) (h7 : ds7.length = 7) (hg : ∀ d ∈ ds7, goodD d) (h55 : (K A).call 71 [] [] = some (datasV ds7, [])) :
    ∃ r, DatasP ds7 r ∧ (K A).call 23 [intV bits] [] = some r := by
  refine fn_ofE _ (vf := v23) (by kernel_rfl) rfl (by simp) ?_
  obtain ⟨d1, hd1⟩ := get_of_lt (l := ds7) (i := 1) (by omega)
  have hgd1 := hg d1 (List.mem_of_getElem? hd1)
  have fin : ∀ s, DatasI bits ds7 0 s → wp (K A) (.loop l23_0) (blockQ 0 (thenQ (K A) (.seq (.region [] [o 44 (.mv (tv 4)), o 2 (.mv (tv 44))] [] [2]) .ret) (endsQ false 0 [.tmp 2] (DatasP ds7)))) s := by
    intro s hs
    refine wp_loopI (DatasI bits ds7) 7 hs ?_ ?_
    · rintro i s hi ⟨ds, hds1, hds2, rfl⟩
      obtain ⟨d, hd⟩ := get_of_lt (l := ds7) (i := i) (by omega)
      have hgd := hg d (List.mem_of_getElem? hd)
      have hi2 : (i : Int) < 7 := by omega
      unfold l23_0
      by_cases hi1 : i = 1
      · subst hi1
        simp (disch := first | omega | (simp; done) | (simp; omega)) [h7, hd, -getElem?_pos]
        exact ⟨ds, by omega, hds2, by simp⟩
      · have hi1' : ¬ (i : Int) = 1 := by omega
        by_cases hb : andI .i64 (shrI .i64 bits i) 1 = 1
        · simp (disch := first | omega | (simp; done) | (simp; omega)) [h7, hd, hi2, hi1', hb, -getElem?_pos]
          refine ⟨ds ++ [d], by simp; omega, ?_, by simp⟩
          intro x hx
          rcases List.mem_append.1 hx with hx | hx
          · exact hds2 x hx
          · simp only [List.mem_singleton] at hx
            exact hx ▸ ⟨List.mem_of_getElem? hd, hgd⟩
        · simp (disch := first | omega | (simp; done) | (simp; omega)) [h7, hd, hi2, hi1', hb, -getElem?_pos]
          exact ⟨ds, by omega, hds2, by simp⟩
    · rintro s ⟨ds, hds1, hds2, rfl⟩
      unfold l23_0
      simp (disch := first | omega | (simp; done) | (simp; omega)) [h7, -getElem?_pos]
      exact ⟨ds, fun d hd => (hds2 d hd).1, ⟨by omega, fun d hd => (hds2 d hd).2⟩, rfl⟩
  unfold v23
  by_cases h1 : andI .i64 bits 2 = 0
  · by_cases h2 : andI .i64 bits 64 = 0
    · simp (disch := first | omega | (simp; done) | (simp; omega)) [h55, h1, h2, -getElem?_pos]
      exact fin _ ⟨[], by simp, by simp, by simp⟩
    · simp (disch := first | omega | (simp; done) | (simp; omega)) [h55, h1, h2, h7, hd1, -getElem?_pos]
      exact fin _ ⟨[d1], by simp, by simp [hgd1, List.mem_of_getElem? hd1], by simp⟩
  · simp (disch := first | omega | (simp; done) | (simp; omega)) [h55, h1, h7, hd1, -getElem?_pos]
    exact fin _ ⟨[d1], by simp, by simp [hgd1, List.mem_of_getElem? hd1], by simp⟩

def MadeP (L : List Int) (r : V × List Obj) : Prop := ∃ a b J, a.wf ∧ a.weight ≤ 32 ^ 4 ∧ b.wf ∧ b.weight ≤ 32 ^ 3 ∧ J ≤ L.length ∧ r = (.tu [expV a, expV b, .sc (.ptr 0 0)], [tapeO L J])

def BoolP (r : V × List Obj) : Prop := ∃ b, r = (boolV b, [])

end Go.Vs.Tryz
