/- The plain law of the free variables: the program's list is the reference's. -/
import Derived.Test.YtchkkbbchpnabaaGreatDoorR0c
set_option linter.unusedSimpArgs false
set_option linter.unusedVariables false
set_option linter.deprecated false

/- The plain law of the free variables: the program's list is the reference's. -/
namespace Go.Vs.Tryz
open Go Go.Vs

theorem mem_addNew {b out : List Str} {s t : Str} : t ∈ addNew b out s ↔ t ∈ out ∨ (t = s ∧ s ∉ b) := by
  grind [addNew]
theorem mem_foldNew {b : List Str} : ∀ {l out : List Str} {t : Str}, t ∈ l.foldl (addNew b) out ↔ t ∈ out ∨ (t ∈ l ∧ t ∉ b)
  | [], out, t => by simp
  | s :: l, out, t => by
    rw [List.foldl_cons, mem_foldNew, mem_addNew, List.mem_cons]
    grind
theorem addNew_pos {b out : List Str} {s : Str} (h : s ∈ b ∨ s ∈ out) : addNew b out s = out := if_pos h
theorem addNew_neg {b out : List Str} {s : Str} (h : ¬ (s ∈ b ∨ s ∈ out)) : addNew b out s = out ++ [s] := if_neg h
theorem fold_fold {bound b : List Str} : ∀ (l acc out : List Str), (l.foldl (addNew b) acc).foldl (addNew bound) out = l.foldl (addNew (bound ++ b)) (acc.foldl (addNew bound) out)
  | [], acc, out => rfl
  | s :: l, acc, out => by
    rw [List.foldl_cons, List.foldl_cons, fold_fold l]
    grind [mem_foldNew, addNew]

theorem freeR_free (e : Exp) : e.wf → ∀ bound out : List Str, freeR e bound out = (freeP e).foldl (addNew bound) out := by
  induction e using Exp.ind with
  | h e ih =>
    intro hw bound out
    rw [freeR_eq, freeP_eq]
    by_cases hk : e.kind = 1
    · have hch : e.children = [] := by
        have h1 := hw.one.2.2 hk
        have h2 := hw.one.2.1 (by omega)
        grind [Exp.children]
      grind [List.zipIdx_nil, seeVar, addNew_pos, addNew_neg]
    · rw [if_neg hk]
      have hs : seeVar e bound out = out := by
        grind [seeVar]
      rw [hs]
      have key : ∀ (l : List Exp) (i : Nat) (acc : List Str), (∀ x ∈ l, x ∈ e.children) → ((l.map freeR).zipIdx i).foldl (stepR e bound) (acc.foldl (addNew bound) out) = (((l.map freeP).zipIdx i).foldl (addAll e) acc).foldl (addNew bound) out := by
        intro l
        induction l with
        | nil => simp
        | cons x l ihl =>
          intro i acc hmem
          rw [List.map_cons, List.map_cons, List.zipIdx_cons, List.zipIdx_cons, List.foldl_cons, List.foldl_cons, ← ihl (i + 1) _ fun y hy => hmem y (List.mem_cons_of_mem _ hy)]
          congr 1
          have hx := hmem x (by simp)
          show freeR x (bound ++ e.bound i) _ = ((freeP x).foldl (addNew (e.bound i)) acc).foldl (addNew bound) out
          rw [ih x hx (hw.child hx), fold_fold]
      grind

theorem addNew_nodup {b out : List Str} {s : Str} (h : out.Nodup) : (addNew b out s).Nodup := by
  grind [addNew]
theorem foldNew_nodup {b : List Str} : ∀ {l out : List Str}, out.Nodup → (l.foldl (addNew b) out).Nodup
  | [], _, h => h
  | _ :: l, _, h => foldNew_nodup (l := l) (addNew_nodup h)
theorem foldAll_nodup {e : Exp} : ∀ {l : List (List Str × Nat)} {out : List Str}, out.Nodup → (l.foldl (addAll e) out).Nodup
  | [], _, h => h
  | _ :: l, _, h => foldAll_nodup (l := l) (foldNew_nodup h)
theorem freeP_nodup (e : Exp) : (freeP e).Nodup := by
  grind [freeP_eq, foldAll_nodup]
theorem foldNew_id : ∀ {l out : List Str}, (out ++ l).Nodup → l.foldl (addNew []) out = out ++ l
  | [], out, _ => by simp
  | s :: l, out, h => by
    have hs : s ∉ out := by
      grind
    have he : addNew [] out s = out ++ [s] := by
      grind [addNew]
    rw [List.foldl_cons, he, foldNew_id (by grind)]
    simp

/-- The two lists of free variables are the same. -/
theorem free_same (e : Exp) (hw : e.wf) : freeR e [] [] = freeP e := by
  grind [freeR_free, foldNew_id, freeP_nodup]

end Go.Vs.Tryz

/- Making things from plain numbers, walked: Mod, Next, Variable, Type. -/
namespace Go.Vs.Tryz
open Go Go.Vs
variable {A : Oracle}

theorem fn_ofE {f : FuncId} {vf : VFun} {args : List V} {objs : List Obj} (P : V × List Obj → Prop) (hT : T2 f = some vf) (hn : args.length = vf.nparams) (ho : objs.length ≤ 64)
    (h : wp (K A) vf.body (endsQ vf.keep objs.length vf.results P) ⟨enumF 0 args, enumF 0 (objs.map some)⟩) : ∃ r, P r ∧ (K A).call f args objs = some r := lim_wpE P hT hn ho h

def intRows (l : List Int) : List (List Cell) := l.map intRow
@[simp] theorem intRows_len (l : List Int) : (intRows l).length = l.length := by simp [intRows]
@[simp] theorem intRows_get (l : List Int) (i : Nat) : (intRows l)[i]? = (l[i]?).map intRow := by simp [intRows]
@[simp] theorem cut_i (n : Int) : cut (intRow n) 0 1 = some [.int .i64 n] := rfl
/-- A tape: its list, and how many of its choices are read. -/
abbrev tapeO (L : List Int) (I : Nat) : Obj := .box [.c (.sl (intRows L)), .c (.int .i64 I)]
abbrev datasV (ds : List DataD) : V := .sc (.c (.sl (dataRows ds)))
abbrev tyV (t : Ty) : V := .ag (wc t.row)

theorem mod10 (a m : Int) (hm : 0 < m) (hb : m ≤ 687194767360) : ∃ k : Nat, (k : Int) < m ∧ (K A).call 9 [intV a, intV m] [] = some (intV k, []) := by
  have h1 : ¬ m < 1 := by omega
  have h0 : m ≠ 0 := by omega
  have hlt : a.tmod m < m := Int.tmod_lt_of_pos a (by omega)
  have hgt : -m < a.tmod m := Int.lt_tmod_of_pos a (by omega)
  by_cases hneg : a.tmod m < 0
  · refine ⟨(a.tmod m + m).toNat, by omega, ?_⟩
    have hw : ((a.tmod m + m).toNat : Int) = a.tmod m + m := by omega
    rw [hw]
    refine fn_of (vf := v9) (by rfl) rfl (by simp) ?_
    unfold v9
    simp (disch := first | omega | (simp; done) | (simp; omega)) [h1, h0, hneg]
  · refine ⟨(a.tmod m).toNat, by omega, ?_⟩
    have hw : ((a.tmod m).toNat : Int) = a.tmod m := by omega
    rw [hw]
    refine fn_of (vf := v9) (by rfl) rfl (by simp) ?_
    unfold v9
    simp (disch := first | omega | (simp; done) | (simp; omega)) [h1, h0, hneg]

theorem next37 (L : List Int) (I : Nat) (n : Int) (hI : I ≤ L.length) (hL : L.length ≤ 687194767360) (hn : 0 < n) (hb : n ≤ 687194767360) :
    ∃ k J : Nat, (k : Int) < n ∧ J ≤ L.length ∧ (K A).call 20 [.sc (.ptr 0 0), intV n] [tapeO L I] = some (intV k, [tapeO L J]) := by
  by_cases h : I < L.length
  · obtain ⟨a, ha⟩ := get_of_lt h
    obtain ⟨k, hk, hc⟩ := mod10 (A := A) a n hn hb
    refine ⟨k, I + 1, hk, h, ?_⟩
    refine fn_of (vf := v20) (by rfl) rfl (by simp) ?_
    have h1 : ¬ L.length ≤ I := by omega
    unfold v20
    simp (disch := first | omega | (simp; done) | (simp; omega)) [h1, ha, hc, -getElem?_pos]
  · refine ⟨0, I, hn, hI, ?_⟩
    refine fn_of (vf := v20) (by rfl) rfl (by simp) ?_
    have h1 : L.length ≤ I := by omega
    unfold v20
    simp_all

def varNames : List Str := [[120], [121], [122], [102], [103], [118, 49], [118, 50], [105, 100]]
theorem variable38 (L : List Int) (I : Nat) (hI : I ≤ L.length) (hL : L.length ≤ 687194767360) :
    ∃ s J, s ∈ varNames ∧ J ≤ L.length ∧ (K A).call 21 [.sc (.ptr 0 0)] [tapeO L I] = some (strV s, [tapeO L J]) := by
  obtain ⟨k, J, hk, hJ, hc⟩ := next37 (A := A) L I 8 hI hL (by omega) (by omega)
  obtain ⟨s, hs⟩ := get_of_lt (l := varNames) (i := k) (by grind [varNames, List.length_cons])
  refine ⟨s, J, List.mem_of_getElem? hs, hJ, ?_⟩
  refine fn_of (vf := v21) (by rfl) rfl (by simp) ?_
  have hr : (wr (strRows varNames))[k]? = some [.c (.str s)] := by simp [hs]
  have hw : wr (strRows varNames) = [[.c (.str [120])], [.c (.str [121])], [.c (.str [122])], [.c (.str [102])], [.c (.str [103])], [.c (.str [118, 49])], [.c (.str [118, 50])], [.c (.str [105, 100])]] := rfl
  rw [hw] at hr
  unfold v21
  simp (disch := first | omega | (simp; done) | (simp; omega)) [hc, hr, -getElem?_pos]
  done

theorem con65 (s : Str) (l : List Ty) (hl : l.length ≤ 687194767360) : (K A).call 47 [strV s, .sc (.c (.sl (Ty.rows l)))] [] = some (tyV (.mk 4 s 0 0 l), []) := by
  refine fn_of (vf := v47) (by rfl) rfl (by simp) ?_
  unfold v47
  cases l with
  | nil =>
    have hn : Ty.rows [] = [] := by rfl
    simp (disch := first | omega | (simp; done) | (simp; omega)) [hn, Ty.row]
    done
  | cons t l =>
    have hn : Ty.rows (t :: l) = t.row :: Ty.rows l := by rfl
    have hok := okRows_ty (t :: l)
    rw [hn, wr_cons] at hok
    simp only [List.length_cons] at hl
    simp (disch := first | omega | (simp; done) | (simp; omega)) [hn, hok, Ty.row]
    done

theorem int29 : (K A).call 46 [] [] = some (tyV (.mk 4 [73, 110, 116] 0 0 []), []) := by
  refine fn_of (vf := v46) (by rfl) rfl (by simp) ?_
  have hn : Ty.rows [] = [] := by rfl
  have h := con65 (A := A) [73, 110, 116] [] (by simp)
  simp [hn] at h
  unfold v46
  simp_all
  done

theorem arrow79 (a b : Ty) : (K A).call 48 [tyV a, tyV b] [] = some (tyV (.mk 4 [45, 62] 0 0 [a, b]), []) := by
  refine fn_of (vf := v48) (by rfl) rfl (by simp) ?_
  have hn : Ty.rows [a, b] = [a.row, b.row] := by rfl
  have h := con65 (A := A) [45, 62] [a, b] (by simp)
  rw [hn] at h
  unfold v48
  simp_all
  done

/-- Declarations that something can be made of. -/
def goodD (d : DataD) : Prop := d.params.length ≤ 4 ∧ 1 ≤ d.cons.length ∧ d.cons.length ≤ 6 ∧ ∀ c ∈ d.cons, c.fields.length ≤ 4
def goodDs (ds : List DataD) : Prop := ds.length ≤ 100 ∧ ∀ d ∈ ds, goodD d

def TypeP (L : List Int) (r : V × List Obj) : Prop := ∃ t J, J ≤ L.length ∧ r = (tyV t, [tapeO L J])

/-- Ahead of the i-th argument of a type. -/
def TypeI (L : List Int) (ds : List DataD) (dd : DataD) (d i : Nat) (s : St) : Prop := ∃ tys J, tys.length = i ∧ J ≤ L.length ∧
  s = ⟨[(0, .sc (.ptr 0 0)), (1, datasV ds), (2, .sc (.c (.sl []))), (3, intV (d + 1)), (8, .sc (.ptr 64 0)), (10, .sc (.ptr 3392 0)), (11, .sc (.arr 3521 i)), (12, intV i)],
    [(0, some (tapeO L J)), (64, some (.box [zi, zs, zi, zi, .nil])), (3392, some (.box (wc (dataRow dd)))), (3521, some (.arr 5 (wr (Ty.rows tys)) 0))]⟩

set_option maxHeartbeats 2000000 in
theorem type39 (L : List Int) (ds : List DataD) (hL : L.length ≤ 687194767360) (hds : goodDs ds) : ∀ (d I : Nat), d ≤ 100 → I ≤ L.length →
    ∃ r, TypeP L r ∧ (K A).call 22 [.sc (.ptr 0 0), datasV ds, .sc (.c (.sl [])), intV d] [tapeO L I] = some r := by
  intro d
  induction d with
  | zero =>
    intro I _ hI
    obtain ⟨k, J, hk, hJ, hc⟩ := next37 (A := A) L I 7 hI hL (by omega) (by omega)
    refine fn_ofE _ (vf := v22) (by rfl) rfl (by simp) ?_
    have hi := int29 (A := A)
    unfold v22
    by_cases h3 : k < 3
    · have h3' : (k : Int) < 3 := by omega
      have h4' : (k : Int) < 4 := by omega
      simp (disch := first | omega | (simp; done) | (simp; omega)) [hc, hi, h3', h4', -getElem?_pos]
      exact ⟨_, J, hJ, rfl⟩
    · have h3' : ¬ (k : Int) < 3 := by omega
      by_cases h4 : k < 4
      · have h4' : (k : Int) < 4 := by omega
        simp (disch := first | omega | (simp; done) | (simp; omega)) [hc, hi, h3', h4']
        exact ⟨_, J, hJ, rfl⟩
      · have h4' : ¬ (k : Int) < 4 := by omega
        simp (disch := first | omega | (simp; done) | (simp; omega)) [hc, hi, h3', h4']
        exact ⟨_, J, hJ, rfl⟩
  | succ d ih =>
    intro I hd hI
    obtain ⟨k, J, hk, hJ, hc⟩ := next37 (A := A) L I 7 hI hL (by omega) (by omega)
    have hi := int29 (A := A)
    have hn : Ty.rows [] = [] := by rfl
    have hd1 : ¬ (d : Int) + 1 < 1 := by omega
    refine fn_ofE _ (vf := v22) (by rfl) rfl (by simp) ?_
    by_cases h4 : k < 4
    · have h4' : (k : Int) < 4 := by omega
      unfold v22
      by_cases h3 : k < 3
      · have h3' : (k : Int) < 3 := by omega
        simp (disch := first | omega | (simp; done) | (simp; omega)) [hc, hi, h3', h4']
        exact ⟨_, J, hJ, rfl⟩
      · have h3' : ¬ (k : Int) < 3 := by omega
        simp (disch := first | omega | (simp; done) | (simp; omega)) [hc, hi, h3', h4']
        exact ⟨_, J, hJ, rfl⟩
    · have h3' : ¬ (k : Int) < 3 := by omega
      have h4' : ¬ (k : Int) < 4 := by omega
      by_cases hdata : ds ≠ [] ∧ k < 6
      · have hpos : 0 < ds.length := List.length_pos_iff.2 hdata.1
        have hds1 := hds.1
        obtain ⟨m, J1, hm, hJ1, hc1⟩ := next37 (A := A) L J ds.length hJ hL (by omega) (by omega)
        obtain ⟨dd, hdd⟩ := get_of_lt (l := ds) (i := m) (by omega)
        have hgood := hds.2 dd (List.mem_of_getElem? hdd)
        have hm' : (m : Int) < ds.length := hm
        have fin : wp (K A) (.loop l22_0) (blockQ 1 (thenQ (K A) (.seq (.region [] [o 77 (.fld 1 (tv 10)), o 78 (.load false 1 (tv 77)), o 79 (.mv (tv 11)), oa 80 (.call (kf 47) [(false, (tv 78)), (false, (tv 79))] []) 4992, on (.store 5 (tv 8) (tv 80) [])] [] [8]) .ret)
            (blockQ 0 (thenQ (K A) (.seq (.region [] [o 81 (.mv (tv 0)), o 82 (.mv (tv 1)), o 83 (.mv (tv 2)), o 84 (.mv (tv 3)), o 85 (.bin .sub 0 (tv 84) (ki 1)), oa 86 (.call (kf 22) [(true, (tv 81)), (false, (tv 82)), (false, (tv 83)), (false, (tv 85))] []) 5440, oa 13 (.new [zi, zs, zi, zi, .nil] []) 5504, on (.store 5 (tv 13) (tv 86) [])] [] [0, 1, 2, 3, 8, 13])
              (.seq (.region [] [o 87 (.load true 5 (tv 13)), o 88 (.mv (tv 0)), o 89 (.mv (tv 1)), o 90 (.mv (tv 2)), o 91 (.mv (tv 3)), o 92 (.bin .sub 0 (tv 91) (ki 1)), oa 93 (.call (kf 22) [(true, (tv 88)), (false, (tv 89)), (false, (tv 90)), (false, (tv 92))] []) 6016, oa 94 (.call (kf 48) [(false, (tv 87)), (false, (tv 93))] []) 6080, on (.store 5 (tv 8) (tv 94) [])] [(0, 6)] [8]) .ret)) (endsQ false 1 [.cell 8 true 5] (TypeP L))))))
            ⟨[(0, .sc (.ptr 0 0)), (1, datasV ds), (2, .sc (.c (.sl []))), (3, intV (d + 1)), (8, .sc (.ptr 64 0)), (10, .sc (.ptr 3392 0)), (11, .sc (.arr 3521 0)), (12, intV 0)],
              [(0, some (tapeO L J1)), (64, some (.box [zi, zs, zi, zi, .nil])), (3392, some (.box (wc (dataRow dd)))), (3521, some (.arr 5 [] 0))]⟩ := by
          refine wp_loopI (TypeI L ds dd d) dd.params.length ⟨[], J1, rfl, hJ1, by rfl⟩ ?_ ?_
          · rintro i s hi' ⟨tys, J2, ht, hJ2, rfl⟩
            obtain ⟨r, ⟨ty, J3, hJ3, rfl⟩, hc2⟩ := ih J2 (by omega) hJ2
            have hip := hgood.1
            unfold l22_0
            simp (disch := first | omega | (simp; done) | (simp; omega)) [hi', hc2, ht]
            exact ⟨tys ++ [ty], J3, by grind, hJ3, by simp⟩
          · rintro s ⟨tys, J2, ht, hJ2, rfl⟩
            have hip := hgood.1
            have hcon := con65 (A := A) dd.name tys (by omega)
            unfold l22_0
            simp (disch := first | omega | (simp; done) | (simp; omega)) [hcon, ht, -getElem?_pos]
            exact ⟨_, J2, hJ2, rfl⟩
        by_cases hk4 : k = 4
        · unfold v22
          simp (disch := first | omega | (simp; done) | (simp; omega)) [hc, hi, h3', h4', hd1, hk4, hdata.1, hpos, hc1, hdd, -getElem?_pos]
          omega
        · have hk5 : k = 5 := by omega
          unfold v22
          simp (disch := first | omega | (simp; done) | (simp; omega)) [hc, hi, h3', h4', hd1, hk5, hdata.1, hpos, hc1, hdd, -getElem?_pos]
          omega
      · obtain ⟨r1, ⟨t1, J1, hJ1, rfl⟩, hc1⟩ := ih J (by omega) hJ
        obtain ⟨r2, ⟨t2, J2, hJ2, rfl⟩, hc2⟩ := ih J1 (by omega) hJ1
        have har := arrow79 (A := A) t1 t2
        have hb4 : ¬ ((k : Int) = 4 ∧ 0 < ds.length) := by
          grind
        have hb5 : ¬ ((k : Int) = 5 ∧ 0 < ds.length) := by
          grind
        unfold v22
        by_cases hz : ds = []
        · subst hz
          have hz2 : dataRows [] = [] := rfl
          by_cases hk4 : (k : Int) = 4
          · simp (disch := first | omega | (simp; done) | (simp; omega)) [hc, hi, h3', h4', hd1, hk4, hc1, hc2, har, -getElem?_pos]
            exact ⟨_, J2, hJ2, rfl⟩
          · by_cases hk5 : (k : Int) = 5
            · simp (disch := first | omega | (simp; done) | (simp; omega)) [hc, hi, h3', h4', hd1, hk4, hk5, hc1, hc2, har]
              exact ⟨_, J2, hJ2, rfl⟩
            · simp (disch := first | omega | (simp; done) | (simp; omega)) [hc, hi, h3', h4', hd1, hk4, hk5, hc1, hc2, har]
              exact ⟨_, J2, hJ2, rfl⟩
        · have hk4 : ¬ (k : Int) = 4 := fun h => hdata ⟨hz, by omega⟩
          have hk5 : ¬ (k : Int) = 5 := fun h => hdata ⟨hz, by omega⟩
          simp (disch := first | omega | (simp; done) | (simp; omega)) [hc, hi, h3', h4', hd1, hk4, hk5, hc1, hc2, har]
          exact ⟨_, J2, hJ2, rfl⟩

end Go.Vs.Tryz

/- Raw expressions, walked. -/
namespace Go.Vs.Tryz
open Go Go.Vs
variable {A : Oracle}

def tz : Ty := .mk 0 [] 0 0 []
@[simp] theorem strRows0 : strRows [] = [] := rfl
@[simp] theorem rows0 : Exp.rows [] = [] := by rfl
@[simp] theorem rows1 (x : Exp) : Exp.rows [x] = [x.row] := by rfl
@[simp] theorem rows2 (x y : Exp) : Exp.rows [x, y] = [x.row, y.row] := by rfl
@[simp] theorem armRows0 : Exp.armRows [] = [] := by rfl
@[simp] theorem tyRows0 : Ty.rows [] = [] := by rfl

/-- A made expression: well formed, of bounded weight; the tape read on. -/
def RawP (L : List Int) (B : Nat) (r : V × List Obj) : Prop := ∃ e J, e.wf ∧ e.weight ≤ B ∧ J ≤ L.length ∧ r = (expV e, [tapeO L J])

theorem weight_mk (k p n m ks l t) : (Exp.mk k p n m ks l t).weight = 1 + (l.map fun a => a.1.vars.length).sum + ((ks.map Exp.weight).sum + (l.map fun a => a.2.weight).sum) := by
  grind [Exp.weight_eq, Exp.children, Exp.arms, Exp.kids, Function.comp_def]
theorem wf_mk (k p n m ks l t) : (Exp.mk k p n m ks l t).wf = (((k = 8 → ks.length = 1) ∧ (k ≠ 8 → l = []) ∧ (k = 1 → ks = [])) ∧ (∀ x ∈ ks, x.wf) ∧ ∀ a ∈ l, a.2.wf) := by
  grind [Exp.wf_eq, Exp.wf1, Exp.kind, Exp.kids, Exp.arms, Exp.children]

theorem pow_pos32 (d : Nat) : 1 ≤ 32 ^ d := Nat.pos_of_ne_zero (by simp)

/-- Ahead of the i-th arm. -/
def ArmI (L : List Int) (ds : List DataD) (dd : DataD) (x : Exp) (B d i : Nat) (s : St) : Prop := ∃ arms J, arms.length = i ∧ J ≤ L.length ∧ (∀ a ∈ arms, a.2.wf ∧ a.2.weight ≤ B ∧ a.1.vars.length ≤ 4) ∧
  s = ⟨[(0, .sc (.ptr 0 0)), (1, datasV ds), (2, intV (d + 1)), (6, .sc (.ptr 64 0)), (13, .sc (.ptr 10176 0)), (14, .sc (.ptr 10752 0)), (15, intV i)],
    [(0, some (tapeO L J)), (64, some (.box [zi, zi, zs, zi, .nil, .nil, zi, zs, zi, zi, .nil])), (10176, some (.box (wc (dataRow dd)))), (10624, some (.arr 11 [wc x.row] 0)),
      (10752, some (.box [.c (.int .i64 8), zi, zs, zi, .arr 10624 1, .arr 10822 i, zi, zs, zi, zi, .nil])), (10822, some (.arr 14 (wr (Exp.armRows arms)) 0))]⟩
/-- Ahead of the j-th variable of the i-th arm. -/
def VarI (L : List Int) (ds : List DataD) (dd : DataD) (x : Exp) (arms : List (ArmH × Exp)) (con : Str) (d i j : Nat) (s : St) : Prop := ∃ vars J, vars.length = j ∧ J ≤ L.length ∧
  s = ⟨[(0, .sc (.ptr 0 0)), (1, datasV ds), (2, intV (d + 1)), (6, .sc (.ptr 64 0)), (13, .sc (.ptr 10176 0)), (14, .sc (.ptr 10752 0)), (15, intV i), (16, .sc (.ptr 11712 0)), (17, intV j)],
    [(0, some (tapeO L J)), (64, some (.box [zi, zi, zs, zi, .nil, .nil, zi, zs, zi, zi, .nil])), (10176, some (.box (wc (dataRow dd)))), (10624, some (.arr 11 [wc x.row] 0)),
      (10752, some (.box [.c (.int .i64 8), zi, zs, zi, .arr 10624 1, .arr 10822 i, zi, zs, zi, zi, .nil])), (10822, some (.arr 14 (wr (Exp.armRows arms)) 0)),
      (11712, some (.box [zi, .c (.str con), .arr 11779 j, zi, zi, zs, zi, .nil, .nil, zi, zs, zi, zi, .nil])), (11779, some (.arr 1 (wr (strRows vars)) 0))]⟩

theorem wp_assocE {C : Ctx} {a b c : VCode} {Q : Ex → St → Prop} {s : St} (s1 : St) (h1 : wp C a (fun e s => e = .normal ∧ s = s1) s) (h2 : wp C (.seq b c) Q s1) : wp C (.seq (.seq a b) c) Q s := by
  grind [wp_seq, wp_mono, thenQ]

set_option maxHeartbeats 8000000 in
theorem raw11 (L : List Int) (ds : List DataD) (hL : L.length ≤ 687194767360) (hds : goodDs ds) : ∀ (d I : Nat), d ≤ 4 → I ≤ L.length →
    ∃ r, RawP L (32 ^ d) r ∧ (K A).call 6 [.sc (.ptr 0 0), datasV ds, intV d] [tapeO L I] = some r := by
  intro d
  induction d using Nat.strongRecOn with
  | ind d ih =>
  intro I hd hI
  obtain ⟨k, J, hk, hJ, hc⟩ := next37 (A := A) L I 14 hI hL (by omega) (by omega)
  refine fn_ofE _ (vf := v6) (by rfl) rfl (by simp) ?_
  have hp := pow_pos32 d
  have hds1 := hds.1
  obtain ⟨c, hc14, hcd, hcs⟩ : ∃ c : Nat, c < 14 ∧ (d = 0 → c < 5) ∧ ((d = 0 ∧ (k : Int).tmod 5 = c) ∨ (d ≠ 0 ∧ k = c)) := by
    by_cases h : d = 0
    · refine ⟨k % 5, by omega, fun _ => by omega, .inl ⟨h, rfl⟩⟩
    grind
  unfold v6
  refine wp_seqE ⟨[(0, .sc (.ptr 0 0)), (1, datasV ds), (2, intV d), (6, .sc (.ptr 64 0))], [(0, some (tapeO L I)), (64, some (.box [zi, zi, zs, zi, .nil, .nil, zi, zs, zi, zi, .nil]))]⟩ (by simp) ?_
  refine wp_seqE ⟨[(0, .sc (.ptr 0 0)), (1, datasV ds), (2, intV d), (6, .sc (.ptr 64 0)), (7, intV k)], [(0, some (tapeO L J)), (64, some (.box [zi, zi, zs, zi, .nil, .nil, zi, zs, zi, zi, .nil]))]⟩ (by simp [hc]) ?_
  refine wp_seqI (fun s => s = ⟨[(0, .sc (.ptr 0 0)), (1, datasV ds), (2, intV d), (6, .sc (.ptr 64 0)), (7, intV c)], [(0, some (tapeO L J)), (64, some (.box [zi, zi, zs, zi, .nil, .nil, zi, zs, zi, zi, .nil]))]⟩ ∨
    s = ⟨[(0, .sc (.ptr 0 0)), (1, datasV ds), (2, intV d), (6, .sc (.ptr 64 0)), (7, intV c), (21, boolV false)], [(0, some (tapeO L J)), (64, some (.box [zi, zi, zs, zi, .nil, .nil, zi, zs, zi, zi, .nil]))]⟩) ?_ ?_
  · rcases hcs with ⟨h0, h1⟩ | ⟨h0, rfl⟩
    simp_all
    · have h0' : ¬ (d : Int) < 1 := by omega
      simp (disch := first | omega | (simp; done) | (simp; omega)) [h0']
  · intro s hs
    refine wp_assocE ⟨[(0, .sc (.ptr 0 0)), (1, datasV ds), (2, intV d), (6, .sc (.ptr 64 0)), (24, intV c)], [(0, some (tapeO L J)), (64, some (.box [zi, zi, zs, zi, .nil, .nil, zi, zs, zi, zi, .nil]))]⟩ (by rcases hs with rfl | rfl <;> simp) ?_
    clear hs s hcs hc hk
    have leaf : ∀ (kind num : Int) (name : Str) (J : Nat), J ≤ L.length → kind ≠ 8 → RawP L (32 ^ d) (expV (.mk kind 0 name num [] [] tz), [tapeO L J]) := by
      intro kind num name J hJ h8
      refine ⟨_, J, ?_, ?_, hJ, rfl⟩ <;> grind [wf_mk, weight_mk]
    by_cases h5 : c < 5
    · have : c = 0 ∨ c = 1 ∨ c = 2 ∨ c = 3 ∨ c = 4 := by omega
      rcases this with rfl | rfl | rfl | rfl | rfl
      · obtain ⟨s, J1, _, hJ1, hc1⟩ := variable38 (A := A) L J hJ hL
        simp (disch := first | omega | (simp; done) | (simp; omega)) [hc1]
        exact leaf 1 0 s J1 hJ1 (by decide)
      · obtain ⟨s, J1, _, hJ1, hc1⟩ := variable38 (A := A) L J hJ hL
        simp (disch := first | omega | (simp; done) | (simp; omega)) [hc1]
        exact leaf 1 0 s J1 hJ1 (by decide)
      · obtain ⟨n, J1, _, hJ1, hc1⟩ := next37 (A := A) L J 4 hJ hL (by omega) (by omega)
        simp (disch := first | omega | (simp; done) | (simp; omega)) [hc1]
        exact leaf 3 n [] J1 hJ1 (by decide)
      · by_cases hz : ds = []
        · subst hz
          have hz2 : dataRows [] = [] := rfl
          simp (disch := first | omega | (simp; done) | (simp; omega)) [hz2]
          exact leaf 2 0 [71, 111, 110, 101] J hJ (by decide)
        · have hpos : 0 < ds.length := List.length_pos_iff.2 hz
          obtain ⟨m, J1, hm, hJ1, hc1⟩ := next37 (A := A) L J ds.length hJ hL (by omega) (by omega)
          obtain ⟨dd, hdd⟩ := get_of_lt (l := ds) (i := m) (by omega)
          have hgood := hds.2 dd (List.mem_of_getElem? hdd)
          obtain ⟨q, J2, hq, hJ2, hc2⟩ := next37 (A := A) L J1 dd.cons.length hJ1 hL (by have := hgood.2.1; omega) (by have := hgood.2.2.1; omega)
          obtain ⟨cc, hcc⟩ := get_of_lt (l := dd.cons) (i := q) (by omega)
          simp (disch := first | omega | (simp; done) | (simp; omega)) [hpos, hc1, hdd, hc2, hcc, -getElem?_pos]
          exact leaf 2 0 cc.name J2 hJ2 (by decide)
      · simp (disch := first | omega | (simp; done) | (simp; omega))
        exact leaf 10 0 [] J hJ (by decide)
    · obtain ⟨d', rfl⟩ : ∃ d', d = d' + 1 := ⟨d - 1, by omega⟩
      have ih1 : ∀ I, I ≤ L.length → ∃ r, RawP L (32 ^ d') r ∧ (K A).call 6 [.sc (.ptr 0 0), datasV ds, intV d'] [tapeO L I] = some r := fun I hI => ih d' (by omega) I (by omega) hI
      have hp' := pow_pos32 d'
      have h32 : 32 ^ (d' + 1) = 32 * 32 ^ d' := by omega
      rw [h32]
      have : c = 5 ∨ c = 6 ∨ c = 7 ∨ c = 8 ∨ c = 9 ∨ c = 10 ∨ c = 11 ∨ c = 12 ∨ c = 13 := by omega
      rcases this with rfl | rfl | rfl | rfl | rfl | rfl | rfl | rfl | rfl
      · obtain ⟨s, J1, _, hJ1, hc1⟩ := variable38 (A := A) L J hJ hL
        obtain ⟨_, ⟨x, J2, hx, hxw, hJ2, rfl⟩, hc2⟩ := ih1 J1 hJ1
        simp (disch := first | omega | (simp; done) | (simp; omega)) [hc1, hc2]
        refine ⟨.mk 4 0 s 0 [x] [] tz, J2, by rw [wf_mk]; grind, by grind [weight_mk], hJ2, ?_⟩
        rfl
      · obtain ⟨s, J1, _, hJ1, hc1⟩ := variable38 (A := A) L J hJ hL
        obtain ⟨_, ⟨x, J2, hx, hxw, hJ2, rfl⟩, hc2⟩ := ih1 J1 hJ1
        simp (disch := first | omega | (simp; done) | (simp; omega)) [hc1, hc2]
        refine ⟨.mk 4 0 s 0 [x] [] tz, J2, by rw [wf_mk]; grind, by grind [weight_mk], hJ2, ?_⟩
        rfl
      · obtain ⟨_, ⟨x, J1, hx, hxw, hJ1, rfl⟩, hc1⟩ := ih1 J hJ
        obtain ⟨_, ⟨y, J2, hy, hyw, hJ2, rfl⟩, hc2⟩ := ih1 J1 hJ1
        simp (disch := first | omega | (simp; done) | (simp; omega)) [hc1, hc2]
        refine ⟨.mk 5 0 [] 0 [x, y] [] tz, J2, by grind [wf_mk], by grind [weight_mk], hJ2, ?_⟩
        rfl
      · obtain ⟨_, ⟨x, J1, hx, hxw, hJ1, rfl⟩, hc1⟩ := ih1 J hJ
        obtain ⟨_, ⟨y, J2, hy, hyw, hJ2, rfl⟩, hc2⟩ := ih1 J1 hJ1
        simp (disch := first | omega | (simp; done) | (simp; omega)) [hc1, hc2]
        refine ⟨.mk 5 0 [] 0 [x, y] [] tz, J2, by rw [wf_mk]; simp [hx, hy], by rw [weight_mk]; simp; omega, hJ2, ?_⟩
        simp [expV, Exp.row, tz, Ty.kind, Ty.name, Ty.id, Ty.home, Ty.args]
      · obtain ⟨_, ⟨x, J1, hx, hxw, hJ1, rfl⟩, hc1⟩ := ih1 J hJ
        obtain ⟨_, ⟨y, J2, hy, hyw, hJ2, rfl⟩, hc2⟩ := ih1 J1 hJ1
        simp (disch := first | omega | (simp; done) | (simp; omega)) [hc1, hc2]
        refine ⟨.mk 5 0 [] 0 [x, y] [] tz, J2, by rw [wf_mk]; simp [hx, hy], by rw [weight_mk]; simp; omega, hJ2, ?_⟩
        simp [expV, Exp.row, tz, Ty.kind, Ty.name, Ty.id, Ty.home, Ty.args]
      · obtain ⟨n, J0, hn, hJ0, hc0⟩ := next37 (A := A) L J 2 hJ hL (by omega) (by omega)
        obtain ⟨s, J1, _, hJ1, hc1⟩ := variable38 (A := A) L J0 hJ0 hL
        obtain ⟨_, ⟨x, J2, hx, hxw, hJ2, rfl⟩, hc2⟩ := ih1 J1 hJ1
        obtain ⟨_, ⟨y, J3, hy, hyw, hJ3, rfl⟩, hc3⟩ := ih1 J2 hJ2
        simp (maxSteps := 4000000) (disch := first | omega | (simp; done) | (simp; omega)) [hc0, hc1, hc2, hc3]
        refine ⟨.mk (6 + n) 0 s 0 [x, y] [] tz, J3, by grind [wf_mk], by grind [weight_mk], hJ3, ?_⟩
        rfl
      · obtain ⟨_, ⟨x, J1, hx, hxw, hJ1, rfl⟩, hc1⟩ := ih1 J hJ
        obtain ⟨_, ⟨ty, J2, hJ2, rfl⟩, hc2⟩ := type39 (A := A) L ds hL hds 2 J1 (by omega) hJ1
        simp at hc2
        simp (disch := first | omega | (simp; done) | (simp; omega)) [hc1, hc2]
        refine ⟨.mk 9 0 [] 0 [x] [] ty, J2, by rw [wf_mk]; grind, by grind [weight_mk], hJ2, ?_⟩
        simp [expV, Exp.row, Ty.row_eq]
      · obtain ⟨_, ⟨x, J1, hx, hxw, hJ1, rfl⟩, hc1⟩ := ih1 J hJ
        simp (disch := first | omega | (simp; done) | (simp; omega)) [hc1]
        refine ⟨.mk 11 0 [] 0 [x] [] tz, J1, by rw [wf_mk]; grind, by grind [weight_mk], hJ1, ?_⟩
        rfl
      · by_cases hz : ds = []
        · subst hz
          have hz2 : dataRows [] = [] := rfl
          obtain ⟨_, ⟨x, J1, hx, hxw, hJ1, rfl⟩, hc1⟩ := ih1 J hJ
          simp [datasV, hz2] at hc1
          simp (disch := first | omega | (simp; done) | (simp; omega)) [datasV, hz2, hc1]
          exact ⟨x, J1, hx, by omega, hJ1, rfl⟩
        · have hpos : ds.length ≠ 0 := by grind
          obtain ⟨m, J1, hm, hJ1, hc1⟩ := next37 (A := A) L J ds.length hJ hL (by omega) (by omega)
          obtain ⟨dd, hdd⟩ := get_of_lt (l := ds) (i := m) (by omega)
          have hgood := hds.2 dd (List.mem_of_getElem? hdd)
          obtain ⟨hg1, hg2, hg3, hg4⟩ := hgood
          obtain ⟨_, ⟨x, J2, hx, hxw, hJ2, rfl⟩, hc2⟩ := ih1 J1 hJ1
          simp (disch := first | omega | (simp; done) | (simp; omega)) [hz, hc1, hdd, hc2, -getElem?_pos]
          refine wp_loopI (ArmI L ds dd x (32 ^ d') d') dd.cons.length ⟨[], J2, rfl, hJ2, by simp, by simp⟩ ?_ ?_
          · rintro i s hi ⟨arms, J3, harms, hJ3, hall, rfl⟩
            obtain ⟨cc, hcc⟩ := get_of_lt hi
            have hfl := hg4 cc (List.mem_of_getElem? hcc)
            unfold l6_1
            simp (disch := first | omega | (simp; done) | (simp; omega)) [hi, hcc, harms, -getElem?_pos]
            refine wp_loopI (VarI L ds dd x arms cc.name d' i) cc.fields.length ⟨[], J3, rfl, hJ3, by rfl⟩ ?_ ?_
            · rintro j s hj ⟨vars, J4, hvars, hJ4, rfl⟩
              obtain ⟨v, J5, _, hJ5, hc5⟩ := variable38 (A := A) L J4 hJ4 hL
              unfold l6_0
              simp (disch := first | omega | (simp; done) | (simp; omega)) [hi, hj, hcc, hc5, hvars, harms, -getElem?_pos]
              exact ⟨vars ++ [v], J5, by grind, hJ5, by rfl⟩
            · rintro s ⟨vars, J4, hvars, hJ4, rfl⟩
              obtain ⟨_, ⟨y, J5, hy, hyw, hJ5, rfl⟩, hc5⟩ := ih1 J4 hJ4
              unfold l6_0
              simp (disch := first | omega | (simp; done) | (simp; omega)) [hi, hcc, hc5, hvars, harms, -getElem?_pos]
              refine ⟨arms ++ [(⟨0, cc.name, vars⟩, y)], J5, by grind, hJ5, ?_, ?_⟩
              grind
              · simp [harms, Exp.armRows_map, wr, armRow]
          · rintro s ⟨arms, J3, harms, hJ3, hall, rfl⟩
            unfold l6_1
            simp (disch := first | omega | (simp; done) | (simp; omega)) [harms, -getElem?_pos]
            refine ⟨.mk 8 0 [] 0 [x] arms tz, J3, ?_, ?_, hJ3, ?_⟩
            grind [wf_mk]
            · rw [weight_mk]
              have h1 : (arms.map fun a => a.1.vars.length).sum ≤ (arms.map fun _ => 4).sum := sum_le fun a ha => (hall a ha).2.2
              have h2 : (arms.map fun a => a.2.weight).sum ≤ (arms.map fun _ => 32 ^ d').sum := sum_le fun a ha => (hall a ha).2.1
              simp only [List.map_const', List.sum_replicate_nat, harms] at h1 h2
              simp only [List.map_cons, List.map_nil, List.sum_cons, List.sum_nil]
              have h3 : dd.cons.length * 32 ^ d' ≤ 6 * 32 ^ d' := Nat.mul_le_mul_right _ hg3
              omega
            rfl

end Go.Vs.Tryz

/- Declarations chosen by bits, two made expressions, and Proper, walked. -/
namespace Go.Vs.Tryz
open Go Go.Vs
variable {A : Oracle}

def DatasP (ds7 : List DataD) (r : V × List Obj) : Prop := ∃ ds, (∀ d ∈ ds, d ∈ ds7) ∧ goodDs ds ∧ r = (datasV ds, [])
def DatasI (bits : Int) (ds7 : List DataD) (i : Nat) (s : St) : Prop := ∃ ds : List DataD, ds.length ≤ i + 1 ∧ (∀ d ∈ ds, d ∈ ds7 ∧ goodD d) ∧
  s = ⟨[(0, intV bits), (3, datasV ds7), (4, .sc (.arr 257 ds.length)), (5, intV i)], [(257, some (.arr 4 (wr (dataRows ds)) 0))]⟩
@[simp] theorem dataRows0 : dataRows [] = [] := rfl
@[simp] theorem dataRows1 (d : DataD) : wr (dataRows [d]) = [wc (dataRow d)] := rfl

set_option maxHeartbeats 2000000 in
theorem datas21 (bits : Int) (ds7 : List DataD) (h7 : ds7.length = 7) (hg : ∀ d ∈ ds7, goodD d) (h55 : (K A).call 23 [] [] = some (datasV ds7, [])) :
    ∃ r, DatasP ds7 r ∧ (K A).call 7 [intV bits] [] = some r := by
  refine fn_ofE _ (vf := v7) (by kernel_rfl) rfl (by simp) ?_
  obtain ⟨d1, hd1⟩ := get_of_lt (l := ds7) (i := 1) (by omega)
  have hgd1 := hg d1 (List.mem_of_getElem? hd1)
  have fin : ∀ s, DatasI bits ds7 0 s → wp (K A) (.loop l7_0) (blockQ 0 (thenQ (K A) (.seq (.region [] [o 44 (.mv (tv 4)), o 2 (.mv (tv 44))] [] [2]) .ret) (endsQ false 0 [.tmp 2] (DatasP ds7)))) s := by
    intro s hs
    refine wp_loopI (DatasI bits ds7) 7 hs ?_ ?_
    · rintro i s hi ⟨ds, hds1, hds2, rfl⟩
      obtain ⟨d, hd⟩ := get_of_lt (l := ds7) (i := i) (by omega)
      have hgd := hg d (List.mem_of_getElem? hd)
      have hi2 : (i : Int) < 7 := by omega
      unfold l7_0
      by_cases hi1 : i = 1
      · subst hi1
        simp (disch := first | omega | (simp; done) | (simp; omega)) [h7, hd, -getElem?_pos]
        exact ⟨ds, by omega, hds2, by simp⟩
      · have hi1' : ¬ (i : Int) = 1 := by omega
        by_cases hb : andI .i64 (shrI .i64 bits i) 1 = 1
        · simp (disch := first | omega | (simp; done) | (simp; omega)) [h7, hd, hi2, hi1', hb, -getElem?_pos]
          refine ⟨ds ++ [d], by simp; omega, ?_, by simp⟩
          intro x hx
          rcases List.mem_append.1 hx with hx | hx
          · exact hds2 x hx
          · simp only [List.mem_singleton] at hx
            exact hx ▸ ⟨List.mem_of_getElem? hd, hgd⟩
        · simp (disch := first | omega | (simp; done) | (simp; omega)) [h7, hd, hi2, hi1', hb, -getElem?_pos]
          exact ⟨ds, by omega, hds2, by simp⟩
    · rintro s ⟨ds, hds1, hds2, rfl⟩
      unfold l7_0
      simp (disch := first | omega | (simp; done) | (simp; omega)) [h7]
      exact ⟨ds, fun d hd => (hds2 d hd).1, ⟨by omega, fun d hd => (hds2 d hd).2⟩, rfl⟩
  unfold v7
  by_cases h1 : andI .i64 bits 2 = 0
  · by_cases h2 : andI .i64 bits 64 = 0
    · simp (disch := first | omega | (simp; done) | (simp; omega)) [h55, h1, h2, -getElem?_pos]
      exact fin _ ⟨[], by simp, by simp, by simp⟩
    · simp (disch := first | omega | (simp; done) | (simp; omega)) [h55, h1, h2, h7, hd1, -getElem?_pos]
      exact fin _ ⟨[d1], by simp, by simp [hgd1, List.mem_of_getElem? hd1], by simp⟩
  · simp (disch := first | omega | (simp; done) | (simp; omega)) [h55, h1, h7, hd1, -getElem?_pos]
    exact fin _ ⟨[d1], by simp, by simp [hgd1, List.mem_of_getElem? hd1], by simp⟩

def MadeP (L : List Int) (r : V × List Obj) : Prop := ∃ a b J, a.wf ∧ a.weight ≤ 32 ^ 4 ∧ b.wf ∧ b.weight ≤ 32 ^ 3 ∧ J ≤ L.length ∧ r = (.tu [expV a, expV b, .sc (.ptr 0 0)], [tapeO L J])

def BoolP (r : V × List Obj) : Prop := ∃ b, r = (boolV b, [])

end Go.Vs.Tryz
