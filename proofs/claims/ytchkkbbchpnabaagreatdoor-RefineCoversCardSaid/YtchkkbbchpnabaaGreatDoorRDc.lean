/- Raw expressions, walked: all that is known of them. -/
import Derived.Test.YtchkkbbchpnabaaGreatDoorR1c
import Derived.Test.YtchkkbbchpnabaaGreatDoorR7c
import Derived.Test.YtchkkbbchpnabaaGreatDoorR5c
set_option linter.unusedSimpArgs false
set_option linter.unusedVariables false
set_option linter.deprecated false

/- Raw expressions, walked: all that is known of them. -/
namespace Go.Vs.Tryz
open Go Go.Vs
variable {A : Oracle}

@[simp] theorem tz_size : tz.size ≤ 46656 := by decide
/-- A constructor's name. -/
def cOk (ds : List DataD) (s : Str) : Prop := s = [71, 111, 110, 101] ∨ ∃ d ∈ ds, ∃ c ∈ d.cons, s = c.name
/-- The shapes of raw expressions. -/
def rawS (ds : List DataD) (e : Exp) : Prop :=
  (e.kind = 1 ∧ e.name ∈ varNames ∧ e.kids = [] ∧ e.arms = []) ∨ (e.kind = 2 ∧ cOk ds e.name ∧ e.kids = [] ∧ e.arms = []) ∨ ((e.kind = 3 ∨ e.kind = 10) ∧ e.name = [] ∧ e.kids = [] ∧ e.arms = []) ∨
  (e.kind = 4 ∧ e.name ∈ varNames ∧ (∃ x, e.kids = [x]) ∧ e.arms = []) ∨ (e.kind = 5 ∧ e.name = [] ∧ (∃ x y, e.kids = [x, y]) ∧ e.arms = []) ∨ ((e.kind = 6 ∨ e.kind = 7) ∧ e.name ∈ varNames ∧ (∃ x y, e.kids = [x, y]) ∧ e.arms = []) ∨
  ((e.kind = 9 ∨ e.kind = 11) ∧ e.name = [] ∧ (∃ x, e.kids = [x]) ∧ e.arms = []) ∨ (e.kind = 8 ∧ e.name = [] ∧ ∃ x, e.kids = [x])
def armE (ds : List DataD) (a : ArmH × Exp) : Prop := a.1.pos = 0 ∧ cOk ds a.1.con ∧ a.1.vars.length ≤ 4 ∧ ∀ v ∈ a.1.vars, v ∈ varNames
def rawE1 (ds : List DataD) (e : Exp) : Prop := e.pos = 0 ∧ (∀ a ∈ e.arms, armE ds a) ∧ e.ty.size ≤ 46656 ∧ (e.kind ≠ 9 → e.ty = tz) ∧ (e.kind ≠ 3 → e.num = 0) ∧ rawS ds e
def rawE (ds : List DataD) (e : Exp) : Prop := e.fold fun e l => rawE1 ds e ∧ ∀ p ∈ l, p
theorem rawE_eq (ds : List DataD) (e : Exp) : rawE ds e = (rawE1 ds e ∧ ∀ x ∈ e.children, rawE ds x) := by
  have := Exp.fold_eq (fun e (l : List Prop) => rawE1 ds e ∧ ∀ p ∈ l, p) e
  unfold rawE
  rw [this]
  simp only [List.forall_mem_map]
theorem rawE_mk (ds : List DataD) (k p n m ks l t) : rawE ds (Exp.mk k p n m ks l t) = (rawE1 ds (Exp.mk k p n m ks l t) ∧ (∀ x ∈ ks, rawE ds x) ∧ ∀ a ∈ l, rawE ds a.2) := by
  grind [rawE_eq, Exp.kids, Exp.arms, Exp.children]
theorem rawE.one {ds : List DataD} {e : Exp} (h : rawE ds e) : rawE1 ds e := by grind [rawE_eq]
theorem rawE.child {ds : List DataD} {e x : Exp} (h : rawE ds e) (hx : x ∈ e.children) : rawE ds x := by grind [rawE_eq]
theorem rawE1.wf1 {ds : List DataD} {e : Exp} (h : rawE1 ds e) : e.wf1 := by
  obtain ⟨_, _, _, _, _, h⟩ := h
  unfold Exp.wf1
  rcases h with ⟨k, _, hk, ha⟩ | ⟨k, _, hk, ha⟩ | ⟨k, _, hk, ha⟩ | ⟨k, _, ⟨x, hk⟩, ha⟩ | ⟨k, _, ⟨x, y, hk⟩, ha⟩ | ⟨k, _, ⟨x, y, hk⟩, ha⟩ | ⟨k, _, ⟨x, hk⟩, ha⟩ | ⟨k, _, x, hk⟩ <;> grind
theorem rawE.wf {ds : List DataD} {e : Exp} : rawE ds e → e.wf := by
  induction e using Exp.ind with
  | h e ih =>
    intro h
    rw [Exp.wf_eq]
    exact ⟨h.one.wf1, fun x hx => ih x hx (h.child hx)⟩
theorem rawE.tyBd {ds : List DataD} {e : Exp} : rawE ds e → tyBd e := by
  induction e using Exp.ind with
  | h e ih =>
    intro h
    rw [tyBd_eq]
    exact ⟨Nat.le_trans h.one.2.2.1 (by decide), fun x hx => ih x hx (h.child hx)⟩

set_option maxHeartbeats 2000000 in
theorem type70S (L : List Int) (ds : List DataD) (hL : L.length ≤ 687194767360) (hds : goodDs ds) : ∀ (d I : Nat), d ≤ 100 → I ≤ L.length →
    ∃ r, TypeS L (5 ^ d) r ∧ (K A).call 22 [.sc (.ptr 0 0), datasV ds, .sc (.c (.sl [])), intV d] [tapeO L I] = some r := by
  intro d
  have intSz : (Ty.mk 4 [73, 110, 116] 0 0 []).size = 1 := Ty.size_leaf
  induction d with
  | zero =>
    intro I _ hI
    obtain ⟨k, J, hk, hJ, hc⟩ := next37 (A := A) L I 7 hI hL (by omega) (by omega)
    refine fn_ofE _ (vf := v22) (by rfl) rfl (by simp) ?_
    have hi := int29 (A := A)
    unfold v22
    by_cases h3 : k < 3
    · have h3' : (k : Int) < 3 := by omega
      have h4' : (k : Int) < 4 := by omega
      simp (disch := first | omega | (simp; done) | (simp; omega)) [hc, hi, h3', h4']
      exact ⟨_, J, by omega, hJ, rfl⟩
    · have h3' : ¬ (k : Int) < 3 := by omega
      by_cases h4 : k < 4
      · have h4' : (k : Int) < 4 := by omega
        simp (disch := first | omega | (simp; done) | (simp; omega)) [hc, hi, h3', h4']
        exact ⟨_, J, by omega, hJ, rfl⟩
      · have h4' : ¬ (k : Int) < 4 := by omega
        simp (disch := first | omega | (simp; done) | (simp; omega)) [hc, hi, h3', h4']
        exact ⟨_, J, by omega, hJ, rfl⟩
  | succ d ih =>
    intro I hd hI
    obtain ⟨k, J, hk, hJ, hc⟩ := next37 (A := A) L I 7 hI hL (by omega) (by omega)
    have hi := int29 (A := A)
    have hn : Ty.rows [] = [] := by rfl
    have hd1 : ¬ (d : Int) + 1 < 1 := by omega
    have hp : 1 ≤ 5 ^ d := Nat.pos_of_ne_zero (by simp)
    have hp1 : 5 ^ (d + 1) = 5 * 5 ^ d := by omega
    refine fn_ofE _ (vf := v22) (by rfl) rfl (by simp) ?_
    by_cases h4 : k < 4
    · have h4' : (k : Int) < 4 := by omega
      unfold v22
      by_cases h3 : k < 3
      · have h3' : (k : Int) < 3 := by omega
        simp (disch := first | omega | (simp; done) | (simp; omega)) [hc, hi, h3', h4']
        exact ⟨_, J, by omega, hJ, rfl⟩
      · have h3' : ¬ (k : Int) < 3 := by omega
        simp (disch := first | omega | (simp; done) | (simp; omega)) [hc, hi, h3', h4']
        exact ⟨_, J, by omega, hJ, rfl⟩
    · have h3' : ¬ (k : Int) < 3 := by omega
      have h4' : ¬ (k : Int) < 4 := by omega
      by_cases hdata : ds ≠ [] ∧ k < 6
      · have hpos : 0 < ds.length := List.length_pos_iff.2 hdata.1
        have hds1 := hds.1
        obtain ⟨m, J1, hm, hJ1, hc1⟩ := next37 (A := A) L J ds.length hJ hL (by omega) (by omega)
        obtain ⟨dd, hdd⟩ := get_of_lt (l := ds) (i := m) (by omega)
        have hgood := hds.2 dd (List.mem_of_getElem? hdd)
        have hm' : (m : Int) < ds.length := hm
        have fin : wp (K A) (.loop l22_0) (blockQ 1 (thenQ (K A) (.seq (.region [] [o 77 (.fld 1 (tv 10)), o 78 (.load false 1 (tv 77)), o 79 (.mv (tv 11)), oa 80 (.call (kf 47) [(false, (tv 78)), (false, (tv 79))] []) 4992, on (.store 5 (tv 8) (tv 80) [])] [] [8]) .ret)
            (blockQ 0 (thenQ (K A) (.seq (.region [] [o 81 (.mv (tv 0)), o 82 (.mv (tv 1)), o 83 (.mv (tv 2)), o 84 (.mv (tv 3)), o 85 (.bin .sub 0 (tv 84) (ki 1)), oa 86 (.call (kf 22) [(true, (tv 81)), (false, (tv 82)), (false, (tv 83)), (false, (tv 85))] []) 5440, oa 13 (.new [zi, zs, zi, zi, .nil] []) 5504, on (.store 5 (tv 13) (tv 86) [])] [] [0, 1, 2, 3, 8, 13])
              (.seq (.region [] [o 87 (.load true 5 (tv 13)), o 88 (.mv (tv 0)), o 89 (.mv (tv 1)), o 90 (.mv (tv 2)), o 91 (.mv (tv 3)), o 92 (.bin .sub 0 (tv 91) (ki 1)), oa 93 (.call (kf 22) [(true, (tv 88)), (false, (tv 89)), (false, (tv 90)), (false, (tv 92))] []) 6016, oa 94 (.call (kf 48) [(false, (tv 87)), (false, (tv 93))] []) 6080, on (.store 5 (tv 8) (tv 94) [])] [(0, 6)] [8]) .ret)) (endsQ false 1 [.cell 8 true 5] (TypeS L (5 ^ (d + 1))))))))
            ⟨[(0, .sc (.ptr 0 0)), (1, datasV ds), (2, .sc (.c (.sl []))), (3, intV (d + 1)), (8, .sc (.ptr 64 0)), (10, .sc (.ptr 3392 0)), (11, .sc (.arr 3521 0)), (12, intV 0)],
              [(0, some (tapeO L J1)), (64, some (.box [zi, zs, zi, zi, .nil])), (3392, some (.box (wc (dataRow dd)))), (3521, some (.arr 5 [] 0))]⟩ := by
          refine wp_loopI (TypeJ L ds [] dd d) dd.params.length ⟨[], J1, rfl, by simp, hJ1, by rfl⟩ ?_ ?_
          · rintro i s hi' ⟨tys, J2, ht, hts, hJ2, rfl⟩
            obtain ⟨r, ⟨ty, J3, hty, hJ3, rfl⟩, hc2⟩ := ih J2 (by omega) hJ2
            have hip := hgood.1
            unfold l22_0
            simp (disch := first | omega | (simp; done) | (simp; omega)) [hi', hc2, ht]
            refine ⟨tys ++ [ty], J3, by grind, ?_, hJ3, by simp⟩
            grind
          · rintro s ⟨tys, J2, ht, hts, hJ2, rfl⟩
            have hip := hgood.1
            have hcon := con65 (A := A) dd.name tys (by omega)
            unfold l22_0
            simp (disch := first | omega | (simp; done) | (simp; omega)) [hcon, ht, -getElem?_pos]
            refine ⟨_, J2, ?_, hJ2, rfl⟩
            have hs := sizes_le hts
            have hm4 : tys.length * 5 ^ d ≤ 4 * 5 ^ d := Nat.mul_le_mul_right _ (by omega)
            grind [Ty.size, Ty.sizes_map]
        by_cases hk4 : k = 4
        · unfold v22
          simp (disch := first | omega | (simp; done) | (simp; omega)) [hc, hi, h3', h4', hd1, hk4, hdata.1, hpos, hc1, hdd, -getElem?_pos]
          omega
        · have hk5 : k = 5 := by omega
          unfold v22
          simp (disch := first | omega | (simp; done) | (simp; omega)) [hc, hi, h3', h4', hd1, hk5, hdata.1, hpos, hc1, hdd, -getElem?_pos]
          omega
      · obtain ⟨r1, ⟨t1, J1, ht1, hJ1, rfl⟩, hc1⟩ := ih J (by omega) hJ
        obtain ⟨r2, ⟨t2, J2, ht2, hJ2, rfl⟩, hc2⟩ := ih J1 (by omega) hJ1
        have har := arrow79 (A := A) t1 t2
        have hsz : (Ty.mk 4 [45, 62] 0 0 [t1, t2]).size ≤ 5 ^ (d + 1) := by
          grind [Ty.size, Ty.sizes]
        have hb4 : ¬ ((k : Int) = 4 ∧ 0 < ds.length) := by
          grind
        have hb5 : ¬ ((k : Int) = 5 ∧ 0 < ds.length) := by
          grind
        unfold v22
        by_cases hz : ds = []
        · subst hz
          have hz2 : dataRows [] = [] := rfl
          simp only [datasV, hz2] at hc1 hc2
          by_cases hk4 : (k : Int) = 4
          · simp (disch := first | omega | (simp; done) | (simp; omega)) [hc, hi, h3', h4', hd1, hk4, hc1, hc2, har, -getElem?_pos]
            exact ⟨_, J2, hsz, hJ2, rfl⟩
          · by_cases hk5 : (k : Int) = 5
            · simp (disch := first | omega | (simp; done) | (simp; omega)) [hc, hi, h3', h4', hd1, hk4, hk5, hc1, hc2, har]
              exact ⟨_, J2, hsz, hJ2, rfl⟩
            · simp (disch := first | omega | (simp; done) | (simp; omega)) [hc, hi, h3', h4', hd1, hk4, hk5, hc1, hc2, har]
              exact ⟨_, J2, hsz, hJ2, rfl⟩
        · have hk4 : ¬ (k : Int) = 4 := fun h => hdata ⟨hz, by omega⟩
          have hk5 : ¬ (k : Int) = 5 := fun h => hdata ⟨hz, by omega⟩
          simp (disch := first | omega | (simp; done) | (simp; omega)) [hc, hi, h3', h4', hd1, hk4, hk5, hc1, hc2, har, -getElem?_pos]
          exact ⟨_, J2, hsz, hJ2, rfl⟩


/-- A bound of the weights. -/
def wB (d : Nat) : Nat := 32 * 8 ^ d
theorem wB_pos (d : Nat) : 32 ≤ wB d := by
  grind [wB]
theorem wB_succ (d : Nat) : wB (d + 1) = 8 * wB d := by
  grind [wB]
/-- A made expression, of bounded weight; the tape read on. -/
def RawQ (L : List Int) (ds : List DataD) (B : Nat) (r : V × List Obj) : Prop := ∃ e J, rawE ds e ∧ e.weight ≤ B ∧ J ≤ L.length ∧ r = (expV e, [tapeO L J])

/-- Ahead of the i-th arm. -/
def ArmQ (L : List Int) (ds : List DataD) (dd : DataD) (x : Exp) (B d i : Nat) (s : St) : Prop := ∃ arms J, arms.length = i ∧ J ≤ L.length ∧ (∀ a ∈ arms, armE ds a ∧ rawE ds a.2 ∧ a.2.weight ≤ B) ∧
  s = ⟨[(0, .sc (.ptr 0 0)), (1, datasV ds), (2, intV (d + 1)), (6, .sc (.ptr 64 0)), (13, .sc (.ptr 10176 0)), (14, .sc (.ptr 10752 0)), (15, intV i)],
    [(0, some (tapeO L J)), (64, some (.box [zi, zi, zs, zi, .nil, .nil, zi, zs, zi, zi, .nil])), (10176, some (.box (wc (dataRow dd)))), (10624, some (.arr 11 [wc x.row] 0)),
      (10752, some (.box [.c (.int .i64 8), zi, zs, zi, .arr 10624 1, .arr 10822 i, zi, zs, zi, zi, .nil])), (10822, some (.arr 14 (wr (Exp.armRows arms)) 0))]⟩
/-- Ahead of the j-th variable of the i-th arm. -/
def VarQ (L : List Int) (ds : List DataD) (dd : DataD) (x : Exp) (arms : List (ArmH × Exp)) (con : Str) (d i j : Nat) (s : St) : Prop := ∃ vars J, vars.length = j ∧ (∀ v ∈ vars, v ∈ varNames) ∧ J ≤ L.length ∧
  s = ⟨[(0, .sc (.ptr 0 0)), (1, datasV ds), (2, intV (d + 1)), (6, .sc (.ptr 64 0)), (13, .sc (.ptr 10176 0)), (14, .sc (.ptr 10752 0)), (15, intV i), (16, .sc (.ptr 11712 0)), (17, intV j)],
    [(0, some (tapeO L J)), (64, some (.box [zi, zi, zs, zi, .nil, .nil, zi, zs, zi, zi, .nil])), (10176, some (.box (wc (dataRow dd)))), (10624, some (.arr 11 [wc x.row] 0)),
      (10752, some (.box [.c (.int .i64 8), zi, zs, zi, .arr 10624 1, .arr 10822 i, zi, zs, zi, zi, .nil])), (10822, some (.arr 14 (wr (Exp.armRows arms)) 0)),
      (11712, some (.box [zi, .c (.str con), .arr 11779 j, zi, zi, zs, zi, .nil, .nil, zi, zs, zi, zi, .nil])), (11779, some (.arr 1 (wr (strRows vars)) 0))]⟩

set_option maxHeartbeats 8000000 in
theorem raw22 (L : List Int) (ds : List DataD) (hL : L.length ≤ 687194767360) (hds : goodDs ds) : ∀ (d I : Nat), d ≤ 4 → I ≤ L.length →
    ∃ r, RawQ L ds (wB d) r ∧ (K A).call 6 [.sc (.ptr 0 0), datasV ds, intV d] [tapeO L I] = some r := by
  intro d
  induction d using Nat.strongRecOn with
  | ind d ih =>
  intro I hd hI
  obtain ⟨k, J, hk, hJ, hc⟩ := next37 (A := A) L I 14 hI hL (by omega) (by omega)
  refine fn_ofE _ (vf := v6) (by rfl) rfl (by simp) ?_
  have hp : 1 ≤ wB d := by have := wB_pos d; omega
  have hds1 := hds.1
  obtain ⟨c, hc14, hcd, hcs⟩ : ∃ c : Nat, c < 14 ∧ (d = 0 → c < 5) ∧ ((d = 0 ∧ (k : Int).tmod 5 = c) ∨ (d ≠ 0 ∧ k = c)) := by
    by_cases h : d = 0
    · refine ⟨k % 5, by omega, fun _ => by omega, .inl ⟨h, rfl⟩⟩
    grind
  unfold v6
  refine wp_seqE ⟨[(0, .sc (.ptr 0 0)), (1, datasV ds), (2, intV d), (6, .sc (.ptr 64 0))], [(0, some (tapeO L I)), (64, some (.box [zi, zi, zs, zi, .nil, .nil, zi, zs, zi, zi, .nil]))]⟩ (by simp) ?_
  refine wp_seqE ⟨[(0, .sc (.ptr 0 0)), (1, datasV ds), (2, intV d), (6, .sc (.ptr 64 0)), (7, intV k)], [(0, some (tapeO L J)), (64, some (.box [zi, zi, zs, zi, .nil, .nil, zi, zs, zi, zi, .nil]))]⟩ (by simp [hc]) ?_
  refine wp_seqI (fun s => s = ⟨[(0, .sc (.ptr 0 0)), (1, datasV ds), (2, intV d), (6, .sc (.ptr 64 0)), (7, intV c)], [(0, some (tapeO L J)), (64, some (.box [zi, zi, zs, zi, .nil, .nil, zi, zs, zi, zi, .nil]))]⟩ ∨
    s = ⟨[(0, .sc (.ptr 0 0)), (1, datasV ds), (2, intV d), (6, .sc (.ptr 64 0)), (7, intV c), (21, boolV false)], [(0, some (tapeO L J)), (64, some (.box [zi, zi, zs, zi, .nil, .nil, zi, zs, zi, zi, .nil]))]⟩) ?_ ?_
  · rcases hcs with ⟨h0, h1⟩ | ⟨h0, rfl⟩
    simp_all
    · have h0' : ¬ (d : Int) < 1 := by omega
      simp (disch := first | omega | (simp; done) | (simp; omega)) [h0']
  · intro s hs
    refine wp_assocE ⟨[(0, .sc (.ptr 0 0)), (1, datasV ds), (2, intV d), (6, .sc (.ptr 64 0)), (24, intV c)], [(0, some (tapeO L J)), (64, some (.box [zi, zi, zs, zi, .nil, .nil, zi, zs, zi, zi, .nil]))]⟩ (by rcases hs with rfl | rfl <;> simp) ?_
    clear hs s hcs hc hk
    have leaf : ∀ (kind num : Int) (name : Str) (J : Nat), J ≤ L.length → rawE1 ds (.mk kind 0 name num [] [] tz) → RawQ L ds (wB d) (expV (.mk kind 0 name num [] [] tz), [tapeO L J]) := by
      intro kind num name J hJ h8
      refine ⟨_, J, ?_, ?_, hJ, rfl⟩ <;> grind [rawE_mk, weight_mk]
    by_cases h5 : c < 5
    · have : c = 0 ∨ c = 1 ∨ c = 2 ∨ c = 3 ∨ c = 4 := by omega
      rcases this with rfl | rfl | rfl | rfl | rfl
      · obtain ⟨s, J1, hs, hJ1, hc1⟩ := variable38 (A := A) L J hJ hL
        simp (disch := first | omega | (simp; done) | (simp; omega)) [hc1]
        exact leaf 1 0 s J1 hJ1 (by simp [rawE1, rawS, Exp.kind, Exp.pos, Exp.name, Exp.num, Exp.kids, Exp.arms, Exp.ty, hs])
      · obtain ⟨s, J1, hs, hJ1, hc1⟩ := variable38 (A := A) L J hJ hL
        simp (disch := first | omega | (simp; done) | (simp; omega)) [hc1]
        exact leaf 1 0 s J1 hJ1 (by simp [rawE1, rawS, Exp.kind, Exp.pos, Exp.name, Exp.num, Exp.kids, Exp.arms, Exp.ty, hs])
      · obtain ⟨n, J1, _, hJ1, hc1⟩ := next37 (A := A) L J 4 hJ hL (by omega) (by omega)
        simp (disch := first | omega | (simp; done) | (simp; omega)) [hc1]
        exact leaf 3 n [] J1 hJ1 (by simp [rawE1, rawS, Exp.kind, Exp.pos, Exp.name, Exp.num, Exp.kids, Exp.arms, Exp.ty])
      · by_cases hz : ds = []
        · subst hz
          have hz2 : dataRows [] = [] := rfl
          simp (disch := first | omega | (simp; done) | (simp; omega)) [hz2]
          exact leaf 2 0 [71, 111, 110, 101] J hJ (by simp [rawE1, rawS, Exp.kind, Exp.pos, Exp.name, Exp.num, Exp.kids, Exp.arms, Exp.ty, cOk])
        · have hpos : 0 < ds.length := List.length_pos_iff.2 hz
          obtain ⟨m, J1, hm, hJ1, hc1⟩ := next37 (A := A) L J ds.length hJ hL (by omega) (by omega)
          obtain ⟨dd, hdd⟩ := get_of_lt (l := ds) (i := m) (by omega)
          have hgood := hds.2 dd (List.mem_of_getElem? hdd)
          obtain ⟨q, J2, hq, hJ2, hc2⟩ := next37 (A := A) L J1 dd.cons.length hJ1 hL (by have := hgood.2.1; omega) (by have := hgood.2.2.1; omega)
          obtain ⟨cc, hcc⟩ := get_of_lt (l := dd.cons) (i := q) (by omega)
          simp (disch := first | omega | (simp; done) | (simp; omega)) [hpos, hc1, hdd, hc2, hcc, -getElem?_pos]
          have hcok : cOk ds cc.name := .inr ⟨dd, List.mem_of_getElem? hdd, cc, List.mem_of_getElem? hcc, rfl⟩
          exact leaf 2 0 cc.name J2 hJ2 (by simp [rawE1, rawS, Exp.kind, Exp.pos, Exp.name, Exp.num, Exp.kids, Exp.arms, Exp.ty, hcok])
      · simp (disch := first | omega | (simp; done) | (simp; omega))
        exact leaf 10 0 [] J hJ (by simp [rawE1, rawS, Exp.kind, Exp.pos, Exp.name, Exp.num, Exp.kids, Exp.arms, Exp.ty])
    · obtain ⟨d', rfl⟩ : ∃ d', d = d' + 1 := ⟨d - 1, by omega⟩
      have ih1 : ∀ I, I ≤ L.length → ∃ r, RawQ L ds (wB d') r ∧ (K A).call 6 [.sc (.ptr 0 0), datasV ds, intV d'] [tapeO L I] = some r := fun I hI => ih d' (by omega) I (by omega) hI
      have hp' := wB_pos d'
      have h32 : wB (d' + 1) = 8 * wB d' := wB_succ d'
      rw [h32]
      have : c = 5 ∨ c = 6 ∨ c = 7 ∨ c = 8 ∨ c = 9 ∨ c = 10 ∨ c = 11 ∨ c = 12 ∨ c = 13 := by omega
      rcases this with rfl | rfl | rfl | rfl | rfl | rfl | rfl | rfl | rfl
      · obtain ⟨s, J1, hs, hJ1, hc1⟩ := variable38 (A := A) L J hJ hL
        obtain ⟨_, ⟨x, J2, hx, hxw, hJ2, rfl⟩, hc2⟩ := ih1 J1 hJ1
        simp (disch := first | omega | (simp; done) | (simp; omega)) [hc1, hc2]
        refine ⟨.mk 4 0 s 0 [x] [] tz, J2, by rw [rawE_mk]; simp [rawE1, rawS, Exp.kind, Exp.pos, Exp.name, Exp.num, Exp.kids, Exp.arms, Exp.ty, hx, hs], by grind [weight_mk], hJ2, ?_⟩
        rfl
      · obtain ⟨s, J1, hs, hJ1, hc1⟩ := variable38 (A := A) L J hJ hL
        obtain ⟨_, ⟨x, J2, hx, hxw, hJ2, rfl⟩, hc2⟩ := ih1 J1 hJ1
        simp (disch := first | omega | (simp; done) | (simp; omega)) [hc1, hc2]
        refine ⟨.mk 4 0 s 0 [x] [] tz, J2, by rw [rawE_mk]; simp [rawE1, rawS, Exp.kind, Exp.pos, Exp.name, Exp.num, Exp.kids, Exp.arms, Exp.ty, hx, hs], by grind [weight_mk], hJ2, ?_⟩
        rfl
      · obtain ⟨_, ⟨x, J1, hx, hxw, hJ1, rfl⟩, hc1⟩ := ih1 J hJ
        obtain ⟨_, ⟨y, J2, hy, hyw, hJ2, rfl⟩, hc2⟩ := ih1 J1 hJ1
        simp (disch := first | omega | (simp; done) | (simp; omega)) [hc1, hc2]
        refine ⟨.mk 5 0 [] 0 [x, y] [] tz, J2, by rw [rawE_mk]; simp [rawE1, rawS, Exp.kind, Exp.pos, Exp.name, Exp.num, Exp.kids, Exp.arms, Exp.ty, hx, hy], by grind [weight_mk], hJ2, ?_⟩
        rfl
      · obtain ⟨_, ⟨x, J1, hx, hxw, hJ1, rfl⟩, hc1⟩ := ih1 J hJ
        obtain ⟨_, ⟨y, J2, hy, hyw, hJ2, rfl⟩, hc2⟩ := ih1 J1 hJ1
        simp (disch := first | omega | (simp; done) | (simp; omega)) [hc1, hc2]
        refine ⟨.mk 5 0 [] 0 [x, y] [] tz, J2, by rw [rawE_mk]; simp [rawE1, rawS, Exp.kind, Exp.pos, Exp.name, Exp.num, Exp.kids, Exp.arms, Exp.ty, hx, hy], by rw [weight_mk]; simp; omega, hJ2, ?_⟩
        simp [expV, Exp.row, tz, Ty.kind, Ty.name, Ty.id, Ty.home, Ty.args]
      · obtain ⟨_, ⟨x, J1, hx, hxw, hJ1, rfl⟩, hc1⟩ := ih1 J hJ
        obtain ⟨_, ⟨y, J2, hy, hyw, hJ2, rfl⟩, hc2⟩ := ih1 J1 hJ1
        simp (disch := first | omega | (simp; done) | (simp; omega)) [hc1, hc2]
        refine ⟨.mk 5 0 [] 0 [x, y] [] tz, J2, by rw [rawE_mk]; simp [rawE1, rawS, Exp.kind, Exp.pos, Exp.name, Exp.num, Exp.kids, Exp.arms, Exp.ty, hx, hy], by rw [weight_mk]; simp; omega, hJ2, ?_⟩
        simp [expV, Exp.row, tz, Ty.kind, Ty.name, Ty.id, Ty.home, Ty.args]
      · obtain ⟨n, J0, hn, hJ0, hc0⟩ := next37 (A := A) L J 2 hJ hL (by omega) (by omega)
        obtain ⟨s, J1, hs, hJ1, hc1⟩ := variable38 (A := A) L J0 hJ0 hL
        obtain ⟨_, ⟨x, J2, hx, hxw, hJ2, rfl⟩, hc2⟩ := ih1 J1 hJ1
        obtain ⟨_, ⟨y, J3, hy, hyw, hJ3, rfl⟩, hc3⟩ := ih1 J2 hJ2
        simp (maxSteps := 4000000) (disch := first | omega | (simp; done) | (simp; omega)) [hc0, hc1, hc2, hc3]
        refine ⟨.mk (6 + n) 0 s 0 [x, y] [] tz, J3, by rw [rawE_mk]; simp [rawE1, rawS, Exp.kind, Exp.pos, Exp.name, Exp.num, Exp.kids, Exp.arms, Exp.ty, hx, hy, hs]; omega, by grind [weight_mk], hJ3, ?_⟩
        rfl
      · obtain ⟨_, ⟨x, J1, hx, hxw, hJ1, rfl⟩, hc1⟩ := ih1 J hJ
        obtain ⟨_, ⟨ty, J2, hty, hJ2, rfl⟩, hc2⟩ := type70S (A := A) L ds hL hds 2 J1 (by omega) hJ1
        simp at hc2
        simp (disch := first | omega | (simp; done) | (simp; omega)) [hc1, hc2]
        have hty' : ty.size ≤ 46656 := by omega
        refine ⟨.mk 9 0 [] 0 [x] [] ty, J2, by grind [rawE_mk, rawE1, rawS, Exp.kind, Exp.pos, Exp.name, Exp.num, Exp.kids, Exp.arms, Exp.ty], by grind [weight_mk], hJ2, ?_⟩
        simp [expV, Exp.row, Ty.row_eq]
      · obtain ⟨_, ⟨x, J1, hx, hxw, hJ1, rfl⟩, hc1⟩ := ih1 J hJ
        simp (disch := first | omega | (simp; done) | (simp; omega)) [hc1]
        refine ⟨.mk 11 0 [] 0 [x] [] tz, J1, by rw [rawE_mk]; simp [rawE1, rawS, Exp.kind, Exp.pos, Exp.name, Exp.num, Exp.kids, Exp.arms, Exp.ty, hx], by grind [weight_mk], hJ1, ?_⟩
        rfl
      · by_cases hz : ds = []
        · subst hz
          have hz2 : dataRows [] = [] := rfl
          obtain ⟨_, ⟨x, J1, hx, hxw, hJ1, rfl⟩, hc1⟩ := ih1 J hJ
          simp [datasV, hz2] at hc1
          simp (disch := first | omega | (simp; done) | (simp; omega)) [datasV, hz2, hc1]
          exact ⟨x, J1, hx, by omega, hJ1, rfl⟩
        · have hpos : ds.length ≠ 0 := by grind
          obtain ⟨m, J1, hm, hJ1, hc1⟩ := next37 (A := A) L J ds.length hJ hL (by omega) (by omega)
          obtain ⟨dd, hdd⟩ := get_of_lt (l := ds) (i := m) (by omega)
          have hgood := hds.2 dd (List.mem_of_getElem? hdd)
          obtain ⟨hg1, hg2, hg3, hg4⟩ := hgood
          obtain ⟨_, ⟨x, J2, hx, hxw, hJ2, rfl⟩, hc2⟩ := ih1 J1 hJ1
          simp (disch := first | omega | (simp; done) | (simp; omega)) [hz, hc1, hdd, hc2, -getElem?_pos]
          refine wp_loopI (ArmQ L ds dd x (wB d') d') dd.cons.length ⟨[], J2, rfl, hJ2, by simp, by simp⟩ ?_ ?_
          · rintro i s hi ⟨arms, J3, harms, hJ3, hall, rfl⟩
            obtain ⟨cc, hcc⟩ := get_of_lt hi
            have hfl := hg4 cc (List.mem_of_getElem? hcc)
            unfold l6_1
            simp (disch := first | omega | (simp; done) | (simp; omega)) [hi, hcc, harms, -getElem?_pos]
            refine wp_loopI (VarQ L ds dd x arms cc.name d' i) cc.fields.length ⟨[], J3, rfl, by simp, hJ3, by rfl⟩ ?_ ?_
            · rintro j s hj ⟨vars, J4, hvars, hvn, hJ4, rfl⟩
              obtain ⟨v, J5, hv, hJ5, hc5⟩ := variable38 (A := A) L J4 hJ4 hL
              unfold l6_0
              simp (disch := first | omega | (simp; done) | (simp; omega)) [hi, hj, hcc, hc5, hvars, harms, -getElem?_pos]
              refine ⟨vars ++ [v], J5, by grind, ?_, hJ5, by rfl⟩
              grind
            · rintro s ⟨vars, J4, hvars, hvn, hJ4, rfl⟩
              obtain ⟨_, ⟨y, J5, hy, hyw, hJ5, rfl⟩, hc5⟩ := ih1 J4 hJ4
              unfold l6_0
              simp (disch := first | omega | (simp; done) | (simp; omega)) [hi, hcc, hc5, hvars, harms, -getElem?_pos]
              refine ⟨arms ++ [(⟨0, cc.name, vars⟩, y)], J5, by grind, hJ5, ?_, ?_⟩
              · intro a ha
                rcases List.mem_append.1 ha with ha | ha
                grind
                · simp only [List.mem_singleton] at ha
                  subst ha
                  exact ⟨⟨rfl, .inr ⟨dd, List.mem_of_getElem? hdd, cc, List.mem_of_getElem? hcc, rfl⟩, by grind, hvn⟩, hy, hyw⟩
              · simp [harms, Exp.armRows_map, wr, armRow]
          · rintro s ⟨arms, J3, harms, hJ3, hall, rfl⟩
            unfold l6_1
            simp (disch := first | omega | (simp; done) | (simp; omega)) [harms, -getElem?_pos]
            refine ⟨.mk 8 0 [] 0 [x] arms tz, J3, ?_, ?_, hJ3, ?_⟩
            · rw [rawE_mk]
              refine ⟨?_, by grind, fun a ha => (hall a ha).2.1⟩
              refine ⟨rfl, fun a ha => (hall a ha).1, tz_size, fun _ => rfl, fun _ => rfl, ?_⟩
              grind [rawS, Exp.kind, Exp.name, Exp.kids]
            · rw [weight_mk]
              have h1 : (arms.map fun a => a.1.vars.length).sum ≤ (arms.map fun _ => 4).sum := sum_le fun a ha => (hall a ha).1.2.2.1
              have h2 : (arms.map fun a => a.2.weight).sum ≤ (arms.map fun _ => wB d').sum := sum_le fun a ha => (hall a ha).2.2
              simp only [List.map_const', List.sum_replicate_nat, harms] at h1 h2
              simp only [List.map_cons, List.map_nil, List.sum_cons, List.sum_nil]
              have h3 : dd.cons.length * wB d' ≤ 6 * wB d' := Nat.mul_le_mul_right _ hg3
              omega
            rfl


def MadeQ (ds7 : List DataD) (L : List Int) (r : V × List Obj) : Prop := ∃ a b J ds, (∀ d ∈ ds, d ∈ ds7) ∧ goodDs ds ∧ rawE ds a ∧ a.weight ≤ wB 4 ∧ rawE ds b ∧ b.weight ≤ wB 3 ∧ J ≤ L.length ∧ r = (.tu [expV a, expV b, .sc (.ptr 0 0)], [tapeO L J])

end Go.Vs.Tryz
