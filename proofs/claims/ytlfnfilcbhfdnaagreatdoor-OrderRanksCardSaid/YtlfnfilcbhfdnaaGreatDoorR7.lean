/- Raw expressions, walked. (Parts of one proof, put together.) -/
import Derived.Test.YtlfnfilcbhfdnaaGreatDoorR6
set_option linter.unusedSimpArgs false
set_option linter.unusedVariables false
set_option linter.deprecated false

/- Raw expressions, walked. -/
namespace Go.Vs.Tryz
open Go Go.Vs
variable {A : Oracle}

def tz : Ty := .mk 0 [] 0 0 []
@[simp] theorem strRows0 : strRows [] = [] := rfl
@[simp] theorem rows0 : Exp.rows [] = [] := by rw [Exp.rows]
@[simp] theorem rows1 (x : Exp) : Exp.rows [x] = [x.row] := by rw [Exp.rows, Exp.rows]
@[simp] theorem rows2 (x y : Exp) : Exp.rows [x, y] = [x.row, y.row] := by rw [Exp.rows, Exp.rows, Exp.rows]
@[simp] theorem armRows0 : Exp.armRows [] = [] := by rw [Exp.armRows]
@[simp] theorem tyRows0 : Ty.rows [] = [] := by rw [Ty.rows]

/-- A made expression: well formed, of bounded weight; the tape read on. -/
def RawP (L : List Int) (B : Nat) (r : V × List Obj) : Prop := ∃ e J, e.wf ∧ e.weight ≤ B ∧ J ≤ L.length ∧ r = (expV e, [tapeO L J])

theorem weight_mk (k p n m ks l t) : (Exp.mk k p n m ks l t).weight = 1 + (l.map fun a => a.1.vars.length).sum + ((ks.map Exp.weight).sum + (l.map fun a => a.2.weight).sum) := by
  rw [Exp.weight_eq]
  simp [Exp.children, Exp.arms, Exp.kids, List.map_map, Function.comp_def]
theorem wf_mk (k p n m ks l t) : (Exp.mk k p n m ks l t).wf = (((k = 8 → ks.length = 1) ∧ (k ≠ 8 → l = []) ∧ (k = 1 → ks = [])) ∧ (∀ x ∈ ks, x.wf) ∧ ∀ a ∈ l, a.2.wf) := by
  rw [Exp.wf_eq]
  simp only [Exp.wf1, Exp.kind, Exp.kids, Exp.arms, Exp.children, List.mem_append, List.mem_map]
  apply propext
  constructor
  · rintro ⟨h1, h2⟩
    exact ⟨h1, fun x hx => h2 x (.inl hx), fun a ha => h2 a.2 (.inr ⟨a, ha, rfl⟩)⟩
  · rintro ⟨h1, h2, h3⟩
    refine ⟨h1, ?_⟩
    rintro x (hx | ⟨a, ha, rfl⟩)
    · exact h2 x hx
    · exact h3 a ha

theorem pow_pos32 (d : Nat) : 1 ≤ 32 ^ d := Nat.pos_of_ne_zero (by simp)

/-- Ahead of the i-th arm. -/
def ArmI (L : List Int) (ds : List DataD) (dd : DataD) (x : Exp) (B d i : Nat) (s : St) : Prop := ∃ arms J, arms.length = i ∧ J ≤ L.length ∧ (∀ a ∈ arms, a.2.wf ∧ a.2.weight ≤ B ∧ a.1.vars.length ≤ 4) ∧
  s = ⟨[(0, .sc (.ptr 0 0)), (1, datasV ds), (2, intV (d + 1)), (6, .sc (.ptr 64 0)), (13, .sc (.ptr 10176 0)), (14, .sc (.ptr 10752 0)), (15, intV i)],
    [(0, some (tapeO L J)), (64, some (.box [zi, zi, zs, zi, .nil, .nil, zi, zs, zi, zi, .nil])), (10176, some (.box (wc (dataRow dd)))), (10624, some (.arr 11 [wc x.row] 0)),
      (10752, some (.box [.c (.int .i64 8), zi, zs, zi, .arr 10624 1, .arr 10822 i, zi, zs, zi, zi, .nil])), (10822, some (.arr 14 (wr (Exp.armRows arms)) 0))]⟩
/-- Ahead of the j-th variable of the i-th arm. -/
def VarI (L : List Int) (ds : List DataD) (dd : DataD) (x : Exp) (arms : List (ArmH × Exp)) (con : Str) (d i j : Nat) (s : St) : Prop := ∃ vars J, vars.length = j ∧ J ≤ L.length ∧
  s = ⟨[(0, .sc (.ptr 0 0)), (1, datasV ds), (2, intV (d + 1)), (6, .sc (.ptr 64 0)), (13, .sc (.ptr 10176 0)), (14, .sc (.ptr 10752 0)), (15, intV i), (16, .sc (.ptr 11712 0)), (17, intV j)],
    [(0, some (tapeO L J)), (64, some (.box [zi, zi, zs, zi, .nil, .nil, zi, zs, zi, zi, .nil])), (10176, some (.box (wc (dataRow dd)))), (10624, some (.arr 11 [wc x.row] 0)),
      (10752, some (.box [.c (.int .i64 8), zi, zs, zi, .arr 10624 1, .arr 10822 i, zi, zs, zi, zi, .nil])), (10822, some (.arr 14 (wr (Exp.armRows arms)) 0)),
      (11712, some (.box [zi, .c (.str con), .arr 11779 j, zi, zi, zs, zi, .nil, .nil, zi, zs, zi, zi, .nil])), (11779, some (.arr 1 (wr (strRows vars)) 0))]⟩

theorem wp_assocE {C : Ctx} {a b c : VCode} {Q : Ex → St → Prop} {s : St} (s1 : St) (h1 : wp C a (fun e s => e = .normal ∧ s = s1) s) (h2 : wp C (.seq b c) Q s1) : wp C (.seq (.seq a b) c) Q s := by
  rw [wp_seq, wp_seq]
  refine wp_mono h1 ?_
  rintro e s' ⟨rfl, rfl⟩
  simp only [thenQ]
  rw [wp_seq] at h2
  exact h2

set_option maxHeartbeats 8000000 in
theorem raw11 (L : List Int) (ds : List DataD) (hL : L.length ≤ 1073741824) (hds : goodDs ds) : ∀ (d I : Nat), d ≤ 4 → I ≤ L.length →
    ∃ r, RawP L (32 ^ d) r ∧ (K A).call 11 [.sc (.ptr 0 0), datasV ds, intV d] [tapeO L I] = some r := by
  intro d
  induction d using Nat.strongRecOn with
  | ind d ih =>
  intro I hd hI
  obtain ⟨k, J, hk, hJ, hc⟩ := next37 (A := A) L I 14 hI hL (by omega) (by omega)
  refine fn_ofE _ (vf := v11) (by kernel_rfl) rfl (by simp) ?_
  have hp := pow_pos32 d
  have hds1 := hds.1
  obtain ⟨c, hc14, hcd, hcs⟩ : ∃ c : Nat, c < 14 ∧ (d = 0 → c < 5) ∧ ((d = 0 ∧ (k : Int).tmod 5 = c) ∨ (d ≠ 0 ∧ k = c)) := by
    by_cases h : d = 0
    · refine ⟨k % 5, by omega, fun _ => by omega, .inl ⟨h, rfl⟩⟩
    · exact ⟨k, by omega, fun h' => absurd h' h, .inr ⟨h, rfl⟩⟩
  unfold v11
  refine wp_seqE ⟨[(0, .sc (.ptr 0 0)), (1, datasV ds), (2, intV d), (6, .sc (.ptr 64 0))], [(0, some (tapeO L I)), (64, some (.box [zi, zi, zs, zi, .nil, .nil, zi, zs, zi, zi, .nil]))]⟩ (by simp) ?_
  refine wp_seqE ⟨[(0, .sc (.ptr 0 0)), (1, datasV ds), (2, intV d), (6, .sc (.ptr 64 0)), (7, intV k)], [(0, some (tapeO L J)), (64, some (.box [zi, zi, zs, zi, .nil, .nil, zi, zs, zi, zi, .nil]))]⟩ (by simp [hc]) ?_
  refine wp_seqI (fun s => s = ⟨[(0, .sc (.ptr 0 0)), (1, datasV ds), (2, intV d), (6, .sc (.ptr 64 0)), (7, intV c)], [(0, some (tapeO L J)), (64, some (.box [zi, zi, zs, zi, .nil, .nil, zi, zs, zi, zi, .nil]))]⟩ ∨
    s = ⟨[(0, .sc (.ptr 0 0)), (1, datasV ds), (2, intV d), (6, .sc (.ptr 64 0)), (7, intV c), (21, boolV false)], [(0, some (tapeO L J)), (64, some (.box [zi, zi, zs, zi, .nil, .nil, zi, zs, zi, zi, .nil]))]⟩) ?_ ?_
  · rcases hcs with ⟨h0, h1⟩ | ⟨h0, rfl⟩
    · subst h0
      simp (disch := first | omega | (simp; done) | (simp; omega)) [h1]
    · have h0' : ¬ (d : Int) < 1 := by omega
      simp (disch := first | omega | (simp; done) | (simp; omega)) [h0']
  · intro s hs
    refine wp_assocE ⟨[(0, .sc (.ptr 0 0)), (1, datasV ds), (2, intV d), (6, .sc (.ptr 64 0)), (24, intV c)], [(0, some (tapeO L J)), (64, some (.box [zi, zi, zs, zi, .nil, .nil, zi, zs, zi, zi, .nil]))]⟩ (by rcases hs with rfl | rfl <;> simp) ?_
    clear hs s hcs hc hk
    have leaf : ∀ (kind num : Int) (name : Str) (J : Nat), J ≤ L.length → kind ≠ 8 → RawP L (32 ^ d) (expV (.mk kind 0 name num [] [] tz), [tapeO L J]) := by
      intro kind num name J hJ h8
      refine ⟨_, J, ?_, ?_, hJ, rfl⟩
      · rw [wf_mk]
        simp [h8]
      · rw [weight_mk]
        simpa using hp
    by_cases h5 : c < 5
    · have : c = 0 ∨ c = 1 ∨ c = 2 ∨ c = 3 ∨ c = 4 := by omega
      rcases this with rfl | rfl | rfl | rfl | rfl
      · obtain ⟨s, J1, _, hJ1, hc1⟩ := variable38 (A := A) L J hJ hL
        simp (disch := first | omega | (simp; done) | (simp; omega)) [hc1]
        exact leaf 1 0 s J1 hJ1 (by decide)
      · obtain ⟨s, J1, _, hJ1, hc1⟩ := variable38 (A := A) L J hJ hL
        simp (disch := first | omega | (simp; done) | (simp; omega)) [hc1]
        exact leaf 1 0 s J1 hJ1 (by decide)
      · obtain ⟨n, J1, _, hJ1, hc1⟩ := next37 (A := A) L J 4 hJ hL (by omega) (by omega)
        simp (disch := first | omega | (simp; done) | (simp; omega)) [hc1]
        exact leaf 3 n [] J1 hJ1 (by decide)
      · by_cases hz : ds = []
        · subst hz
          have hz2 : dataRows [] = [] := rfl
          simp (disch := first | omega | (simp; done) | (simp; omega)) [hz2]
          exact leaf 2 0 [71, 111, 110, 101] J hJ (by decide)
        · have hpos : 0 < ds.length := List.length_pos_iff.2 hz
          obtain ⟨m, J1, hm, hJ1, hc1⟩ := next37 (A := A) L J ds.length hJ hL (by omega) (by omega)
          obtain ⟨dd, hdd⟩ := get_of_lt (l := ds) (i := m) (by omega)
          have hgood := hds.2 dd (List.mem_of_getElem? hdd)
          obtain ⟨q, J2, hq, hJ2, hc2⟩ := next37 (A := A) L J1 dd.cons.length hJ1 hL (by have := hgood.2.1; omega) (by have := hgood.2.2.1; omega)
          obtain ⟨cc, hcc⟩ := get_of_lt (l := dd.cons) (i := q) (by omega)
          simp (disch := first | omega | (simp; done) | (simp; omega)) [hpos, hc1, hdd, hc2, hcc, -getElem?_pos]
          exact leaf 2 0 cc.name J2 hJ2 (by decide)
      · simp (disch := first | omega | (simp; done) | (simp; omega))
        exact leaf 10 0 [] J hJ (by decide)
    · obtain ⟨d', rfl⟩ : ∃ d', d = d' + 1 := ⟨d - 1, by omega⟩
      have ih1 : ∀ I, I ≤ L.length → ∃ r, RawP L (32 ^ d') r ∧ (K A).call 11 [.sc (.ptr 0 0), datasV ds, intV d'] [tapeO L I] = some r := fun I hI => ih d' (by omega) I (by omega) hI
      have hp' := pow_pos32 d'
      have h32 : 32 ^ (d' + 1) = 32 * 32 ^ d' := by rw [Nat.pow_succ, Nat.mul_comm]
      rw [h32]
      have : c = 5 ∨ c = 6 ∨ c = 7 ∨ c = 8 ∨ c = 9 ∨ c = 10 ∨ c = 11 ∨ c = 12 ∨ c = 13 := by omega
      rcases this with rfl | rfl | rfl | rfl | rfl | rfl | rfl | rfl | rfl
      · obtain ⟨s, J1, _, hJ1, hc1⟩ := variable38 (A := A) L J hJ hL
        obtain ⟨_, ⟨x, J2, hx, hxw, hJ2, rfl⟩, hc2⟩ := ih1 J1 hJ1
        simp (disch := first | omega | (simp; done) | (simp; omega)) [hc1, hc2]
        refine ⟨.mk 4 0 s 0 [x] [] tz, J2, by rw [wf_mk]; simp [hx], by rw [weight_mk]; simp; omega, hJ2, ?_⟩
        simp [expV, Exp.row, tz, Ty.kind, Ty.name, Ty.id, Ty.home, Ty.args]
      · obtain ⟨s, J1, _, hJ1, hc1⟩ := variable38 (A := A) L J hJ hL
        obtain ⟨_, ⟨x, J2, hx, hxw, hJ2, rfl⟩, hc2⟩ := ih1 J1 hJ1
        simp (disch := first | omega | (simp; done) | (simp; omega)) [hc1, hc2]
        refine ⟨.mk 4 0 s 0 [x] [] tz, J2, by rw [wf_mk]; simp [hx], by rw [weight_mk]; simp; omega, hJ2, ?_⟩
        simp [expV, Exp.row, tz, Ty.kind, Ty.name, Ty.id, Ty.home, Ty.args]
      · obtain ⟨_, ⟨x, J1, hx, hxw, hJ1, rfl⟩, hc1⟩ := ih1 J hJ
        obtain ⟨_, ⟨y, J2, hy, hyw, hJ2, rfl⟩, hc2⟩ := ih1 J1 hJ1
        simp (disch := first | omega | (simp; done) | (simp; omega)) [hc1, hc2]
        refine ⟨.mk 5 0 [] 0 [x, y] [] tz, J2, by rw [wf_mk]; simp [hx, hy], by rw [weight_mk]; simp; omega, hJ2, ?_⟩
        simp [expV, Exp.row, tz, Ty.kind, Ty.name, Ty.id, Ty.home, Ty.args]
      · obtain ⟨_, ⟨x, J1, hx, hxw, hJ1, rfl⟩, hc1⟩ := ih1 J hJ
        obtain ⟨_, ⟨y, J2, hy, hyw, hJ2, rfl⟩, hc2⟩ := ih1 J1 hJ1
        simp (disch := first | omega | (simp; done) | (simp; omega)) [hc1, hc2]
        refine ⟨.mk 5 0 [] 0 [x, y] [] tz, J2, by rw [wf_mk]; simp [hx, hy], by rw [weight_mk]; simp; omega, hJ2, ?_⟩
        simp [expV, Exp.row, tz, Ty.kind, Ty.name, Ty.id, Ty.home, Ty.args]
      · obtain ⟨_, ⟨x, J1, hx, hxw, hJ1, rfl⟩, hc1⟩ := ih1 J hJ
        obtain ⟨_, ⟨y, J2, hy, hyw, hJ2, rfl⟩, hc2⟩ := ih1 J1 hJ1
        simp (disch := first | omega | (simp; done) | (simp; omega)) [hc1, hc2]
        refine ⟨.mk 5 0 [] 0 [x, y] [] tz, J2, by rw [wf_mk]; simp [hx, hy], by rw [weight_mk]; simp; omega, hJ2, ?_⟩
        simp [expV, Exp.row, tz, Ty.kind, Ty.name, Ty.id, Ty.home, Ty.args]
      · obtain ⟨n, J0, hn, hJ0, hc0⟩ := next37 (A := A) L J 2 hJ hL (by omega) (by omega)
        obtain ⟨s, J1, _, hJ1, hc1⟩ := variable38 (A := A) L J0 hJ0 hL
        obtain ⟨_, ⟨x, J2, hx, hxw, hJ2, rfl⟩, hc2⟩ := ih1 J1 hJ1
        obtain ⟨_, ⟨y, J3, hy, hyw, hJ3, rfl⟩, hc3⟩ := ih1 J2 hJ2
        simp (disch := first | omega | (simp; done) | (simp; omega)) [hc0, hc1, hc2, hc3]
        refine ⟨.mk (6 + n) 0 s 0 [x, y] [] tz, J3, by rw [wf_mk]; simp [hx, hy]; omega, by rw [weight_mk]; simp; omega, hJ3, ?_⟩
        simp [expV, Exp.row, tz, Ty.kind, Ty.name, Ty.id, Ty.home, Ty.args]
      · obtain ⟨_, ⟨x, J1, hx, hxw, hJ1, rfl⟩, hc1⟩ := ih1 J hJ
        obtain ⟨_, ⟨ty, J2, hJ2, rfl⟩, hc2⟩ := type39 (A := A) L ds hL hds 2 J1 (by omega) hJ1
        simp at hc2
        simp (disch := first | omega | (simp; done) | (simp; omega)) [hc1, hc2]
        refine ⟨.mk 9 0 [] 0 [x] [] ty, J2, by rw [wf_mk]; simp [hx], by rw [weight_mk]; simp; omega, hJ2, ?_⟩
        simp [expV, Exp.row, Ty.row_eq]
      · obtain ⟨_, ⟨x, J1, hx, hxw, hJ1, rfl⟩, hc1⟩ := ih1 J hJ
        simp (disch := first | omega | (simp; done) | (simp; omega)) [hc1]
        refine ⟨.mk 11 0 [] 0 [x] [] tz, J1, by rw [wf_mk]; simp [hx], by rw [weight_mk]; simp; omega, hJ1, ?_⟩
        simp [expV, Exp.row, tz, Ty.kind, Ty.name, Ty.id, Ty.home, Ty.args]
      · by_cases hz : ds = []
        · subst hz
          have hz2 : dataRows [] = [] := rfl
          obtain ⟨_, ⟨x, J1, hx, hxw, hJ1, rfl⟩, hc1⟩ := ih1 J hJ
          simp [datasV, hz2] at hc1
          simp (disch := first | omega | (simp; done) | (simp; omega)) [datasV, hz2, hc1]
          exact ⟨x, J1, hx, by omega, hJ1, rfl⟩
        · have hpos : ds.length ≠ 0 := by have := List.length_pos_iff.2 hz; omega
          obtain ⟨m, J1, hm, hJ1, hc1⟩ := next37 (A := A) L J ds.length hJ hL (by omega) (by omega)
          obtain ⟨dd, hdd⟩ := get_of_lt (l := ds) (i := m) (by omega)
          have hgood := hds.2 dd (List.mem_of_getElem? hdd)
          obtain ⟨hg1, hg2, hg3, hg4⟩ := hgood
          obtain ⟨_, ⟨x, J2, hx, hxw, hJ2, rfl⟩, hc2⟩ := ih1 J1 hJ1
          simp (disch := first | omega | (simp; done) | (simp; omega)) [hz, hc1, hdd, hc2, -getElem?_pos]
          refine wp_loopI (ArmI L ds dd x (32 ^ d') d') dd.cons.length ⟨[], J2, rfl, hJ2, by simp, by simp⟩ ?_ ?_
          · rintro i s hi ⟨arms, J3, harms, hJ3, hall, rfl⟩
            obtain ⟨cc, hcc⟩ := get_of_lt hi
            have hfl := hg4 cc (List.mem_of_getElem? hcc)
            unfold l11_1
            simp (disch := first | omega | (simp; done) | (simp; omega)) [hi, hcc, harms, -getElem?_pos]
            refine wp_loopI (VarI L ds dd x arms cc.name d' i) cc.fields.length ⟨[], J3, rfl, hJ3, by simp [harms]⟩ ?_ ?_
            · rintro j s hj ⟨vars, J4, hvars, hJ4, rfl⟩
              obtain ⟨v, J5, _, hJ5, hc5⟩ := variable38 (A := A) L J4 hJ4 hL
              unfold l11_0
              simp (disch := first | omega | (simp; done) | (simp; omega)) [hi, hj, hcc, hc5, hvars, harms, -getElem?_pos]
              exact ⟨vars ++ [v], J5, by simp [hvars], hJ5, by simp [harms]⟩
            · rintro s ⟨vars, J4, hvars, hJ4, rfl⟩
              obtain ⟨_, ⟨y, J5, hy, hyw, hJ5, rfl⟩, hc5⟩ := ih1 J4 hJ4
              unfold l11_0
              simp (disch := first | omega | (simp; done) | (simp; omega)) [hi, hcc, hc5, hvars, harms, -getElem?_pos]
              refine ⟨arms ++ [(⟨0, cc.name, vars⟩, y)], J5, by simp [harms], hJ5, ?_, ?_⟩
              · intro a ha
                rcases List.mem_append.1 ha with ha | ha
                · exact hall a ha
                · simp only [List.mem_singleton] at ha
                  subst ha
                  exact ⟨hy, hyw, by simp only; omega⟩
              · simp [harms, Exp.armRows_map, wr, armRow]
          · rintro s ⟨arms, J3, harms, hJ3, hall, rfl⟩
            unfold l11_1
            simp (disch := first | omega | (simp; done) | (simp; omega)) [harms, -getElem?_pos]
            refine ⟨.mk 8 0 [] 0 [x] arms tz, J3, ?_, ?_, hJ3, ?_⟩
            · rw [wf_mk]
              simp only [hx, List.mem_singleton, forall_eq, List.length_singleton]
              exact ⟨by simp, trivial, fun a ha => (hall a ha).1⟩
            · rw [weight_mk]
              have h1 : (arms.map fun a => a.1.vars.length).sum ≤ (arms.map fun _ => 4).sum := sum_le fun a ha => (hall a ha).2.2
              have h2 : (arms.map fun a => a.2.weight).sum ≤ (arms.map fun _ => 32 ^ d').sum := sum_le fun a ha => (hall a ha).2.1
              simp only [List.map_const', List.sum_replicate_nat, harms] at h1 h2
              simp only [List.map_cons, List.map_nil, List.sum_cons, List.sum_nil]
              have h3 : dd.cons.length * 32 ^ d' ≤ 6 * 32 ^ d' := Nat.mul_le_mul_right _ hg3
              omega
            · simp [expV, Exp.row, tz, Ty.kind, Ty.name, Ty.id, Ty.home, Ty.args]

end Go.Vs.Tryz

/- Declarations chosen by bits, two made expressions, and Proper, walked. -/
namespace Go.Vs.Tryz
open Go Go.Vs
variable {A : Oracle}

def DatasP (r : V × List Obj) : Prop := ∃ ds, goodDs ds ∧ r = (datasV ds, [])
def DatasI (bits : Int) (ds7 : List DataD) (i : Nat) (s : St) : Prop := ∃ ds : List DataD, ds.length ≤ i + 1 ∧ (∀ d ∈ ds, goodD d) ∧
  s = ⟨[(0, intV bits), (3, datasV ds7), (4, .sc (.arr 257 ds.length)), (5, intV i)], [(257, some (.arr 4 (wr (dataRows ds)) 0))]⟩
@[simp] theorem dataRows0 : dataRows [] = [] := rfl
@[simp] theorem dataRows1 (d : DataD) : wr (dataRows [d]) = [wc (dataRow d)] := rfl

set_option maxHeartbeats 2000000 in
theorem datas21 (bits : Int) (ds7 : List DataD) (h7 : ds7.length = 7) (hg : ∀ d ∈ ds7, goodD d) (h55 : (K A).call 55 [] [] = some (datasV ds7, [])) :
    ∃ r, DatasP r ∧ (K A).call 21 [intV bits] [] = some r := by
  refine fn_ofE _ (vf := v21) (by kernel_rfl) rfl (by simp) ?_
  obtain ⟨d1, hd1⟩ := get_of_lt (l := ds7) (i := 1) (by omega)
  have hgd1 := hg d1 (List.mem_of_getElem? hd1)
  have fin : ∀ s, DatasI bits ds7 0 s → wp (K A) (.loop l21_0) (blockQ 0 (thenQ (K A) (.seq (.region [] [o 44 (.mv (tv 4)), o 2 (.mv (tv 44))] [] [2]) .ret) (endsQ false 0 [.tmp 2] DatasP))) s := by
    intro s hs
    refine wp_loopI (DatasI bits ds7) 7 hs ?_ ?_
    · rintro i s hi ⟨ds, hds1, hds2, rfl⟩
      obtain ⟨d, hd⟩ := get_of_lt (l := ds7) (i := i) (by omega)
      have hgd := hg d (List.mem_of_getElem? hd)
      have hi2 : (i : Int) < 7 := by omega
      unfold l21_0
      by_cases hi1 : i = 1
      · subst hi1
        simp (disch := first | omega | (simp; done) | (simp; omega)) [h7, hd, -getElem?_pos]
        exact ⟨ds, by omega, hds2, by simp⟩
      · have hi1' : ¬ (i : Int) = 1 := by omega
        by_cases hb : andI .i64 (shrI .i64 bits i) 1 = 1
        · simp (disch := first | omega | (simp; done) | (simp; omega)) [h7, hd, hi2, hi1', hb, -getElem?_pos]
          refine ⟨ds ++ [d], by simp; omega, ?_, by simp⟩
          intro x hx
          rcases List.mem_append.1 hx with hx | hx
          · exact hds2 x hx
          · simp only [List.mem_singleton] at hx
            exact hx ▸ hgd
        · simp (disch := first | omega | (simp; done) | (simp; omega)) [h7, hd, hi2, hi1', hb, -getElem?_pos]
          exact ⟨ds, by omega, hds2, by simp⟩
    · rintro s ⟨ds, hds1, hds2, rfl⟩
      unfold l21_0
      simp (disch := first | omega | (simp; done) | (simp; omega)) [h7, -getElem?_pos]
      exact ⟨ds, ⟨by omega, hds2⟩, rfl⟩
  unfold v21
  by_cases h1 : andI .i64 bits 2 = 0
  · by_cases h2 : andI .i64 bits 64 = 0
    · simp (disch := first | omega | (simp; done) | (simp; omega)) [h55, h1, h2, -getElem?_pos]
      exact fin _ ⟨[], by simp, by simp, by simp⟩
    · simp (disch := first | omega | (simp; done) | (simp; omega)) [h55, h1, h2, h7, hd1, -getElem?_pos]
      exact fin _ ⟨[d1], by simp, by simp [hgd1], by simp⟩
  · simp (disch := first | omega | (simp; done) | (simp; omega)) [h55, h1, h7, hd1, -getElem?_pos]
    exact fin _ ⟨[d1], by simp, by simp [hgd1], by simp⟩

def MadeP (L : List Int) (r : V × List Obj) : Prop := ∃ a b J, a.wf ∧ a.weight ≤ 32 ^ 4 ∧ b.wf ∧ b.weight ≤ 32 ^ 3 ∧ J ≤ L.length ∧ r = (.tu [expV a, expV b, .sc (.ptr 0 0)], [tapeO L J])

theorem made16 (bits : Int) (L : List Int) (hL : L.length ≤ 1073741824) (h21 : ∃ r, DatasP r ∧ (K A).call 21 [intV bits] [] = some r) :
    ∃ r, MadeP L r ∧ (K A).call 16 [intV bits, .sc (.c (.sl (intRows L)))] [] = some r := by
  refine fn_ofE _ (vf := v16) (by kernel_rfl) rfl (by simp) ?_
  obtain ⟨_, ⟨ds, hds, rfl⟩, hc⟩ := h21
  obtain ⟨_, ⟨a, J1, ha, haw, hJ1, rfl⟩, hc1⟩ := raw11 (A := A) L ds hL hds 4 0 (by omega) (by omega)
  obtain ⟨_, ⟨b, J2, hb, hbw, hJ2, rfl⟩, hc2⟩ := raw11 (A := A) L ds hL hds 3 J1 (by omega) hJ1
  simp [tapeO, intV, datasV] at hc1 hc2
  unfold v16
  simp (disch := first | omega | (simp; done) | (simp; omega)) [hc, hc1, hc2]
  exact ⟨a, b, J2, ha, haw, hb, hbw, hJ2, rfl⟩

def BoolP (r : V × List Obj) : Prop := ∃ b, r = (boolV b, [])

set_option maxHeartbeats 2000000 in
theorem proper17 (e : Exp) : e.weight ≤ 1073741824 → ∃ r, BoolP r ∧ (K A).call 17 [expV e] [] = some r := by
  induction e using Exp.ind with
  | h e ih =>
  intro hl
  refine fn_ofE _ (vf := v17) (by kernel_rfl) rfl (by simp) ?_
  have hle := e.children_le
  rw [e.children_len] at hle
  have hc := children50 (A := A) e (by omega)
  unfold v17
  simp (disch := first | omega | (simp; done) | (simp; omega))
  refine wp_loopI (fun i s => s = ⟨[(1, .sc (.ptr 64 0)), (3, intV i)], [(64, some (.box (wc e.row)))]⟩) e.arms.length (by simp) ?_ ?_
  · rintro i s hi rfl
    obtain ⟨a, ha⟩ := get_of_lt hi
    have hv := Exp.vars_le (List.mem_of_getElem? ha)
    unfold l17_2
    simp (disch := first | omega | (simp; done) | (simp; omega)) [hi, ha, -getElem?_pos]
    refine wp_loopI (fun k s => s = ⟨[(1, .sc (.ptr 64 0)), (3, intV i), (4, strsV a.1.vars), (5, intV k)], [(64, some (.box (wc e.row)))]⟩) a.1.vars.length (by simp) ?_ ?_
    · rintro k s hk rfl
      obtain ⟨x, hx⟩ := get_of_lt hk
      unfold l17_1
      simp (disch := first | omega | (simp; done) | (simp; omega)) [hi, ha, hk, -getElem?_pos]
      refine wp_loopI (fun j s => s = ⟨[(1, .sc (.ptr 64 0)), (3, intV i), (4, strsV a.1.vars), (5, intV k), (6, intV j)], [(64, some (.box (wc e.row)))]⟩) k (by simp) ?_ ?_
      · rintro j s hj rfl
        obtain ⟨y, hy⟩ := get_of_lt (l := a.1.vars) (i := j) (by omega)
        unfold l17_0
        by_cases hxy : y = x
        · simp (disch := first | omega | (simp; done) | (simp; omega)) [hj, hx, hy, hxy, -getElem?_pos]
          exact ⟨false, rfl⟩
        · simp (disch := first | omega | (simp; done) | (simp; omega)) [hj, hx, hy, hxy, -getElem?_pos]
      · rintro s rfl
        unfold l17_0
        simp (disch := first | omega | (simp; done) | (simp; omega))
    · rintro s rfl
      unfold l17_1
      simp (disch := first | omega | (simp; done) | (simp; omega))
  · rintro s rfl
    unfold l17_2
    simp (disch := first | omega | (simp; done) | (simp; omega)) [hc]
    refine wp_loopI (fun i s => s = ⟨[(7, .sc (.c (.sl (Exp.rows e.children)))), (8, intV i)], []⟩) e.children.length (by simp) ?_ ?_
    · rintro i s hi rfl
      obtain ⟨x, hx⟩ := get_of_lt hi
      have hmem := List.mem_of_getElem? hx
      obtain ⟨_, ⟨b, rfl⟩, h17⟩ := ih x hmem (by have := Exp.child_lt hmem; omega)
      rw [e.children_len] at hi
      have hi' : (i : Int) < (e.kids.length : Int) + e.arms.length := by omega
      unfold l17_3
      cases b with
      | true => simp (disch := first | omega | (simp; done) | (simp; omega)) [hi', hx, h17, -getElem?_pos]
      | false =>
        simp (disch := first | omega | (simp; done) | (simp; omega)) [hi', hx, h17, -getElem?_pos]
        exact ⟨false, rfl⟩
    · rintro s rfl
      unfold l17_3
      simp (disch := first | omega | (simp; done) | (simp; omega))
      exact ⟨true, rfl⟩

end Go.Vs.Tryz

/- NamesFree, walked: it says true. -/
namespace Go.Vs.Tryz
open Go Go.Vs
variable {A : Oracle}

theorem K15 (h : A 15 [] [] = some (boolV true, [])) : (K A).call 15 [] [] = some (boolV true, []) := by
  refine lim_X (by kernel_rfl) ?_
  simp only [X2, show skip 15 = true from rfl, cond_true, h]

set_option maxHeartbeats 2000000 in
theorem law4 (bits : Int) (L : List Int) (ds7 : List DataD) (h7 : ds7.length = 7) (hg : ∀ d ∈ ds7, goodD d) (h55 : (K A).call 55 [] [] = some (datasV ds7, [])) (h15 : (K A).call 15 [] [] = some (boolV true, [])) :
    (K A).call 4 [intV bits, .sc (.c (.sl (intRows L)))] [] = some (boolV true, []) := by
  refine fn_of (vf := v4) (by kernel_rfl) rfl (by simp) ?_
  have h8 : (K A).call 8 [.sc (.c (.sl (intRows L)))] [] = some (boolV (decide (L.length ≤ 60)), []) := few8 L
  unfold v4
  by_cases hL : L.length ≤ 60
  · obtain ⟨_, ⟨a, b, J, ha, haw, hb, hbw, hJ, rfl⟩, hc⟩ := made16 (A := A) bits L (by omega) (datas21 bits ds7 h7 hg h55)
    have haw' : a.weight ≤ 1073741824 := Nat.le_trans haw (by decide)
    have hbw' : b.weight ≤ 1073741824 := Nat.le_trans hbw (by decide)
    obtain ⟨_, ⟨p, rfl⟩, hpa⟩ := proper17 (A := A) a haw'
    obtain ⟨_, ⟨q, rfl⟩, hpb⟩ := proper17 (A := A) b hbw'
    have f1 := free19 (A := A) a ha haw'
    have f2 := free19 (A := A) b hb hbw'
    have g1 := free20 (A := A) a ha haw'
    have g2 := free20 (A := A) b hb hbw'
    have s1 := same18 (A := A) (freeP a) (freeP a) (by have := freeP_len a; omega)
    have s2 := same18 (A := A) (freeP b) (freeP b) (by have := freeP_len b; omega)
    rw [free_same a ha] at g1
    rw [free_same b hb] at g2
    cases p with
    | false =>
      simp (disch := first | omega | (simp; done) | (simp; omega)) [h15, h8, hL, hc, hpa]
      done
    | true => cases q with
      | false =>
        simp (disch := first | omega | (simp; done) | (simp; omega)) [h15, h8, hL, hc, hpa, hpb]
        done
      | true =>
        simp (disch := first | omega | (simp; done) | (simp; omega)) [h15, h8, hL, hc, hpa, hpb, f1, f2, g1, g2, s1, s2]
        done
  · simp (disch := first | omega | (simp; done) | (simp; omega)) [h15, h8, hL]
    done

end Go.Vs.Tryz
